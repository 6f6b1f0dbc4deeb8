/-
  Models and laws.
-/
import Derived.Test.YteidcinajdehkaaQODbase
import Derived.Test.YteidcinajdehkaaQOV41
set_option linter.unusedSimpArgs false
set_option linter.unusedVariables false
namespace Go.Proofs.Yteidcinajdehkaa
open Go.V
set_option maxRecDepth 100000
set_option maxHeartbeats 4000000
set_option linter.unusedSimpArgs false
set_option linter.unusedVariables false
attribute [local go_sem] tl1 tl2 tl3 tl4 tl5 tl9 tl17 tl21 tl22 tl23 tl24 tl25 tl26 tl27 tl28 tl29 tl30 tl32 tl33 tl35 tl36 tl37 tl38 tl39 tl40 tl41 tl42 tl43 tl44 tl46 tl48 tl50 tl51 tl52 tl53 tl54 tl56 tl58 tl59 tl60 tl61 tl62 tl63 tl64 tl65 tl66 tl67 tl68 tl69 tl70 tl72 tl74 tl75 tl76 tl77 tl78 tl79 tl80 tl81 tl82 tl83 tl84 tl85 tl86 tl87 tl88 tl89 tl90 tl91 tl92 tl93 tl94 tl95 tl96 tl97 tl98 tl99 tl100 tl101 tl102 tl103 tl104 tl105 tl106 tl107 tl108 tl109 tl110 tl111 tl112 tl113 tl114 tl115 tl116 tl117 tl118 tl119 tl120 tl121 tl122 tl128 tl129 tl133 ne_eq not_false_eq_true Int.le_refl Nat.le_refl Int.cast_ofNat_Int
noncomputable def m44_L2 (N : Nat) (c439 : List PV) (x446 : Int) (x1005 : Int) (n1006 : Nat) (c1007 : List PV) (x1028 : Int) : Nat → Int → Int → Option (Int)
  | 0, _, _ => none
  | n + 1, x1030, x1031 =>
    brn (decide (x1031 ≤ x1005)) (
      grd (0 ≤ x1028 ∧ x1028 < 3) <|
      grd (0 ≤ x1031 ∧ x1031 < 4) <|
      grd (((3 + ((Int.toNat x1028) * 4)) + (Int.toNat x1031)) < List.length c439) <|
      getI .u8 (gp c439 ((3 + ((Int.toNat x1028) * 4)) + (Int.toNat x1031))) fun x1039 =>
      m44_L2 N c439 x446 x1005 n1006 c1007 x1028 n (IntKind.i64.wrap (x1030 - (Int.tmod (IntKind.i64.wrap x1039) 3))) (IntKind.i64.wrap (x1031 + 1))) (
      some x1030)
noncomputable def m44_L1 (N : Nat) (c439 : List PV) (x446 : Int) (x1005 : Int) (n1006 : Nat) (c1007 : List PV) : Nat → Int → Int → Option (Int)
  | 0, _, _ => none
  | n + 1, x1027, x1028 =>
    brn (decide (x1028 ≤ 0)) (
      bnd' (m44_L2 N c439 x446 x1005 n1006 c1007 x1028 N x1027 1) fun x1040 =>
      m44_L1 N c439 x446 x1005 n1006 c1007 n x1040 (IntKind.i64.wrap (x1028 + 1))) (
      some x1027)
noncomputable def m44_L0 (N : Nat) (c439 : List PV) (x446 : Int) : Nat → Int → Nat → List PV → Option ((Nat × List PV))
  | 0, _, _, _ => none
  | n + 1, x1005, n1006, c1007 =>
    brn (decide (x1005 < (IntKind.i64.wrap (1 + (Int.tmod (IntKind.i64.wrap x446) 4))))) (
      grd (0 ≤ x1005 ∧ x1005 < 4) <|
      grd ((3 + (Int.toNat x1005)) < List.length c439) <|
      getI .u8 (gp c439 (3 + (Int.toNat x1005))) fun x1013 =>
      grd (21 ≠ 0) <|
      grd (2 < List.length c439) <|
      getI .u8 (gp c439 2) fun x1017 =>
      grd (2 ≠ 0) <|
      brn ((Int.tmod x1017 2) == 1) (
        grd (15 < List.length c439) <|
        getI .u8 (gp c439 15) fun x1022 =>
        grd (5 ≠ 0) <|
        grd ((18 + (Int.toNat x1005)) < List.length c439) <|
        getI .u8 (gp c439 (18 + (Int.toNat x1005))) fun x1026 =>
        bnd' (m44_L1 N c439 x446 x1005 n1006 c1007 N (IntKind.i64.wrap ((IntKind.i64.wrap (12 + (Int.tmod (IntKind.i64.wrap x1022) 5))) + (Int.tmod (IntKind.i64.wrap x1026) 5))) 1) fun x1041 =>
        grd ((n1006 + 1) ≤ 1099511627776) <|
        grd (List.length c1007 = n1006) <|
        m44_L0 N c439 x446 n (IntKind.i64.wrap (x1005 + 1)) (n1006 + 1) (c1007 ++ [(.int .i64 x1041)])) (
        grd ((n1006 + 1) ≤ 1099511627776) <|
        grd (List.length c1007 = n1006) <|
        m44_L0 N c439 x446 n (IntKind.i64.wrap (x1005 + 1)) (n1006 + 1) (c1007 ++ [(.int .i64 (Int.tmod (IntKind.i64.wrap x1013) 21))]))) (
      some (n1006, c1007))
noncomputable def m44_L5 (N : Nat) (c439 : List PV) (x446 : Int) (n1046 : Nat) (c1047 : List PV) (x1118 : Int) (n1119 : Nat) (c1120 : List PV) (x1141 : Int) : Nat → Int → Int → Option (Int)
  | 0, _, _ => none
  | n + 1, x1143, x1144 =>
    brn (decide (x1144 ≤ x1118)) (
      grd (0 ≤ x1141 ∧ x1141 < 3) <|
      grd (0 ≤ x1144 ∧ x1144 < 4) <|
      grd (((3 + ((Int.toNat x1141) * 4)) + (Int.toNat x1144)) < List.length c439) <|
      getI .u8 (gp c439 ((3 + ((Int.toNat x1141) * 4)) + (Int.toNat x1144))) fun x1152 =>
      m44_L5 N c439 x446 n1046 c1047 x1118 n1119 c1120 x1141 n (IntKind.i64.wrap (x1143 - (Int.tmod (IntKind.i64.wrap x1152) 3))) (IntKind.i64.wrap (x1144 + 1))) (
      some x1143)
noncomputable def m44_L4 (N : Nat) (c439 : List PV) (x446 : Int) (n1046 : Nat) (c1047 : List PV) (x1118 : Int) (n1119 : Nat) (c1120 : List PV) : Nat → Int → Int → Option (Int)
  | 0, _, _ => none
  | n + 1, x1140, x1141 =>
    brn (decide (x1141 ≤ 1)) (
      bnd' (m44_L5 N c439 x446 n1046 c1047 x1118 n1119 c1120 x1141 N x1140 1) fun x1153 =>
      m44_L4 N c439 x446 n1046 c1047 x1118 n1119 c1120 n x1153 (IntKind.i64.wrap (x1141 + 1))) (
      some x1140)
noncomputable def m44_L3 (N : Nat) (c439 : List PV) (x446 : Int) (n1046 : Nat) (c1047 : List PV) : Nat → Int → Nat → List PV → Option ((Nat × List PV))
  | 0, _, _, _ => none
  | n + 1, x1118, n1119, c1120 =>
    brn (decide (x1118 < (IntKind.i64.wrap (1 + (Int.tmod (IntKind.i64.wrap x446) 4))))) (
      grd (0 ≤ x1118 ∧ x1118 < 4) <|
      grd ((7 + (Int.toNat x1118)) < List.length c439) <|
      getI .u8 (gp c439 (7 + (Int.toNat x1118))) fun x1126 =>
      grd (21 ≠ 0) <|
      grd (2 < List.length c439) <|
      getI .u8 (gp c439 2) fun x1130 =>
      grd (2 ≠ 0) <|
      brn ((Int.tmod x1130 2) == 1) (
        grd (16 < List.length c439) <|
        getI .u8 (gp c439 16) fun x1135 =>
        grd (5 ≠ 0) <|
        grd ((18 + (Int.toNat x1118)) < List.length c439) <|
        getI .u8 (gp c439 (18 + (Int.toNat x1118))) fun x1139 =>
        bnd' (m44_L4 N c439 x446 n1046 c1047 x1118 n1119 c1120 N (IntKind.i64.wrap ((IntKind.i64.wrap (12 + (Int.tmod (IntKind.i64.wrap x1135) 5))) + (Int.tmod (IntKind.i64.wrap x1139) 5))) 1) fun x1154 =>
        grd ((n1119 + 1) ≤ 1099511627776) <|
        grd (List.length c1120 = n1119) <|
        m44_L3 N c439 x446 n1046 c1047 n (IntKind.i64.wrap (x1118 + 1)) (n1119 + 1) (c1120 ++ [(.int .i64 x1154)])) (
        grd ((n1119 + 1) ≤ 1099511627776) <|
        grd (List.length c1120 = n1119) <|
        m44_L3 N c439 x446 n1046 c1047 n (IntKind.i64.wrap (x1118 + 1)) (n1119 + 1) (c1120 ++ [(.int .i64 (Int.tmod (IntKind.i64.wrap x1126) 21))]))) (
      some (n1119, c1120))
noncomputable def m44_L8 (N : Nat) (c439 : List PV) (x446 : Int) (n1046 : Nat) (c1047 : List PV) (n1159 : Nat) (c1160 : List PV) (x1231 : Int) (n1232 : Nat) (c1233 : List PV) (x1254 : Int) : Nat → Int → Int → Option (Int)
  | 0, _, _ => none
  | n + 1, x1256, x1257 =>
    brn (decide (x1257 ≤ x1231)) (
      grd (0 ≤ x1254 ∧ x1254 < 3) <|
      grd (0 ≤ x1257 ∧ x1257 < 4) <|
      grd (((3 + ((Int.toNat x1254) * 4)) + (Int.toNat x1257)) < List.length c439) <|
      getI .u8 (gp c439 ((3 + ((Int.toNat x1254) * 4)) + (Int.toNat x1257))) fun x1265 =>
      m44_L8 N c439 x446 n1046 c1047 n1159 c1160 x1231 n1232 c1233 x1254 n (IntKind.i64.wrap (x1256 - (Int.tmod (IntKind.i64.wrap x1265) 3))) (IntKind.i64.wrap (x1257 + 1))) (
      some x1256)
noncomputable def m44_L7 (N : Nat) (c439 : List PV) (x446 : Int) (n1046 : Nat) (c1047 : List PV) (n1159 : Nat) (c1160 : List PV) (x1231 : Int) (n1232 : Nat) (c1233 : List PV) : Nat → Int → Int → Option (Int)
  | 0, _, _ => none
  | n + 1, x1253, x1254 =>
    brn (decide (x1254 ≤ 2)) (
      bnd' (m44_L8 N c439 x446 n1046 c1047 n1159 c1160 x1231 n1232 c1233 x1254 N x1253 1) fun x1266 =>
      m44_L7 N c439 x446 n1046 c1047 n1159 c1160 x1231 n1232 c1233 n x1266 (IntKind.i64.wrap (x1254 + 1))) (
      some x1253)
noncomputable def m44_L6 (N : Nat) (c439 : List PV) (x446 : Int) (n1046 : Nat) (c1047 : List PV) (n1159 : Nat) (c1160 : List PV) : Nat → Int → Nat → List PV → Option ((Nat × List PV))
  | 0, _, _, _ => none
  | n + 1, x1231, n1232, c1233 =>
    brn (decide (x1231 < (IntKind.i64.wrap (1 + (Int.tmod (IntKind.i64.wrap x446) 4))))) (
      grd (0 ≤ x1231 ∧ x1231 < 4) <|
      grd ((11 + (Int.toNat x1231)) < List.length c439) <|
      getI .u8 (gp c439 (11 + (Int.toNat x1231))) fun x1239 =>
      grd (21 ≠ 0) <|
      grd (2 < List.length c439) <|
      getI .u8 (gp c439 2) fun x1243 =>
      grd (2 ≠ 0) <|
      brn ((Int.tmod x1243 2) == 1) (
        grd (17 < List.length c439) <|
        getI .u8 (gp c439 17) fun x1248 =>
        grd (5 ≠ 0) <|
        grd ((18 + (Int.toNat x1231)) < List.length c439) <|
        getI .u8 (gp c439 (18 + (Int.toNat x1231))) fun x1252 =>
        bnd' (m44_L7 N c439 x446 n1046 c1047 n1159 c1160 x1231 n1232 c1233 N (IntKind.i64.wrap ((IntKind.i64.wrap (12 + (Int.tmod (IntKind.i64.wrap x1248) 5))) + (Int.tmod (IntKind.i64.wrap x1252) 5))) 1) fun x1267 =>
        grd ((n1232 + 1) ≤ 1099511627776) <|
        grd (List.length c1233 = n1232) <|
        m44_L6 N c439 x446 n1046 c1047 n1159 c1160 n (IntKind.i64.wrap (x1231 + 1)) (n1232 + 1) (c1233 ++ [(.int .i64 x1267)])) (
        grd ((n1232 + 1) ≤ 1099511627776) <|
        grd (List.length c1233 = n1232) <|
        m44_L6 N c439 x446 n1046 c1047 n1159 c1160 n (IntKind.i64.wrap (x1231 + 1)) (n1232 + 1) (c1233 ++ [(.int .i64 (Int.tmod (IntKind.i64.wrap x1239) 21))]))) (
      some (n1232, c1233))
noncomputable def m44_L9 (N : Nat) (c439 : List PV) (x446 : Int) (n1046 : Nat) (c1047 : List PV) (n1159 : Nat) (c1160 : List PV) (n1272 : Nat) (c1273 : List PV) (x1279 : Int) : Nat → Int → List PV → List PV → Option ((List PV × List PV))
  | 0, _, _, _ => none
  | n + 1, x1311, c1312, c1313 =>
    brn (decide (x1311 < (((Int.toNat (Int.tmod (IntKind.i64.wrap x1279) 8)) : Nat) : Int))) (
      grd (0 ≤ x1311 ∧ x1311 < (((Int.toNat (Int.tmod (IntKind.i64.wrap x1279) 8)) : Nat) : Int)) <|
      grd (((22 + ((Int.toNat x1311) * 2)) + 2) ≤ List.length c439) <|
      getA2 (.agg (List.take 2 (List.drop (22 + ((Int.toNat x1311) * 2)) c439))) fun p1319 p1320 =>
      getI .u8 p1319 fun x1322 =>
      getI .u8 p1320 fun x1324 =>
      grd ((IntKind.i64.wrap (1 + (Int.tmod (IntKind.i64.wrap x446) 4))) ≠ 0) <|
      grd (0 ≤ (Int.tmod (IntKind.i64.wrap x1322) 3) ∧ (Int.tmod (IntKind.i64.wrap x1322) 3) < 3) <|
      grd ((Int.toNat (Int.tmod (IntKind.i64.wrap x1322) 3)) < List.length c1312) <|
      getI .i64 (gp c1312 (Int.toNat (Int.tmod (IntKind.i64.wrap x1322) 3))) fun x1330 =>
      brn (decide (x1330 < 5)) (
        grd (0 ≤ (Int.tmod (IntKind.i64.wrap x1324) (IntKind.i64.wrap (1 + (Int.tmod (IntKind.i64.wrap x446) 4)))) ∧ (Int.tmod (IntKind.i64.wrap x1324) (IntKind.i64.wrap (1 + (Int.tmod (IntKind.i64.wrap x446) 4)))) < (((Int.toNat (IntKind.i64.wrap (1 + (Int.tmod (IntKind.i64.wrap x446) 4)))) : Nat) : Int)) <|
        grd ((Int.toNat (Int.tmod (IntKind.i64.wrap x1324) (IntKind.i64.wrap (1 + (Int.tmod (IntKind.i64.wrap x446) 4))))) < List.length c1313) <|
        getI .i64 (gp c1313 (Int.toNat (Int.tmod (IntKind.i64.wrap x1324) (IntKind.i64.wrap (1 + (Int.tmod (IntKind.i64.wrap x446) 4)))))) fun x1336 =>
        brn (decide (x1336 < 5)) (
          grd (((Int.toNat (Int.tmod (IntKind.i64.wrap x1322) 3)) + 1) ≤ List.length c1312) <|
          grd (((Int.toNat (Int.tmod (IntKind.i64.wrap x1324) (IntKind.i64.wrap (1 + (Int.tmod (IntKind.i64.wrap x446) 4))))) + 1) ≤ List.length c1313) <|
          m44_L9 N c439 x446 n1046 c1047 n1159 c1160 n1272 c1273 x1279 n (IntKind.i64.wrap (x1311 + 1)) (List.set c1312 (Int.toNat (Int.tmod (IntKind.i64.wrap x1322) 3)) (.int .i64 (IntKind.i64.wrap (x1330 + 1)))) (List.set c1313 (Int.toNat (Int.tmod (IntKind.i64.wrap x1324) (IntKind.i64.wrap (1 + (Int.tmod (IntKind.i64.wrap x446) 4))))) (.int .i64 (IntKind.i64.wrap (x1336 + 1))))) (
          m44_L9 N c439 x446 n1046 c1047 n1159 c1160 n1272 c1273 x1279 n (IntKind.i64.wrap (x1311 + 1)) c1312 c1313)) (
        m44_L9 N c439 x446 n1046 c1047 n1159 c1160 n1272 c1273 x1279 n (IntKind.i64.wrap (x1311 + 1)) c1312 c1313)) (
      some (c1312, c1313))
noncomputable def m44_L12 (N : Nat) (c439 : List PV) (x446 : Int) (x705 : Int) (n706 : Nat) (c707 : List PV) (x728 : Int) : Nat → Int → Int → Option (Int)
  | 0, _, _ => none
  | n + 1, x730, x731 =>
    brn (decide (x731 ≤ x705)) (
      grd (0 ≤ x728 ∧ x728 < 3) <|
      grd (0 ≤ x731 ∧ x731 < 4) <|
      grd (((3 + ((Int.toNat x728) * 4)) + (Int.toNat x731)) < List.length c439) <|
      getI .u8 (gp c439 ((3 + ((Int.toNat x728) * 4)) + (Int.toNat x731))) fun x739 =>
      m44_L12 N c439 x446 x705 n706 c707 x728 n (IntKind.i64.wrap (x730 - (Int.tmod (IntKind.i64.wrap x739) 3))) (IntKind.i64.wrap (x731 + 1))) (
      some x730)
noncomputable def m44_L11 (N : Nat) (c439 : List PV) (x446 : Int) (x705 : Int) (n706 : Nat) (c707 : List PV) : Nat → Int → Int → Option (Int)
  | 0, _, _ => none
  | n + 1, x727, x728 =>
    brn (decide (x728 ≤ 0)) (
      bnd' (m44_L12 N c439 x446 x705 n706 c707 x728 N x727 1) fun x740 =>
      m44_L11 N c439 x446 x705 n706 c707 n x740 (IntKind.i64.wrap (x728 + 1))) (
      some x727)
noncomputable def m44_L10 (N : Nat) (c439 : List PV) (x446 : Int) : Nat → Int → Nat → List PV → Option ((Nat × List PV))
  | 0, _, _, _ => none
  | n + 1, x705, n706, c707 =>
    brn (decide (x705 < (IntKind.i64.wrap (1 + (Int.tmod (IntKind.i64.wrap x446) 4))))) (
      grd (0 ≤ x705 ∧ x705 < 4) <|
      grd ((3 + (Int.toNat x705)) < List.length c439) <|
      getI .u8 (gp c439 (3 + (Int.toNat x705))) fun x713 =>
      grd (21 ≠ 0) <|
      grd (2 < List.length c439) <|
      getI .u8 (gp c439 2) fun x717 =>
      grd (2 ≠ 0) <|
      brn ((Int.tmod x717 2) == 1) (
        grd (15 < List.length c439) <|
        getI .u8 (gp c439 15) fun x722 =>
        grd (5 ≠ 0) <|
        grd ((18 + (Int.toNat x705)) < List.length c439) <|
        getI .u8 (gp c439 (18 + (Int.toNat x705))) fun x726 =>
        bnd' (m44_L11 N c439 x446 x705 n706 c707 N (IntKind.i64.wrap ((IntKind.i64.wrap (12 + (Int.tmod (IntKind.i64.wrap x722) 5))) + (Int.tmod (IntKind.i64.wrap x726) 5))) 1) fun x741 =>
        grd ((n706 + 1) ≤ 1099511627776) <|
        grd (List.length c707 = n706) <|
        m44_L10 N c439 x446 n (IntKind.i64.wrap (x705 + 1)) (n706 + 1) (c707 ++ [(.int .i64 x741)])) (
        grd ((n706 + 1) ≤ 1099511627776) <|
        grd (List.length c707 = n706) <|
        m44_L10 N c439 x446 n (IntKind.i64.wrap (x705 + 1)) (n706 + 1) (c707 ++ [(.int .i64 (Int.tmod (IntKind.i64.wrap x713) 21))]))) (
      some (n706, c707))
noncomputable def m44_L15 (N : Nat) (c439 : List PV) (x446 : Int) (n746 : Nat) (c747 : List PV) (x818 : Int) (n819 : Nat) (c820 : List PV) (x841 : Int) : Nat → Int → Int → Option (Int)
  | 0, _, _ => none
  | n + 1, x843, x844 =>
    brn (decide (x844 ≤ x818)) (
      grd (0 ≤ x841 ∧ x841 < 3) <|
      grd (0 ≤ x844 ∧ x844 < 4) <|
      grd (((3 + ((Int.toNat x841) * 4)) + (Int.toNat x844)) < List.length c439) <|
      getI .u8 (gp c439 ((3 + ((Int.toNat x841) * 4)) + (Int.toNat x844))) fun x852 =>
      m44_L15 N c439 x446 n746 c747 x818 n819 c820 x841 n (IntKind.i64.wrap (x843 - (Int.tmod (IntKind.i64.wrap x852) 3))) (IntKind.i64.wrap (x844 + 1))) (
      some x843)
noncomputable def m44_L14 (N : Nat) (c439 : List PV) (x446 : Int) (n746 : Nat) (c747 : List PV) (x818 : Int) (n819 : Nat) (c820 : List PV) : Nat → Int → Int → Option (Int)
  | 0, _, _ => none
  | n + 1, x840, x841 =>
    brn (decide (x841 ≤ 1)) (
      bnd' (m44_L15 N c439 x446 n746 c747 x818 n819 c820 x841 N x840 1) fun x853 =>
      m44_L14 N c439 x446 n746 c747 x818 n819 c820 n x853 (IntKind.i64.wrap (x841 + 1))) (
      some x840)
noncomputable def m44_L13 (N : Nat) (c439 : List PV) (x446 : Int) (n746 : Nat) (c747 : List PV) : Nat → Int → Nat → List PV → Option ((Nat × List PV))
  | 0, _, _, _ => none
  | n + 1, x818, n819, c820 =>
    brn (decide (x818 < (IntKind.i64.wrap (1 + (Int.tmod (IntKind.i64.wrap x446) 4))))) (
      grd (0 ≤ x818 ∧ x818 < 4) <|
      grd ((7 + (Int.toNat x818)) < List.length c439) <|
      getI .u8 (gp c439 (7 + (Int.toNat x818))) fun x826 =>
      grd (21 ≠ 0) <|
      grd (2 < List.length c439) <|
      getI .u8 (gp c439 2) fun x830 =>
      grd (2 ≠ 0) <|
      brn ((Int.tmod x830 2) == 1) (
        grd (16 < List.length c439) <|
        getI .u8 (gp c439 16) fun x835 =>
        grd (5 ≠ 0) <|
        grd ((18 + (Int.toNat x818)) < List.length c439) <|
        getI .u8 (gp c439 (18 + (Int.toNat x818))) fun x839 =>
        bnd' (m44_L14 N c439 x446 n746 c747 x818 n819 c820 N (IntKind.i64.wrap ((IntKind.i64.wrap (12 + (Int.tmod (IntKind.i64.wrap x835) 5))) + (Int.tmod (IntKind.i64.wrap x839) 5))) 1) fun x854 =>
        grd ((n819 + 1) ≤ 1099511627776) <|
        grd (List.length c820 = n819) <|
        m44_L13 N c439 x446 n746 c747 n (IntKind.i64.wrap (x818 + 1)) (n819 + 1) (c820 ++ [(.int .i64 x854)])) (
        grd ((n819 + 1) ≤ 1099511627776) <|
        grd (List.length c820 = n819) <|
        m44_L13 N c439 x446 n746 c747 n (IntKind.i64.wrap (x818 + 1)) (n819 + 1) (c820 ++ [(.int .i64 (Int.tmod (IntKind.i64.wrap x826) 21))]))) (
      some (n819, c820))
noncomputable def m44_L16 (N : Nat) (c439 : List PV) (x446 : Int) (n746 : Nat) (c747 : List PV) (n859 : Nat) (c860 : List PV) (x866 : Int) : Nat → Int → List PV → List PV → Option ((List PV × List PV))
  | 0, _, _, _ => none
  | n + 1, x899, c900, c901 =>
    brn (decide (x899 < (((Int.toNat (Int.tmod (IntKind.i64.wrap x866) 8)) : Nat) : Int))) (
      grd (0 ≤ x899 ∧ x899 < (((Int.toNat (Int.tmod (IntKind.i64.wrap x866) 8)) : Nat) : Int)) <|
      grd (((22 + ((Int.toNat x899) * 2)) + 2) ≤ List.length c439) <|
      getA2 (.agg (List.take 2 (List.drop (22 + ((Int.toNat x899) * 2)) c439))) fun p907 p908 =>
      getI .u8 p907 fun x910 =>
      grd (2 ≠ 0) <|
      getI .u8 p908 fun x913 =>
      grd ((IntKind.i64.wrap (1 + (Int.tmod (IntKind.i64.wrap x446) 4))) ≠ 0) <|
      grd (0 ≤ (Int.tmod (IntKind.i64.wrap x910) 2) ∧ (Int.tmod (IntKind.i64.wrap x910) 2) < 2) <|
      grd ((Int.toNat (Int.tmod (IntKind.i64.wrap x910) 2)) < List.length c900) <|
      getI .i64 (gp c900 (Int.toNat (Int.tmod (IntKind.i64.wrap x910) 2))) fun x919 =>
      brn (decide (x919 < 5)) (
        grd (0 ≤ (Int.tmod (IntKind.i64.wrap x913) (IntKind.i64.wrap (1 + (Int.tmod (IntKind.i64.wrap x446) 4)))) ∧ (Int.tmod (IntKind.i64.wrap x913) (IntKind.i64.wrap (1 + (Int.tmod (IntKind.i64.wrap x446) 4)))) < (((Int.toNat (IntKind.i64.wrap (1 + (Int.tmod (IntKind.i64.wrap x446) 4)))) : Nat) : Int)) <|
        grd ((Int.toNat (Int.tmod (IntKind.i64.wrap x913) (IntKind.i64.wrap (1 + (Int.tmod (IntKind.i64.wrap x446) 4))))) < List.length c901) <|
        getI .i64 (gp c901 (Int.toNat (Int.tmod (IntKind.i64.wrap x913) (IntKind.i64.wrap (1 + (Int.tmod (IntKind.i64.wrap x446) 4)))))) fun x925 =>
        brn (decide (x925 < 5)) (
          grd (((Int.toNat (Int.tmod (IntKind.i64.wrap x910) 2)) + 1) ≤ List.length c900) <|
          grd (((Int.toNat (Int.tmod (IntKind.i64.wrap x913) (IntKind.i64.wrap (1 + (Int.tmod (IntKind.i64.wrap x446) 4))))) + 1) ≤ List.length c901) <|
          m44_L16 N c439 x446 n746 c747 n859 c860 x866 n (IntKind.i64.wrap (x899 + 1)) (List.set c900 (Int.toNat (Int.tmod (IntKind.i64.wrap x910) 2)) (.int .i64 (IntKind.i64.wrap (x919 + 1)))) (List.set c901 (Int.toNat (Int.tmod (IntKind.i64.wrap x913) (IntKind.i64.wrap (1 + (Int.tmod (IntKind.i64.wrap x446) 4))))) (.int .i64 (IntKind.i64.wrap (x925 + 1))))) (
          m44_L16 N c439 x446 n746 c747 n859 c860 x866 n (IntKind.i64.wrap (x899 + 1)) c900 c901)) (
        m44_L16 N c439 x446 n746 c747 n859 c860 x866 n (IntKind.i64.wrap (x899 + 1)) c900 c901)) (
      some (c900, c901))
noncomputable def m44_L19 (N : Nat) (c439 : List PV) (x446 : Int) (x519 : Int) (n520 : Nat) (c521 : List PV) (x542 : Int) : Nat → Int → Int → Option (Int)
  | 0, _, _ => none
  | n + 1, x544, x545 =>
    brn (decide (x545 ≤ x519)) (
      grd (0 ≤ x542 ∧ x542 < 3) <|
      grd (0 ≤ x545 ∧ x545 < 4) <|
      grd (((3 + ((Int.toNat x542) * 4)) + (Int.toNat x545)) < List.length c439) <|
      getI .u8 (gp c439 ((3 + ((Int.toNat x542) * 4)) + (Int.toNat x545))) fun x553 =>
      m44_L19 N c439 x446 x519 n520 c521 x542 n (IntKind.i64.wrap (x544 - (Int.tmod (IntKind.i64.wrap x553) 3))) (IntKind.i64.wrap (x545 + 1))) (
      some x544)
noncomputable def m44_L18 (N : Nat) (c439 : List PV) (x446 : Int) (x519 : Int) (n520 : Nat) (c521 : List PV) : Nat → Int → Int → Option (Int)
  | 0, _, _ => none
  | n + 1, x541, x542 =>
    brn (decide (x542 ≤ 0)) (
      bnd' (m44_L19 N c439 x446 x519 n520 c521 x542 N x541 1) fun x554 =>
      m44_L18 N c439 x446 x519 n520 c521 n x554 (IntKind.i64.wrap (x542 + 1))) (
      some x541)
noncomputable def m44_L17 (N : Nat) (c439 : List PV) (x446 : Int) : Nat → Int → Nat → List PV → Option ((Nat × List PV))
  | 0, _, _, _ => none
  | n + 1, x519, n520, c521 =>
    brn (decide (x519 < (IntKind.i64.wrap (1 + (Int.tmod (IntKind.i64.wrap x446) 4))))) (
      grd (0 ≤ x519 ∧ x519 < 4) <|
      grd ((3 + (Int.toNat x519)) < List.length c439) <|
      getI .u8 (gp c439 (3 + (Int.toNat x519))) fun x527 =>
      grd (21 ≠ 0) <|
      grd (2 < List.length c439) <|
      getI .u8 (gp c439 2) fun x531 =>
      grd (2 ≠ 0) <|
      brn ((Int.tmod x531 2) == 1) (
        grd (15 < List.length c439) <|
        getI .u8 (gp c439 15) fun x536 =>
        grd (5 ≠ 0) <|
        grd ((18 + (Int.toNat x519)) < List.length c439) <|
        getI .u8 (gp c439 (18 + (Int.toNat x519))) fun x540 =>
        bnd' (m44_L18 N c439 x446 x519 n520 c521 N (IntKind.i64.wrap ((IntKind.i64.wrap (12 + (Int.tmod (IntKind.i64.wrap x536) 5))) + (Int.tmod (IntKind.i64.wrap x540) 5))) 1) fun x555 =>
        grd ((n520 + 1) ≤ 1099511627776) <|
        grd (List.length c521 = n520) <|
        m44_L17 N c439 x446 n (IntKind.i64.wrap (x519 + 1)) (n520 + 1) (c521 ++ [(.int .i64 x555)])) (
        grd ((n520 + 1) ≤ 1099511627776) <|
        grd (List.length c521 = n520) <|
        m44_L17 N c439 x446 n (IntKind.i64.wrap (x519 + 1)) (n520 + 1) (c521 ++ [(.int .i64 (Int.tmod (IntKind.i64.wrap x527) 21))]))) (
      some (n520, c521))
noncomputable def m44_L20 (N : Nat) (c439 : List PV) (x446 : Int) (n560 : Nat) (c561 : List PV) (x567 : Int) : Nat → Int → List PV → List PV → Option ((List PV × List PV))
  | 0, _, _, _ => none
  | n + 1, x600, c601, c602 =>
    brn (decide (x600 < (((Int.toNat (Int.tmod (IntKind.i64.wrap x567) 8)) : Nat) : Int))) (
      grd (0 ≤ x600 ∧ x600 < (((Int.toNat (Int.tmod (IntKind.i64.wrap x567) 8)) : Nat) : Int)) <|
      grd (((22 + ((Int.toNat x600) * 2)) + 2) ≤ List.length c439) <|
      getA2 (.agg (List.take 2 (List.drop (22 + ((Int.toNat x600) * 2)) c439))) fun p608 p609 =>
      getI .u8 p608 fun x611 =>
      grd (1 ≠ 0) <|
      getI .u8 p609 fun x614 =>
      grd ((IntKind.i64.wrap (1 + (Int.tmod (IntKind.i64.wrap x446) 4))) ≠ 0) <|
      grd (0 ≤ (Int.tmod (IntKind.i64.wrap x611) 1) ∧ (Int.tmod (IntKind.i64.wrap x611) 1) < 1) <|
      grd ((Int.toNat (Int.tmod (IntKind.i64.wrap x611) 1)) < List.length c601) <|
      getI .i64 (gp c601 (Int.toNat (Int.tmod (IntKind.i64.wrap x611) 1))) fun x620 =>
      brn (decide (x620 < 5)) (
        grd (0 ≤ (Int.tmod (IntKind.i64.wrap x614) (IntKind.i64.wrap (1 + (Int.tmod (IntKind.i64.wrap x446) 4)))) ∧ (Int.tmod (IntKind.i64.wrap x614) (IntKind.i64.wrap (1 + (Int.tmod (IntKind.i64.wrap x446) 4)))) < (((Int.toNat (IntKind.i64.wrap (1 + (Int.tmod (IntKind.i64.wrap x446) 4)))) : Nat) : Int)) <|
        grd ((Int.toNat (Int.tmod (IntKind.i64.wrap x614) (IntKind.i64.wrap (1 + (Int.tmod (IntKind.i64.wrap x446) 4))))) < List.length c602) <|
        getI .i64 (gp c602 (Int.toNat (Int.tmod (IntKind.i64.wrap x614) (IntKind.i64.wrap (1 + (Int.tmod (IntKind.i64.wrap x446) 4)))))) fun x626 =>
        brn (decide (x626 < 5)) (
          grd (((Int.toNat (Int.tmod (IntKind.i64.wrap x611) 1)) + 1) ≤ List.length c601) <|
          grd (((Int.toNat (Int.tmod (IntKind.i64.wrap x614) (IntKind.i64.wrap (1 + (Int.tmod (IntKind.i64.wrap x446) 4))))) + 1) ≤ List.length c602) <|
          m44_L20 N c439 x446 n560 c561 x567 n (IntKind.i64.wrap (x600 + 1)) (List.set c601 (Int.toNat (Int.tmod (IntKind.i64.wrap x611) 1)) (.int .i64 (IntKind.i64.wrap (x620 + 1)))) (List.set c602 (Int.toNat (Int.tmod (IntKind.i64.wrap x614) (IntKind.i64.wrap (1 + (Int.tmod (IntKind.i64.wrap x446) 4))))) (.int .i64 (IntKind.i64.wrap (x626 + 1))))) (
          m44_L20 N c439 x446 n560 c561 x567 n (IntKind.i64.wrap (x600 + 1)) c601 c602)) (
        m44_L20 N c439 x446 n560 c561 x567 n (IntKind.i64.wrap (x600 + 1)) c601 c602)) (
      some (c601, c602))
noncomputable def m44 (N : Nat) (p437 : PV) : Option (PV) :=
  getA p437 fun c439 =>
  grd (0 < List.length c439) <|
  getI .u8 (gp c439 0) fun x442 =>
  grd (3 ≠ 0) <|
  grd (1 < List.length c439) <|
  getI .u8 (gp c439 1) fun x446 =>
  grd (4 ≠ 0) <|
  casI (IntKind.i64.wrap (1 + (Int.tmod (IntKind.i64.wrap x442) 3))) 1 (
    bnd' (m44_L17 N c439 x446 N 0 0 []) fun o =>
    match o with
    | (n560, c561) =>
      grd (0 ≤ (IntKind.i64.wrap (1 + (Int.tmod (IntKind.i64.wrap x446) 4))) ∧ (IntKind.i64.wrap (1 + (Int.tmod (IntKind.i64.wrap x446) 4))) ≤ (IntKind.i64.wrap (1 + (Int.tmod (IntKind.i64.wrap x446) 4))) ∧ (IntKind.i64.wrap (1 + (Int.tmod (IntKind.i64.wrap x446) 4))) ≤ 1099511627776) <|
      grd (36 < List.length c439) <|
      getI .u8 (gp c439 36) fun x567 =>
      grd (8 ≠ 0) <|
      grd (0 ≤ (Int.tmod (IntKind.i64.wrap x567) 8) ∧ (Int.tmod (IntKind.i64.wrap x567) 8) ≤ 7 ∧ 36 ≤ List.length c439) <|
      bnd' (m44_L20 N c439 x446 n560 c561 x567 N 0 [(.int .i64 0)] (List.replicate (Int.toNat (IntKind.i64.wrap (1 + (Int.tmod (IntKind.i64.wrap x446) 4)))) (.int .i64 0))) fun o =>
      match o with
      | (c630, c631) =>
        grd (List.length c561 = n560) <|
        grd (List.length c630 = 1) <|
        grd (List.length c631 = (Int.toNat (IntKind.i64.wrap (1 + (Int.tmod (IntKind.i64.wrap x446) 4))))) <|
        some (.tup [(.lst false 1 [(.lst false n560 c561)]), (.agg [(.lst false 1 c630), (.lst false (Int.toNat (IntKind.i64.wrap (1 + (Int.tmod (IntKind.i64.wrap x446) 4)))) c631)])])) (
  casI (IntKind.i64.wrap (1 + (Int.tmod (IntKind.i64.wrap x442) 3))) 2 (
    bnd' (m44_L10 N c439 x446 N 0 0 []) fun o =>
    match o with
    | (n746, c747) =>
      bnd' (m44_L13 N c439 x446 n746 c747 N 0 0 []) fun o =>
      match o with
      | (n859, c860) =>
        grd (0 ≤ (IntKind.i64.wrap (1 + (Int.tmod (IntKind.i64.wrap x446) 4))) ∧ (IntKind.i64.wrap (1 + (Int.tmod (IntKind.i64.wrap x446) 4))) ≤ (IntKind.i64.wrap (1 + (Int.tmod (IntKind.i64.wrap x446) 4))) ∧ (IntKind.i64.wrap (1 + (Int.tmod (IntKind.i64.wrap x446) 4))) ≤ 1099511627776) <|
        grd (36 < List.length c439) <|
        getI .u8 (gp c439 36) fun x866 =>
        grd (8 ≠ 0) <|
        grd (0 ≤ (Int.tmod (IntKind.i64.wrap x866) 8) ∧ (Int.tmod (IntKind.i64.wrap x866) 8) ≤ 7 ∧ 36 ≤ List.length c439) <|
        bnd' (m44_L16 N c439 x446 n746 c747 n859 c860 x866 N 0 [(.int .i64 0), (.int .i64 0)] (List.replicate (Int.toNat (IntKind.i64.wrap (1 + (Int.tmod (IntKind.i64.wrap x446) 4)))) (.int .i64 0))) fun o =>
        match o with
        | (c929, c930) =>
          grd (List.length c747 = n746) <|
          grd (List.length c860 = n859) <|
          grd (List.length c929 = 2) <|
          grd (List.length c930 = (Int.toNat (IntKind.i64.wrap (1 + (Int.tmod (IntKind.i64.wrap x446) 4))))) <|
          some (.tup [(.lst false 2 [(.lst false n746 c747), (.lst false n859 c860)]), (.agg [(.lst false 2 c929), (.lst false (Int.toNat (IntKind.i64.wrap (1 + (Int.tmod (IntKind.i64.wrap x446) 4)))) c930)])])) (
  casI (IntKind.i64.wrap (1 + (Int.tmod (IntKind.i64.wrap x442) 3))) 3 (
    bnd' (m44_L0 N c439 x446 N 0 0 []) fun o =>
    match o with
    | (n1046, c1047) =>
      bnd' (m44_L3 N c439 x446 n1046 c1047 N 0 0 []) fun o =>
      match o with
      | (n1159, c1160) =>
        bnd' (m44_L6 N c439 x446 n1046 c1047 n1159 c1160 N 0 0 []) fun o =>
        match o with
        | (n1272, c1273) =>
          grd (0 ≤ (IntKind.i64.wrap (1 + (Int.tmod (IntKind.i64.wrap x446) 4))) ∧ (IntKind.i64.wrap (1 + (Int.tmod (IntKind.i64.wrap x446) 4))) ≤ (IntKind.i64.wrap (1 + (Int.tmod (IntKind.i64.wrap x446) 4))) ∧ (IntKind.i64.wrap (1 + (Int.tmod (IntKind.i64.wrap x446) 4))) ≤ 1099511627776) <|
          grd (36 < List.length c439) <|
          getI .u8 (gp c439 36) fun x1279 =>
          grd (8 ≠ 0) <|
          grd (0 ≤ (Int.tmod (IntKind.i64.wrap x1279) 8) ∧ (Int.tmod (IntKind.i64.wrap x1279) 8) ≤ 7 ∧ 36 ≤ List.length c439) <|
          bnd' (m44_L9 N c439 x446 n1046 c1047 n1159 c1160 n1272 c1273 x1279 N 0 [(.int .i64 0), (.int .i64 0), (.int .i64 0)] (List.replicate (Int.toNat (IntKind.i64.wrap (1 + (Int.tmod (IntKind.i64.wrap x446) 4)))) (.int .i64 0))) fun o =>
          match o with
          | (c1340, c1341) =>
            grd (List.length c1047 = n1046) <|
            grd (List.length c1160 = n1159) <|
            grd (List.length c1273 = n1272) <|
            grd (List.length c1340 = 3) <|
            grd (List.length c1341 = (Int.toNat (IntKind.i64.wrap (1 + (Int.tmod (IntKind.i64.wrap x446) 4))))) <|
            some (.tup [(.lst false 3 [(.lst false n1046 c1047), (.lst false n1159 c1160), (.lst false n1272 c1273)]), (.agg [(.lst false 3 c1340), (.lst false (Int.toNat (IntKind.i64.wrap (1 + (Int.tmod (IntKind.i64.wrap x446) 4)))) c1341)])])) (
  none)))
theorem c44 (N : Nat) (p437 : PV) (r : PV)  (h : m44 N p437 = some r) : FnP Try.prog 44 [p437] r := by
  unfold m44 at h
  refine Fn_of (sz := 152) tab_ok [0, 1, 2, 3, 4, 5, 6, 7, 8, 9, 10, 11, 12, 14, 15, 16, 29, 30, 31, 33, 34, 35, 48, 65, 70, 105, 106, 107, 108, 134] [.tmp 2, .cell 3 25] Try.func44 rfl rfl rfl (by simp) ?_
  simp only [initSt, initEnv, List.map_cons, List.map_nil, List.getD_cons_zero, List.getD_cons_succ, List.getD_nil]
  have hh := getA_some h; clear h; obtain ⟨c439, h438, h⟩ := hh
  have hh := grd_some h; clear h; obtain ⟨g440, h⟩ := hh
  have hh := getI_some h; clear h; obtain ⟨x442, h441, h⟩ := hh
  have hh := grd_some h; clear h; obtain ⟨g443, h⟩ := hh
  have hh := grd_some h; clear h; obtain ⟨g444, h⟩ := hh
  have hh := getI_some h; clear h; obtain ⟨x446, h445, h⟩ := hh
  have hh := grd_some h; clear h; obtain ⟨g447, h⟩ := hh
  have hh := casI_some h; clear h; rcases hh with ⟨h448, h⟩ | ⟨_, h⟩
  · refine W_sound tab_ok mixed 33 _ _ _ ?_
    simp -implicitDefEqProofs only [go_sem, Nat.reduceBEq, Nat.reduceAdd, Nat.reduceSub, Nat.reduceMul, Nat.reduceLT, Nat.reduceLeDiff, Int.reduceLE, Int.reduceLT, Int.reduceToNat, Int.reduceBEq, Int.reduceBNe, ↓reduceIte, Int.reduceAdd, Int.reduceSub, Int.reduceGT, Int.reduceGE, h438, g440, h441, g443, g444, h445, g447, h448]
    repeat with_reducible refine And.intro (by first | kernel_rfl | decide) ?_
    refine Wp_block ?_
    refine Wp_loopL (WpL_step ?_)
    refine W_sound tab_ok mixed 19 _ _ _ ?_
    simp -implicitDefEqProofs only [go_sem, Nat.reduceBEq, Nat.reduceAdd, Nat.reduceSub, Nat.reduceMul, Nat.reduceLT, Nat.reduceLeDiff, Int.reduceLE, Int.reduceLT, Int.reduceToNat, Int.reduceBEq, Int.reduceBNe, ↓reduceIte, Int.reduceAdd, Int.reduceSub, Int.reduceGT, Int.reduceGE, h438, g440, h441, g443, g444, h445, g447, h448]
    repeat with_reducible refine And.intro (by first | kernel_rfl | decide) ?_
    refine Wp_weaken (Wk_ownC 32 0 1 rfl rfl (by decide) (by decide)) ?_
    simp -implicitDefEqProofs only [go_sem, Nat.reduceBEq, Nat.reduceAdd, Nat.reduceSub, Nat.reduceMul, Nat.reduceLT, Nat.reduceLeDiff, Int.reduceLE, Int.reduceLT, Int.reduceToNat, Int.reduceBEq, Int.reduceBNe, ↓reduceIte, setO, Int.reduceAdd, Int.reduceSub, Int.reduceGT, Int.reduceGE, h438, g440, h441, g443, g444, h445, g447, h448]
    have hh := bnd'_some h; clear h; obtain ⟨o1347, h1348, h1349⟩ := hh
    refine Wp_cut (fun s => ∃ n560, ∃ c561, (n560, c561) = o1347 ∧ s = ⟨[], [(0, .dead), (1, .ptr 0 0), (2, .dead), (3, .ptr 1 0), (4, .v (.int .i64 1)), (5, .v (.int .i64 (IntKind.i64.wrap (1 + (Int.tmod (IntKind.i64.wrap x446) 4))))), (6, .sl false 2 0 1 1), (7, .dead), (8, .dead), (9, .dead), (10, .dead), (11, .dead), (12, .dead), (14, .dead), (15, .dead), (16, .dead), (29, .v (.int .i64 1)), (30, .v (.int .i64 0)), (31, .dead), (33, .dead), (34, .dead), (35, .dead), (48, .dead), (65, .dead), (70, .dead), (105, .dead), (106, .dead), (107, .dead), (108, .dead), (134, .dead)], [(0, .p c439), (1, .p [.nl, .nl]), (2, .r [.sl false 3 0 n560 1]), (3, .p c561)], 4, []⟩) ?_ ?_
    · refine Wp_block ?_
      refine Wp_loopG (fun n s => ∃ x519, ∃ n520, ∃ c521, m44_L17 N c439 x446 n x519 n520 c521 = some o1347 ∧ s = ⟨[], [(0, .dead), (1, .ptr 0 0), (2, .dead), (3, .ptr 1 0), (4, .v (.int .i64 1)), (5, .v (.int .i64 (IntKind.i64.wrap (1 + (Int.tmod (IntKind.i64.wrap x446) 4))))), (6, .sl false 2 0 1 1), (7, .v (.int .i64 0)), (8, .dead), (9, .dead), (10, .dead), (11, .dead), (12, .dead), (14, .dead), (15, .dead), (16, .dead), (29, .v (.int .i64 1)), (30, .v (.int .i64 0)), (31, .dead), (33, .v (.int .i64 (IntKind.i64.wrap (1 + (Int.tmod (IntKind.i64.wrap x446) 4))))), (34, .v (.int .i64 x519)), (35, .dead), (48, .dead), (65, .dead), (70, .dead), (105, .dead), (106, .dead), (107, .dead), (108, .dead), (134, .dead)], [(0, .p c439), (1, .p [.nl, .nl]), (2, .r [.sl false 3 0 n520 1]), (3, .p c521)], 4, []⟩) N _ (Wk_keep (st' := ⟨[], [(0, .dead), (1, .ptr 0 0), (2, .dead), (3, .ptr 1 0), (4, .v (.int .i64 1)), (5, .v (.int .i64 (IntKind.i64.wrap (1 + (Int.tmod (IntKind.i64.wrap x446) 4))))), (6, .sl false 2 0 1 1), (7, .v (.int .i64 0)), (8, .dead), (9, .dead), (10, .dead), (11, .dead), (12, .dead), (14, .dead), (15, .dead), (16, .dead), (29, .v (.int .i64 1)), (30, .v (.int .i64 0)), (31, .dead), (33, .v (.int .i64 (IntKind.i64.wrap (1 + (Int.tmod (IntKind.i64.wrap x446) 4))))), (34, .v (.int .i64 0)), (35, .dead), (48, .dead), (65, .dead), (70, .dead), (105, .dead), (106, .dead), (107, .dead), (108, .dead), (134, .dead)], [(0, .p c439), (1, .p [.nl, .nl]), (2, .r [.sl false 3 0 0 1]), (3, .p [])], 4, []⟩) [1, 3, 4, 5, 6, 7, 29, 30, 33, 34] (by kernel_rfl)) ⟨_, _, _, h1348, rfl⟩ ?_
      clear h1348
      rintro n _ ⟨x519, n520, c521, h1348, rfl⟩
      cases n with
      | zero => cases h1348
      | succ n =>
        rw [m44_L17] at h1348
        have hh := brn_some h1348; clear h1348; rcases hh with ⟨h522, h1348⟩ | ⟨h522, h1348⟩
        · have hh := grd_some h1348; clear h1348; obtain ⟨⟨g523, g524⟩, h1348⟩ := hh
          have hh := grd_some h1348; clear h1348; obtain ⟨g525, h1348⟩ := hh
          have hh := getI_some h1348; clear h1348; obtain ⟨x527, h526, h1348⟩ := hh
          have hh := grd_some h1348; clear h1348; obtain ⟨g528, h1348⟩ := hh
          have hh := grd_some h1348; clear h1348; obtain ⟨g529, h1348⟩ := hh
          have hh := getI_some h1348; clear h1348; obtain ⟨x531, h530, h1348⟩ := hh
          have hh := grd_some h1348; clear h1348; obtain ⟨g532, h1348⟩ := hh
          have hh := brn_some h1348; clear h1348; rcases hh with ⟨h533, h1348⟩ | ⟨h533, h1348⟩
          · have hh := grd_some h1348; clear h1348; obtain ⟨g534, h1348⟩ := hh
            have hh := getI_some h1348; clear h1348; obtain ⟨x536, h535, h1348⟩ := hh
            have hh := grd_some h1348; clear h1348; obtain ⟨g537, h1348⟩ := hh
            have hh := grd_some h1348; clear h1348; obtain ⟨g538, h1348⟩ := hh
            have hh := getI_some h1348; clear h1348; obtain ⟨x540, h539, h1348⟩ := hh
            refine W_sound tab_ok mixed 57 _ _ _ ?_
            simp -implicitDefEqProofs only [go_sem, Nat.reduceBEq, Nat.reduceAdd, Nat.reduceSub, Nat.reduceMul, Nat.reduceLT, Nat.reduceLeDiff, Int.reduceLE, Int.reduceLT, Int.reduceToNat, Int.reduceBEq, Int.reduceBNe, ↓reduceIte, Int.reduceAdd, Int.reduceSub, Int.reduceGT, Int.reduceGE, h438, g440, h441, g443, g444, h445, g447, h448, h522, g523, g524, g525, h526, g528, g529, h530, g532, h533, g534, h535, g537, g538, h539]
            repeat with_reducible refine And.intro (by first | kernel_rfl | decide) ?_
            have hh := bnd'_some h1348; clear h1348; obtain ⟨o1350, h1351, h1352⟩ := hh
            refine Wp_cut (fun s => ∃ x555, x555 = o1350 ∧ s = ⟨[], [(0, .dead), (1, .ptr 0 0), (2, .dead), (3, .ptr 1 0), (4, .v (.int .i64 1)), (5, .v (.int .i64 (IntKind.i64.wrap (1 + (Int.tmod (IntKind.i64.wrap x446) 4))))), (6, .sl false 2 0 1 1), (7, .v (.int .i64 0)), (8, .dead), (9, .v (.int .i64 x555)), (10, .dead), (11, .dead), (12, .dead), (14, .dead), (15, .dead), (16, .dead), (29, .v (.int .i64 1)), (30, .v (.int .i64 0)), (31, .dead), (33, .v (.int .i64 (IntKind.i64.wrap (1 + (Int.tmod (IntKind.i64.wrap x446) 4))))), (34, .v (.int .i64 x519)), (35, .dead), (48, .dead), (65, .dead), (70, .dead), (105, .dead), (106, .dead), (107, .dead), (108, .dead), (134, .dead)], [(0, .p c439), (1, .p [.nl, .nl]), (2, .r [.sl false 3 0 n520 1]), (3, .p c521)], 4, []⟩) ?_ ?_
            · refine Wp_block ?_
              refine Wp_loopG (fun n s => ∃ x541, ∃ x542, m44_L18 N c439 x446 x519 n520 c521 n x541 x542 = some o1350 ∧ s = ⟨[], [(0, .dead), (1, .ptr 0 0), (2, .dead), (3, .ptr 1 0), (4, .v (.int .i64 1)), (5, .v (.int .i64 (IntKind.i64.wrap (1 + (Int.tmod (IntKind.i64.wrap x446) 4))))), (6, .sl false 2 0 1 1), (7, .v (.int .i64 0)), (8, .v (.int .i64 x519)), (9, .v (.int .i64 x541)), (10, .v (.int .i64 x542)), (11, .dead), (12, .dead), (14, .dead), (15, .dead), (16, .dead), (29, .v (.int .i64 1)), (30, .v (.int .i64 0)), (31, .dead), (33, .v (.int .i64 (IntKind.i64.wrap (1 + (Int.tmod (IntKind.i64.wrap x446) 4))))), (34, .v (.int .i64 x519)), (35, .dead), (48, .dead), (65, .dead), (70, .dead), (105, .dead), (106, .dead), (107, .dead), (108, .dead), (134, .dead)], [(0, .p c439), (1, .p [.nl, .nl]), (2, .r [.sl false 3 0 n520 1]), (3, .p c521)], 4, []⟩) N _ (Wk_keep (st' := ⟨[], [(0, .dead), (1, .ptr 0 0), (2, .dead), (3, .ptr 1 0), (4, .v (.int .i64 1)), (5, .v (.int .i64 (IntKind.i64.wrap (1 + (Int.tmod (IntKind.i64.wrap x446) 4))))), (6, .sl false 2 0 1 1), (7, .v (.int .i64 0)), (8, .v (.int .i64 x519)), (9, .v (.int .i64 (IntKind.i64.wrap ((IntKind.i64.wrap (12 + (Int.tmod (IntKind.i64.wrap x536) 5))) + (Int.tmod (IntKind.i64.wrap x540) 5))))), (10, .v (.int .i64 1)), (11, .dead), (12, .dead), (14, .dead), (15, .dead), (16, .dead), (29, .v (.int .i64 1)), (30, .v (.int .i64 0)), (31, .dead), (33, .v (.int .i64 (IntKind.i64.wrap (1 + (Int.tmod (IntKind.i64.wrap x446) 4))))), (34, .v (.int .i64 x519)), (35, .dead), (48, .dead), (65, .dead), (70, .dead), (105, .dead), (106, .dead), (107, .dead), (108, .dead), (134, .dead)], [(0, .p c439), (1, .p [.nl, .nl]), (2, .r [.sl false 3 0 n520 1]), (3, .p c521)], 4, []⟩) [1, 3, 4, 5, 6, 7, 8, 9, 10, 29, 30, 33, 34] (by kernel_rfl)) ⟨_, _, h1351, rfl⟩ ?_
              clear h1351
              rintro n _ ⟨x541, x542, h1351, rfl⟩
              cases n with
              | zero => cases h1351
              | succ n =>
                rw [m44_L18] at h1351
                have hh := brn_some h1351; clear h1351; rcases hh with ⟨h543, h1351⟩ | ⟨h543, h1351⟩
                · refine W_sound tab_ok mixed 15 _ _ _ ?_
                  simp -implicitDefEqProofs only [go_sem, Nat.reduceBEq, Nat.reduceAdd, Nat.reduceSub, Nat.reduceMul, Nat.reduceLT, Nat.reduceLeDiff, Int.reduceLE, Int.reduceLT, Int.reduceToNat, Int.reduceBEq, Int.reduceBNe, ↓reduceIte, Int.reduceAdd, Int.reduceSub, Int.reduceGT, Int.reduceGE, h438, g440, h441, g443, g444, h445, g447, h448, h522, g523, g524, g525, h526, g528, g529, h530, g532, h533, g534, h535, g537, g538, h539, h543]
                  repeat with_reducible refine And.intro (by first | kernel_rfl | decide) ?_
                  have hh := bnd'_some h1351; clear h1351; obtain ⟨o1353, h1354, h1355⟩ := hh
                  refine Wp_cut (fun s => ∃ x554, x554 = o1353 ∧ s = ⟨[], [(0, .dead), (1, .ptr 0 0), (2, .dead), (3, .ptr 1 0), (4, .v (.int .i64 1)), (5, .v (.int .i64 (IntKind.i64.wrap (1 + (Int.tmod (IntKind.i64.wrap x446) 4))))), (6, .sl false 2 0 1 1), (7, .v (.int .i64 0)), (8, .v (.int .i64 x519)), (9, .v (.int .i64 x554)), (10, .v (.int .i64 x542)), (11, .dead), (12, .dead), (14, .dead), (15, .dead), (16, .dead), (29, .v (.int .i64 1)), (30, .v (.int .i64 0)), (31, .dead), (33, .v (.int .i64 (IntKind.i64.wrap (1 + (Int.tmod (IntKind.i64.wrap x446) 4))))), (34, .v (.int .i64 x519)), (35, .dead), (48, .dead), (65, .dead), (70, .dead), (105, .dead), (106, .dead), (107, .dead), (108, .dead), (134, .dead)], [(0, .p c439), (1, .p [.nl, .nl]), (2, .r [.sl false 3 0 n520 1]), (3, .p c521)], 4, []⟩) ?_ ?_
                  · refine Wp_block ?_
                    refine Wp_loopG (fun n s => ∃ x544, ∃ x545, m44_L19 N c439 x446 x519 n520 c521 x542 n x544 x545 = some o1353 ∧ s = ⟨[], [(0, .dead), (1, .ptr 0 0), (2, .dead), (3, .ptr 1 0), (4, .v (.int .i64 1)), (5, .v (.int .i64 (IntKind.i64.wrap (1 + (Int.tmod (IntKind.i64.wrap x446) 4))))), (6, .sl false 2 0 1 1), (7, .v (.int .i64 0)), (8, .v (.int .i64 x519)), (9, .v (.int .i64 x544)), (10, .v (.int .i64 x542)), (11, .v (.int .i64 x545)), (12, .dead), (14, .dead), (15, .dead), (16, .dead), (29, .v (.int .i64 1)), (30, .v (.int .i64 0)), (31, .dead), (33, .v (.int .i64 (IntKind.i64.wrap (1 + (Int.tmod (IntKind.i64.wrap x446) 4))))), (34, .v (.int .i64 x519)), (35, .dead), (48, .dead), (65, .dead), (70, .dead), (105, .dead), (106, .dead), (107, .dead), (108, .dead), (134, .dead)], [(0, .p c439), (1, .p [.nl, .nl]), (2, .r [.sl false 3 0 n520 1]), (3, .p c521)], 4, []⟩) N _ (Wk_keep (st' := ⟨[], [(0, .dead), (1, .ptr 0 0), (2, .dead), (3, .ptr 1 0), (4, .v (.int .i64 1)), (5, .v (.int .i64 (IntKind.i64.wrap (1 + (Int.tmod (IntKind.i64.wrap x446) 4))))), (6, .sl false 2 0 1 1), (7, .v (.int .i64 0)), (8, .v (.int .i64 x519)), (9, .v (.int .i64 x541)), (10, .v (.int .i64 x542)), (11, .v (.int .i64 1)), (12, .dead), (14, .dead), (15, .dead), (16, .dead), (29, .v (.int .i64 1)), (30, .v (.int .i64 0)), (31, .dead), (33, .v (.int .i64 (IntKind.i64.wrap (1 + (Int.tmod (IntKind.i64.wrap x446) 4))))), (34, .v (.int .i64 x519)), (35, .dead), (48, .dead), (65, .dead), (70, .dead), (105, .dead), (106, .dead), (107, .dead), (108, .dead), (134, .dead)], [(0, .p c439), (1, .p [.nl, .nl]), (2, .r [.sl false 3 0 n520 1]), (3, .p c521)], 4, []⟩) [1, 3, 4, 5, 6, 7, 8, 9, 10, 11, 29, 30, 33, 34] (by kernel_rfl)) ⟨_, _, h1354, rfl⟩ ?_
                    clear h1354
                    rintro n _ ⟨x544, x545, h1354, rfl⟩
                    cases n with
                    | zero => cases h1354
                    | succ n =>
                      rw [m44_L19] at h1354
                      have hh := brn_some h1354; clear h1354; rcases hh with ⟨h546, h1354⟩ | ⟨h546, h1354⟩
                      · have hh := grd_some h1354; clear h1354; obtain ⟨⟨g547, g548⟩, h1354⟩ := hh
                        have hh := grd_some h1354; clear h1354; obtain ⟨⟨g549, g550⟩, h1354⟩ := hh
                        have hh := grd_some h1354; clear h1354; obtain ⟨g551, h1354⟩ := hh
                        have hh := getI_some h1354; clear h1354; obtain ⟨x553, h552, h1354⟩ := hh
                        refine W_sound tab_ok mixed 30 _ _ _ ?_
                        simp -implicitDefEqProofs only [go_sem, Nat.reduceBEq, Nat.reduceAdd, Nat.reduceSub, Nat.reduceMul, Nat.reduceLT, Nat.reduceLeDiff, Int.reduceLE, Int.reduceLT, Int.reduceToNat, Int.reduceBEq, Int.reduceBNe, ↓reduceIte, Int.reduceAdd, Int.reduceSub, Int.reduceGT, Int.reduceGE, h438, g440, h441, g443, g444, h445, g447, h448, h522, g523, g524, g525, h526, g528, g529, h530, g532, h533, g534, h535, g537, g538, h539, h543, h546, g547, g548, g549, g550, g551, h552]
                        repeat with_reducible refine And.intro (by first | kernel_rfl | decide) ?_
                        (try rw [h441] at h1354)
                        (try rw [h445] at h1354)
                        (try rw [h448] at h1354)
                        (try rw [h526] at h1354)
                        (try rw [h530] at h1354)
                        (try rw [h535] at h1354)
                        (try rw [h539] at h1354)
                        (try rw [h552] at h1354)
                        refine cutQ _ ?_ ⟨n, Nat.lt_succ_self n, _, _, h1354, rfl⟩
                        exact Wk_keep [1, 3, 4, 5, 6, 7, 8, 9, 10, 11, 29, 30, 33, 34] (by kernel_rfl)
                      · refine W_sound tab_ok mixed 9 _ _ _ ?_
                        simp -implicitDefEqProofs only [go_sem, Nat.reduceBEq, Nat.reduceAdd, Nat.reduceSub, Nat.reduceMul, Nat.reduceLT, Nat.reduceLeDiff, Int.reduceLE, Int.reduceLT, Int.reduceToNat, Int.reduceBEq, Int.reduceBNe, ↓reduceIte, Int.reduceAdd, Int.reduceSub, Int.reduceGT, Int.reduceGE, h438, g440, h441, g443, g444, h445, g447, h448, h522, g523, g524, g525, h526, g528, g529, h530, g532, h533, g534, h535, g537, g538, h539, h543, h546]
                        repeat with_reducible refine And.intro (by first | kernel_rfl | decide) ?_
                        obtain rfl := Option.some.inj h1354
                        refine cutQ _ ?_ ⟨_, rfl, rfl⟩
                        exact Wk_keep [1, 3, 4, 5, 6, 7, 8, 9, 10, 29, 30, 33, 34] (by kernel_rfl)
                  · rintro _ ⟨x554, rfl, rfl⟩
                    refine W_sound tab_ok mixed 6 _ _ _ ?_
                    simp -implicitDefEqProofs only [go_sem, Nat.reduceBEq, Nat.reduceAdd, Nat.reduceSub, Nat.reduceMul, Nat.reduceLT, Nat.reduceLeDiff, Int.reduceLE, Int.reduceLT, Int.reduceToNat, Int.reduceBEq, Int.reduceBNe, ↓reduceIte, Int.reduceAdd, Int.reduceSub, Int.reduceGT, Int.reduceGE, h438, g440, h441, g443, g444, h445, g447, h448, h522, g523, g524, g525, h526, g528, g529, h530, g532, h533, g534, h535, g537, g538, h539, h543]
                    repeat with_reducible refine And.intro (by first | kernel_rfl | decide) ?_
                    (try rw [h441] at h1355)
                    (try rw [h445] at h1355)
                    (try rw [h448] at h1355)
                    (try rw [h526] at h1355)
                    (try rw [h530] at h1355)
                    (try rw [h535] at h1355)
                    (try rw [h539] at h1355)
                    refine cutQ _ ?_ ⟨n, Nat.lt_succ_self n, _, _, h1355, rfl⟩
                    exact Wk_keep [1, 3, 4, 5, 6, 7, 8, 9, 10, 29, 30, 33, 34] (by kernel_rfl)
                · refine W_sound tab_ok mixed 9 _ _ _ ?_
                  simp -implicitDefEqProofs only [go_sem, Nat.reduceBEq, Nat.reduceAdd, Nat.reduceSub, Nat.reduceMul, Nat.reduceLT, Nat.reduceLeDiff, Int.reduceLE, Int.reduceLT, Int.reduceToNat, Int.reduceBEq, Int.reduceBNe, ↓reduceIte, Int.reduceAdd, Int.reduceSub, Int.reduceGT, Int.reduceGE, h438, g440, h441, g443, g444, h445, g447, h448, h522, g523, g524, g525, h526, g528, g529, h530, g532, h533, g534, h535, g537, g538, h539, h543]
                  repeat with_reducible refine And.intro (by first | kernel_rfl | decide) ?_
                  obtain rfl := Option.some.inj h1351
                  refine cutQ _ ?_ ⟨_, rfl, rfl⟩
                  exact Wk_keep [1, 3, 4, 5, 6, 7, 9, 29, 30, 33, 34] (by kernel_rfl)
            · rintro _ ⟨x555, rfl, rfl⟩
              have hh := grd_some h1352; clear h1352; obtain ⟨g556, h1352⟩ := hh
              have hh := grd_some h1352; clear h1352; obtain ⟨g557, h1352⟩ := hh
              refine W_sound tab_ok mixed 18 _ _ _ ?_
              simp -implicitDefEqProofs only [go_sem, Nat.reduceBEq, Nat.reduceAdd, Nat.reduceSub, Nat.reduceMul, Nat.reduceLT, Nat.reduceLeDiff, Int.reduceLE, Int.reduceLT, Int.reduceToNat, Int.reduceBEq, Int.reduceBNe, ↓reduceIte, Int.reduceAdd, Int.reduceSub, Int.reduceGT, Int.reduceGE, h438, g440, h441, g443, g444, h445, g447, h448, h522, g523, g524, g525, h526, g528, g529, h530, g532, h533, g534, h535, g537, g538, h539, g556, g557]
              repeat with_reducible refine And.intro (by first | kernel_rfl | decide) ?_
              (try rw [h441] at h1352)
              (try rw [h445] at h1352)
              (try rw [h448] at h1352)
              (try rw [h526] at h1352)
              (try rw [h530] at h1352)
              (try rw [h535] at h1352)
              (try rw [h539] at h1352)
              refine cutQ _ ?_ ⟨n, Nat.lt_succ_self n, _, _, _, h1352, rfl⟩
              exact Wk_keep [1, 3, 4, 5, 6, 7, 29, 30, 33, 34] (by kernel_rfl)
          · have hh := grd_some h1348; clear h1348; obtain ⟨g558, h1348⟩ := hh
            have hh := grd_some h1348; clear h1348; obtain ⟨g559, h1348⟩ := hh
            refine W_sound tab_ok mixed 54 _ _ _ ?_
            simp -implicitDefEqProofs only [go_sem, Nat.reduceBEq, Nat.reduceAdd, Nat.reduceSub, Nat.reduceMul, Nat.reduceLT, Nat.reduceLeDiff, Int.reduceLE, Int.reduceLT, Int.reduceToNat, Int.reduceBEq, Int.reduceBNe, ↓reduceIte, Int.reduceAdd, Int.reduceSub, Int.reduceGT, Int.reduceGE, h438, g440, h441, g443, g444, h445, g447, h448, h522, g523, g524, g525, h526, g528, g529, h530, g532, h533, g558, g559]
            repeat with_reducible refine And.intro (by first | kernel_rfl | decide) ?_
            (try rw [h441] at h1348)
            (try rw [h445] at h1348)
            (try rw [h448] at h1348)
            (try rw [h526] at h1348)
            (try rw [h530] at h1348)
            refine cutQ _ ?_ ⟨n, Nat.lt_succ_self n, _, _, _, h1348, rfl⟩
            exact Wk_keep [1, 3, 4, 5, 6, 7, 29, 30, 33, 34] (by kernel_rfl)
        · refine W_sound tab_ok mixed 7 _ _ _ ?_
          simp -implicitDefEqProofs only [go_sem, Nat.reduceBEq, Nat.reduceAdd, Nat.reduceSub, Nat.reduceMul, Nat.reduceLT, Nat.reduceLeDiff, Int.reduceLE, Int.reduceLT, Int.reduceToNat, Int.reduceBEq, Int.reduceBNe, ↓reduceIte, Int.reduceAdd, Int.reduceSub, Int.reduceGT, Int.reduceGE, h438, g440, h441, g443, g444, h445, g447, h448, h522]
          repeat with_reducible refine And.intro (by first | kernel_rfl | decide) ?_
          obtain rfl := Option.some.inj h1348
          refine cutQ _ ?_ ⟨_, _, rfl, rfl⟩
          exact Wk_keep [1, 3, 4, 5, 6, 29, 30] (by kernel_rfl)
    · rintro _ ⟨n560, c561, rfl, rfl⟩
      (try dsimp only at h1349)
      refine W_sound tab_ok mixed 5 _ _ _ ?_
      simp -implicitDefEqProofs only [go_sem, Nat.reduceBEq, Nat.reduceAdd, Nat.reduceSub, Nat.reduceMul, Nat.reduceLT, Nat.reduceLeDiff, Int.reduceLE, Int.reduceLT, Int.reduceToNat, Int.reduceBEq, Int.reduceBNe, ↓reduceIte, Int.reduceAdd, Int.reduceSub, Int.reduceGT, Int.reduceGE, h438, g440, h441, g443, g444, h445, g447, h448]
      repeat with_reducible refine And.intro (by first | kernel_rfl | decide) ?_
      refine again (Wk_keep (st' := ⟨[], [(0, .dead), (1, .ptr 0 0), (2, .dead), (3, .ptr 1 0), (4, .v (.int .i64 1)), (5, .v (.int .i64 (IntKind.i64.wrap (1 + (Int.tmod (IntKind.i64.wrap x446) 4))))), (6, .sl false 2 0 1 1), (7, .dead), (8, .dead), (9, .dead), (10, .dead), (11, .dead), (12, .dead), (14, .dead), (15, .dead), (16, .dead), (29, .v (.int .i64 1)), (30, .v (.int .i64 1)), (31, .dead), (33, .dead), (34, .dead), (35, .dead), (48, .dead), (65, .dead), (70, .dead), (105, .dead), (106, .dead), (107, .dead), (108, .dead), (134, .dead)], [(0, .p c439), (1, .p [.nl, .nl]), (2, .r [.sl false 3 0 n560 1]), (3, .p c561)], 4, []⟩) [1, 3, 4, 5, 6, 29, 30] (by kernel_rfl)) ?_
      have hh := grd_some h1349; clear h1349; obtain ⟨⟨g562, g563, g564⟩, h1349⟩ := hh
      have hh := grd_some h1349; clear h1349; obtain ⟨g565, h1349⟩ := hh
      have hh := getI_some h1349; clear h1349; obtain ⟨x567, h566, h1349⟩ := hh
      have hh := grd_some h1349; clear h1349; obtain ⟨g568, h1349⟩ := hh
      have hh := grd_some h1349; clear h1349; obtain ⟨⟨g569, g570, g571⟩, h1349⟩ := hh
      refine W_sound tab_ok mixed 29 _ _ _ ?_
      simp -implicitDefEqProofs only [go_sem, Nat.reduceBEq, Nat.reduceAdd, Nat.reduceSub, Nat.reduceMul, Nat.reduceLT, Nat.reduceLeDiff, Int.reduceLE, Int.reduceLT, Int.reduceToNat, Int.reduceBEq, Int.reduceBNe, ↓reduceIte, Int.reduceAdd, Int.reduceSub, Int.reduceGT, Int.reduceGE, h438, g440, h441, g443, g444, h445, g447, h448, g562, g563, g564, g565, h566, g568, g569, g570, g571]
      repeat with_reducible refine And.intro (by first | kernel_rfl | decide) ?_
      refine Wp_wkK Wk_norm rfl ?_
      simp -implicitDefEqProofs only [go_sem, Nat.reduceBEq, Nat.reduceAdd, Nat.reduceSub, Nat.reduceMul, Nat.reduceLT, Nat.reduceLeDiff, Int.reduceLE, Int.reduceLT, Int.reduceToNat, Int.reduceBEq, Int.reduceBNe, ↓reduceIte, normE, Int.reduceAdd, Int.reduceSub, Int.reduceGT, Int.reduceGE, h438, g440, h441, g443, g444, h445, g447, h448, g562, g563, g564, g565, h566, g568, g569, g570, g571]
      (try simp -implicitDefEqProofs only [go_sem, Nat.reduceBEq, Nat.reduceAdd, Nat.reduceSub, Nat.reduceMul, Nat.reduceLT, Nat.reduceLeDiff, Int.reduceLE, Int.reduceLT, Int.reduceToNat, Int.reduceBEq, Int.reduceBNe, ↓reduceIte, Int.reduceAdd, Int.reduceSub, Int.reduceGT, Int.reduceGE, h438, g440, h441, g443, g444, h445, g447, h448, g562, g563, g564, g565, h566, g568, g569, g570, g571])
      have hh := bnd'_some h1349; clear h1349; obtain ⟨o1356, h1357, h1358⟩ := hh
      refine Wp_cut (fun s => ∃ c630, ∃ c631, (c630, c631) = o1356 ∧ s = ⟨[], [(0, .dead), (1, .dead), (2, .dead), (3, .ptr 0 0), (4, .dead), (5, .dead), (6, .sl false 1 0 1 1), (7, .dead), (8, .dead), (9, .dead), (10, .dead), (11, .dead), (12, .ptr 2 0), (14, .dead), (15, .dead), (16, .dead), (29, .dead), (30, .dead), (31, .dead), (33, .dead), (34, .dead), (35, .dead), (48, .dead), (65, .dead), (70, .dead), (105, .dead), (106, .dead), (107, .dead), (108, .dead), (134, .dead)], [(0, .p [.nl, .nl]), (1, .r [.sl false 3 0 n560 1]), (2, .r [.sl false 4 0 1 1, .sl false 5 0 (Int.toNat (IntKind.i64.wrap (1 + (Int.tmod (IntKind.i64.wrap x446) 4)))) 1]), (3, .p c561), (4, .p c630), (5, .p c631)], 6, []⟩) ?_ ?_
      · refine Wp_block ?_
        refine Wp_loopG (fun n s => ∃ x600, ∃ c601, ∃ c602, m44_L20 N c439 x446 n560 c561 x567 n x600 c601 c602 = some o1356 ∧ s = ⟨[], [(0, .dead), (1, .dead), (2, .dead), (3, .ptr 0 0), (4, .v (.int .i64 1)), (5, .v (.int .i64 (IntKind.i64.wrap (1 + (Int.tmod (IntKind.i64.wrap x446) 4))))), (6, .sl false 1 0 1 1), (7, .dead), (8, .dead), (9, .dead), (10, .dead), (11, .dead), (12, .ptr 2 0), (14, .dead), (15, .dead), (16, .dead), (29, .dead), (30, .dead), (31, .dead), (33, .dead), (34, .dead), (35, .dead), (48, .dead), (65, .dead), (70, .dead), (105, .sl false 3 22 (Int.toNat (Int.tmod (IntKind.i64.wrap x567) 8)) 2), (106, .v (.int .i64 (((Int.toNat (Int.tmod (IntKind.i64.wrap x567) 8)) : Nat) : Int))), (107, .v (.int .i64 x600)), (108, .dead), (134, .dead)], [(0, .p [.nl, .nl]), (1, .r [.sl false 4 0 n560 1]), (2, .r [.sl false 5 0 1 1, .sl false 6 0 (Int.toNat (IntKind.i64.wrap (1 + (Int.tmod (IntKind.i64.wrap x446) 4)))) 1]), (3, .p c439), (4, .p c561), (5, .p c601), (6, .p c602)], 7, []⟩) N _ (Wk_keep (st' := ⟨[], [(0, .dead), (1, .dead), (2, .dead), (3, .ptr 0 0), (4, .v (.int .i64 1)), (5, .v (.int .i64 (IntKind.i64.wrap (1 + (Int.tmod (IntKind.i64.wrap x446) 4))))), (6, .sl false 1 0 1 1), (7, .dead), (8, .dead), (9, .dead), (10, .dead), (11, .dead), (12, .ptr 2 0), (14, .dead), (15, .dead), (16, .dead), (29, .dead), (30, .dead), (31, .dead), (33, .dead), (34, .dead), (35, .dead), (48, .dead), (65, .dead), (70, .dead), (105, .sl false 3 22 (Int.toNat (Int.tmod (IntKind.i64.wrap x567) 8)) 2), (106, .v (.int .i64 (((Int.toNat (Int.tmod (IntKind.i64.wrap x567) 8)) : Nat) : Int))), (107, .v (.int .i64 0)), (108, .dead), (134, .dead)], [(0, .p [.nl, .nl]), (1, .r [.sl false 4 0 n560 1]), (2, .r [.sl false 5 0 1 1, .sl false 6 0 (Int.toNat (IntKind.i64.wrap (1 + (Int.tmod (IntKind.i64.wrap x446) 4)))) 1]), (3, .p c439), (4, .p c561), (5, .p [(.int .i64 0)]), (6, .p (List.replicate (Int.toNat (IntKind.i64.wrap (1 + (Int.tmod (IntKind.i64.wrap x446) 4)))) (.int .i64 0)))], 7, []⟩) [3, 4, 5, 6, 12, 105, 106, 107] (by kernel_rfl)) ⟨_, _, _, h1357, rfl⟩ ?_
        clear h1357
        rintro n _ ⟨x600, c601, c602, h1357, rfl⟩
        cases n with
        | zero => cases h1357
        | succ n =>
          rw [m44_L20] at h1357
          have hh := brn_some h1357; clear h1357; rcases hh with ⟨h603, h1357⟩ | ⟨h603, h1357⟩
          · have hh := grd_some h1357; clear h1357; obtain ⟨⟨g604, g605⟩, h1357⟩ := hh
            have hh := grd_some h1357; clear h1357; obtain ⟨g606, h1357⟩ := hh
            have hh := getA2_some h1357; clear h1357; obtain ⟨p608, p609, h607, h1357⟩ := hh
            injection h607 with h607
            have hh := getI_some h1357; clear h1357; obtain ⟨x611, h610, h1357⟩ := hh
            have hh := grd_some h1357; clear h1357; obtain ⟨g612, h1357⟩ := hh
            have hh := getI_some h1357; clear h1357; obtain ⟨x614, h613, h1357⟩ := hh
            have hh := grd_some h1357; clear h1357; obtain ⟨g615, h1357⟩ := hh
            have hh := grd_some h1357; clear h1357; obtain ⟨⟨g616, g617⟩, h1357⟩ := hh
            have hh := grd_some h1357; clear h1357; obtain ⟨g618, h1357⟩ := hh
            have hh := getI_some h1357; clear h1357; obtain ⟨x620, h619, h1357⟩ := hh
            have hh := brn_some h1357; clear h1357; rcases hh with ⟨h621, h1357⟩ | ⟨h621, h1357⟩
            · have hh := grd_some h1357; clear h1357; obtain ⟨⟨g622, g623⟩, h1357⟩ := hh
              have hh := grd_some h1357; clear h1357; obtain ⟨g624, h1357⟩ := hh
              have hh := getI_some h1357; clear h1357; obtain ⟨x626, h625, h1357⟩ := hh
              have hh := brn_some h1357; clear h1357; rcases hh with ⟨h627, h1357⟩ | ⟨h627, h1357⟩
              · have hh := grd_some h1357; clear h1357; obtain ⟨g628, h1357⟩ := hh
                have hh := grd_some h1357; clear h1357; obtain ⟨g629, h1357⟩ := hh
                refine W_sound tab_ok mixed 75 _ _ _ ?_
                simp -implicitDefEqProofs only [go_sem, Nat.reduceBEq, Nat.reduceAdd, Nat.reduceSub, Nat.reduceMul, Nat.reduceLT, Nat.reduceLeDiff, Int.reduceLE, Int.reduceLT, Int.reduceToNat, Int.reduceBEq, Int.reduceBNe, ↓reduceIte, Int.reduceAdd, Int.reduceSub, Int.reduceGT, Int.reduceGE, h438, g440, h441, g443, g444, h445, g447, h448, g562, g563, g564, g565, h566, g568, g569, g570, g571, h603, g604, g605, g606, h607, h610, g612, h613, g615, g616, g617, g618, h619, h621, g622, g623, g624, h625, h627, g628, g629]
                repeat with_reducible refine And.intro (by first | kernel_rfl | decide) ?_
                (try rw [h441] at h1357)
                (try rw [h445] at h1357)
                (try rw [h448] at h1357)
                (try rw [h566] at h1357)
                (try rw [h619] at h1357)
                (try rw [h625] at h1357)
                refine cutQ _ ?_ ⟨n, Nat.lt_succ_self n, _, _, _, h1357, rfl⟩
                exact Wk_keep [3, 4, 5, 6, 12, 105, 106, 107] (by kernel_rfl)
              · refine W_sound tab_ok mixed 55 _ _ _ ?_
                simp -implicitDefEqProofs only [go_sem, Nat.reduceBEq, Nat.reduceAdd, Nat.reduceSub, Nat.reduceMul, Nat.reduceLT, Nat.reduceLeDiff, Int.reduceLE, Int.reduceLT, Int.reduceToNat, Int.reduceBEq, Int.reduceBNe, ↓reduceIte, Int.reduceAdd, Int.reduceSub, Int.reduceGT, Int.reduceGE, h438, g440, h441, g443, g444, h445, g447, h448, g562, g563, g564, g565, h566, g568, g569, g570, g571, h603, g604, g605, g606, h607, h610, g612, h613, g615, g616, g617, g618, h619, h621, g622, g623, g624, h625, h627]
                repeat with_reducible refine And.intro (by first | kernel_rfl | decide) ?_
                (try rw [h441] at h1357)
                (try rw [h445] at h1357)
                (try rw [h448] at h1357)
                (try rw [h566] at h1357)
                (try rw [h619] at h1357)
                (try rw [h625] at h1357)
                refine cutQ _ ?_ ⟨n, Nat.lt_succ_self n, _, _, _, h1357, rfl⟩
                exact Wk_keep [3, 4, 5, 6, 12, 105, 106, 107] (by kernel_rfl)
            · refine W_sound tab_ok mixed 55 _ _ _ ?_
              simp -implicitDefEqProofs only [go_sem, Nat.reduceBEq, Nat.reduceAdd, Nat.reduceSub, Nat.reduceMul, Nat.reduceLT, Nat.reduceLeDiff, Int.reduceLE, Int.reduceLT, Int.reduceToNat, Int.reduceBEq, Int.reduceBNe, ↓reduceIte, Int.reduceAdd, Int.reduceSub, Int.reduceGT, Int.reduceGE, h438, g440, h441, g443, g444, h445, g447, h448, g562, g563, g564, g565, h566, g568, g569, g570, g571, h603, g604, g605, g606, h607, h610, g612, h613, g615, g616, g617, g618, h619, h621]
              repeat with_reducible refine And.intro (by first | kernel_rfl | decide) ?_
              (try rw [h441] at h1357)
              (try rw [h445] at h1357)
              (try rw [h448] at h1357)
              (try rw [h566] at h1357)
              (try rw [h619] at h1357)
              refine cutQ _ ?_ ⟨n, Nat.lt_succ_self n, _, _, _, h1357, rfl⟩
              exact Wk_keep [3, 4, 5, 6, 12, 105, 106, 107] (by kernel_rfl)
          · refine W_sound tab_ok mixed 7 _ _ _ ?_
            simp -implicitDefEqProofs only [go_sem, Nat.reduceBEq, Nat.reduceAdd, Nat.reduceSub, Nat.reduceMul, Nat.reduceLT, Nat.reduceLeDiff, Int.reduceLE, Int.reduceLT, Int.reduceToNat, Int.reduceBEq, Int.reduceBNe, ↓reduceIte, Int.reduceAdd, Int.reduceSub, Int.reduceGT, Int.reduceGE, h438, g440, h441, g443, g444, h445, g447, h448, g562, g563, g564, g565, h566, g568, g569, g570, g571, h603]
            repeat with_reducible refine And.intro (by first | kernel_rfl | decide) ?_
            obtain rfl := Option.some.inj h1357
            refine cutQ _ ?_ ⟨_, _, rfl, rfl⟩
            exact Wk_keep [3, 6, 12] (by kernel_rfl)
      · rintro _ ⟨c630, c631, rfl, rfl⟩
        (try dsimp only at h1358)
        refine W_sound tab_ok mixed 9 _ _ _ ?_
        simp -implicitDefEqProofs only [go_sem, Nat.reduceBEq, Nat.reduceAdd, Nat.reduceSub, Nat.reduceMul, Nat.reduceLT, Nat.reduceLeDiff, Int.reduceLE, Int.reduceLT, Int.reduceToNat, Int.reduceBEq, Int.reduceBNe, ↓reduceIte, Int.reduceAdd, Int.reduceSub, Int.reduceGT, Int.reduceGE, h438, g440, h441, g443, g444, h445, g447, h448, g562, g563, g564, g565, h566, g568, g569, g570, g571]
        repeat with_reducible refine And.intro (by first | kernel_rfl | decide) ?_
        have hh := grd_some h1358; clear h1358; obtain ⟨g632, h1358⟩ := hh
        refine FinQ_wk (Wk_freeze 3 c561 (by rfl) (by decide) (by decide)) ?_
        simp -implicitDefEqProofs only [go_sem, Nat.reduceBEq, Nat.reduceAdd, Nat.reduceSub, Nat.reduceMul, Nat.reduceLT, Nat.reduceLeDiff, Int.reduceLE, Int.reduceLT, Int.reduceToNat, Int.reduceBEq, Int.reduceBNe, ↓reduceIte, Int.reduceAdd, Int.reduceSub, Int.reduceGT, Int.reduceGE, h438, g440, h441, g443, g444, h445, g447, h448, g562, g563, g564, g565, h566, g568, g569, g570, g571, g632]
        refine FinQ_wk (Wk_freeze 1 [(.lst false n560 c561)] (by rfl) (by decide) (by decide)) ?_
        simp -implicitDefEqProofs only [go_sem, Nat.reduceBEq, Nat.reduceAdd, Nat.reduceSub, Nat.reduceMul, Nat.reduceLT, Nat.reduceLeDiff, Int.reduceLE, Int.reduceLT, Int.reduceToNat, Int.reduceBEq, Int.reduceBNe, ↓reduceIte, Int.reduceAdd, Int.reduceSub, Int.reduceGT, Int.reduceGE, h438, g440, h441, g443, g444, h445, g447, h448, g562, g563, g564, g565, h566, g568, g569, g570, g571, g632]
        have hh := grd_some h1358; clear h1358; obtain ⟨g633, h1358⟩ := hh
        refine FinQ_wk (Wk_freeze 4 c630 (by rfl) (by decide) (by decide)) ?_
        simp -implicitDefEqProofs only [go_sem, Nat.reduceBEq, Nat.reduceAdd, Nat.reduceSub, Nat.reduceMul, Nat.reduceLT, Nat.reduceLeDiff, Int.reduceLE, Int.reduceLT, Int.reduceToNat, Int.reduceBEq, Int.reduceBNe, ↓reduceIte, Int.reduceAdd, Int.reduceSub, Int.reduceGT, Int.reduceGE, h438, g440, h441, g443, g444, h445, g447, h448, g562, g563, g564, g565, h566, g568, g569, g570, g571, g632, g633]
        have hh := grd_some h1358; clear h1358; obtain ⟨g634, h1358⟩ := hh
        refine FinQ_wk (Wk_freeze 5 c631 (by rfl) (by decide) (by decide)) ?_
        simp -implicitDefEqProofs only [go_sem, Nat.reduceBEq, Nat.reduceAdd, Nat.reduceSub, Nat.reduceMul, Nat.reduceLT, Nat.reduceLeDiff, Int.reduceLE, Int.reduceLT, Int.reduceToNat, Int.reduceBEq, Int.reduceBNe, ↓reduceIte, Int.reduceAdd, Int.reduceSub, Int.reduceGT, Int.reduceGE, h438, g440, h441, g443, g444, h445, g447, h448, g562, g563, g564, g565, h566, g568, g569, g570, g571, g632, g633, g634]
        refine FinQ_wk (Wk_freeze 0 [(.lst false 1 c630), (.lst false (Int.toNat (IntKind.i64.wrap (1 + (Int.tmod (IntKind.i64.wrap x446) 4)))) c631)] (by rfl) (by decide) (by decide)) ?_
        simp -implicitDefEqProofs only [go_sem, Nat.reduceBEq, Nat.reduceAdd, Nat.reduceSub, Nat.reduceMul, Nat.reduceLT, Nat.reduceLeDiff, Int.reduceLE, Int.reduceLT, Int.reduceToNat, Int.reduceBEq, Int.reduceBNe, ↓reduceIte, Int.reduceAdd, Int.reduceSub, Int.reduceGT, Int.reduceGE, h438, g440, h441, g443, g444, h445, g447, h448, g562, g563, g564, g565, h566, g568, g569, g570, g571, g632, g633, g634]
        obtain rfl := Option.some.inj h1358
        exact finC [(2, .v (.lst false 1 [(.lst false n560 c561)])), (3, .v (.ipt [(.lst false 1 c630), (.lst false (Int.toNat (IntKind.i64.wrap (1 + (Int.tmod (IntKind.i64.wrap x446) 4)))) c631)]))] [(2, .v (.lst false 1 [(.lst false n560 c561)])), (3, .v (.ipt [(.lst false 1 c630), (.lst false (Int.toNat (IntKind.i64.wrap (1 + (Int.tmod (IntKind.i64.wrap x446) 4)))) c631)]))] (by simp [leE, lk_cons]) (.cons _ _ _ _ _ (.v _ _ (.refl _)) (.cons _ _ _ _ _ (.v _ _ (.refl _)) .nil)) (by rfl) (by simp [leE, lk_cons]) (by decide) (by decide) rfl (by simp only [go_sem, Nat.reduceBEq, Nat.reduceAdd, Nat.reduceSub, Nat.reduceMul, Nat.reduceLT, Nat.reduceLeDiff, Int.reduceLE, Int.reduceLT, Int.reduceToNat, Int.reduceBEq, Int.reduceBNe, ↓reduceIte, resQ_tmp, resQ_cell, resQ_nil, retD_one, retD_two, retD_three, retD_none]; (try simp [R.val, retD_one, retD_two, retD_three, retD_none]); try assumption)
  · skip
    have hh := casI_some h; clear h; rcases hh with ⟨h448, h⟩ | ⟨_, h⟩
    · refine W_sound tab_ok mixed 33 _ _ _ ?_
      simp -implicitDefEqProofs only [go_sem, Nat.reduceBEq, Nat.reduceAdd, Nat.reduceSub, Nat.reduceMul, Nat.reduceLT, Nat.reduceLeDiff, Int.reduceLE, Int.reduceLT, Int.reduceToNat, Int.reduceBEq, Int.reduceBNe, ↓reduceIte, Int.reduceAdd, Int.reduceSub, Int.reduceGT, Int.reduceGE, h438, g440, h441, g443, g444, h445, g447, h448]
      repeat with_reducible refine And.intro (by first | kernel_rfl | decide) ?_
      refine Wp_block ?_
      refine Wp_loopL (WpL_step ?_)
      refine W_sound tab_ok mixed 19 _ _ _ ?_
      simp -implicitDefEqProofs only [go_sem, Nat.reduceBEq, Nat.reduceAdd, Nat.reduceSub, Nat.reduceMul, Nat.reduceLT, Nat.reduceLeDiff, Int.reduceLE, Int.reduceLT, Int.reduceToNat, Int.reduceBEq, Int.reduceBNe, ↓reduceIte, Int.reduceAdd, Int.reduceSub, Int.reduceGT, Int.reduceGE, h438, g440, h441, g443, g444, h445, g447, h448]
      repeat with_reducible refine And.intro (by first | kernel_rfl | decide) ?_
      refine Wp_weaken (Wk_ownC 32 0 1 rfl rfl (by decide) (by decide)) ?_
      simp -implicitDefEqProofs only [go_sem, Nat.reduceBEq, Nat.reduceAdd, Nat.reduceSub, Nat.reduceMul, Nat.reduceLT, Nat.reduceLeDiff, Int.reduceLE, Int.reduceLT, Int.reduceToNat, Int.reduceBEq, Int.reduceBNe, ↓reduceIte, setO, Int.reduceAdd, Int.reduceSub, Int.reduceGT, Int.reduceGE, h438, g440, h441, g443, g444, h445, g447, h448]
      have hh := bnd'_some h; clear h; obtain ⟨o1359, h1360, h1361⟩ := hh
      refine Wp_cut (fun s => ∃ n746, ∃ c747, (n746, c747) = o1359 ∧ s = ⟨[], [(0, .dead), (1, .ptr 0 0), (2, .dead), (3, .ptr 1 0), (4, .v (.int .i64 2)), (5, .v (.int .i64 (IntKind.i64.wrap (1 + (Int.tmod (IntKind.i64.wrap x446) 4))))), (6, .sl false 2 0 2 1), (7, .dead), (8, .dead), (9, .dead), (10, .dead), (11, .dead), (12, .dead), (14, .dead), (15, .dead), (16, .dead), (29, .v (.int .i64 2)), (30, .v (.int .i64 0)), (31, .dead), (33, .dead), (34, .dead), (35, .dead), (48, .dead), (65, .dead), (70, .dead), (105, .dead), (106, .dead), (107, .dead), (108, .dead), (134, .dead)], [(0, .p c439), (1, .p [.nl, .nl]), (2, .r [.sl false 3 0 n746 1, .v .nl]), (3, .p c747)], 4, []⟩) ?_ ?_
      · refine Wp_block ?_
        refine Wp_loopG (fun n s => ∃ x705, ∃ n706, ∃ c707, m44_L10 N c439 x446 n x705 n706 c707 = some o1359 ∧ s = ⟨[], [(0, .dead), (1, .ptr 0 0), (2, .dead), (3, .ptr 1 0), (4, .v (.int .i64 2)), (5, .v (.int .i64 (IntKind.i64.wrap (1 + (Int.tmod (IntKind.i64.wrap x446) 4))))), (6, .sl false 2 0 2 1), (7, .v (.int .i64 0)), (8, .dead), (9, .dead), (10, .dead), (11, .dead), (12, .dead), (14, .dead), (15, .dead), (16, .dead), (29, .v (.int .i64 2)), (30, .v (.int .i64 0)), (31, .dead), (33, .v (.int .i64 (IntKind.i64.wrap (1 + (Int.tmod (IntKind.i64.wrap x446) 4))))), (34, .v (.int .i64 x705)), (35, .dead), (48, .dead), (65, .dead), (70, .dead), (105, .dead), (106, .dead), (107, .dead), (108, .dead), (134, .dead)], [(0, .p c439), (1, .p [.nl, .nl]), (2, .r [.sl false 3 0 n706 1, .v .nl]), (3, .p c707)], 4, []⟩) N _ (Wk_keep (st' := ⟨[], [(0, .dead), (1, .ptr 0 0), (2, .dead), (3, .ptr 1 0), (4, .v (.int .i64 2)), (5, .v (.int .i64 (IntKind.i64.wrap (1 + (Int.tmod (IntKind.i64.wrap x446) 4))))), (6, .sl false 2 0 2 1), (7, .v (.int .i64 0)), (8, .dead), (9, .dead), (10, .dead), (11, .dead), (12, .dead), (14, .dead), (15, .dead), (16, .dead), (29, .v (.int .i64 2)), (30, .v (.int .i64 0)), (31, .dead), (33, .v (.int .i64 (IntKind.i64.wrap (1 + (Int.tmod (IntKind.i64.wrap x446) 4))))), (34, .v (.int .i64 0)), (35, .dead), (48, .dead), (65, .dead), (70, .dead), (105, .dead), (106, .dead), (107, .dead), (108, .dead), (134, .dead)], [(0, .p c439), (1, .p [.nl, .nl]), (2, .r [.sl false 3 0 0 1, .v .nl]), (3, .p [])], 4, []⟩) [1, 3, 4, 5, 6, 7, 29, 30, 33, 34] (by kernel_rfl)) ⟨_, _, _, h1360, rfl⟩ ?_
        clear h1360
        rintro n _ ⟨x705, n706, c707, h1360, rfl⟩
        cases n with
        | zero => cases h1360
        | succ n =>
          rw [m44_L10] at h1360
          have hh := brn_some h1360; clear h1360; rcases hh with ⟨h708, h1360⟩ | ⟨h708, h1360⟩
          · have hh := grd_some h1360; clear h1360; obtain ⟨⟨g709, g710⟩, h1360⟩ := hh
            have hh := grd_some h1360; clear h1360; obtain ⟨g711, h1360⟩ := hh
            have hh := getI_some h1360; clear h1360; obtain ⟨x713, h712, h1360⟩ := hh
            have hh := grd_some h1360; clear h1360; obtain ⟨g714, h1360⟩ := hh
            have hh := grd_some h1360; clear h1360; obtain ⟨g715, h1360⟩ := hh
            have hh := getI_some h1360; clear h1360; obtain ⟨x717, h716, h1360⟩ := hh
            have hh := grd_some h1360; clear h1360; obtain ⟨g718, h1360⟩ := hh
            have hh := brn_some h1360; clear h1360; rcases hh with ⟨h719, h1360⟩ | ⟨h719, h1360⟩
            · have hh := grd_some h1360; clear h1360; obtain ⟨g720, h1360⟩ := hh
              have hh := getI_some h1360; clear h1360; obtain ⟨x722, h721, h1360⟩ := hh
              have hh := grd_some h1360; clear h1360; obtain ⟨g723, h1360⟩ := hh
              have hh := grd_some h1360; clear h1360; obtain ⟨g724, h1360⟩ := hh
              have hh := getI_some h1360; clear h1360; obtain ⟨x726, h725, h1360⟩ := hh
              refine W_sound tab_ok mixed 57 _ _ _ ?_
              simp -implicitDefEqProofs only [go_sem, Nat.reduceBEq, Nat.reduceAdd, Nat.reduceSub, Nat.reduceMul, Nat.reduceLT, Nat.reduceLeDiff, Int.reduceLE, Int.reduceLT, Int.reduceToNat, Int.reduceBEq, Int.reduceBNe, ↓reduceIte, Int.reduceAdd, Int.reduceSub, Int.reduceGT, Int.reduceGE, h438, g440, h441, g443, g444, h445, g447, h448, h708, g709, g710, g711, h712, g714, g715, h716, g718, h719, g720, h721, g723, g724, h725]
              repeat with_reducible refine And.intro (by first | kernel_rfl | decide) ?_
              have hh := bnd'_some h1360; clear h1360; obtain ⟨o1362, h1363, h1364⟩ := hh
              refine Wp_cut (fun s => ∃ x741, x741 = o1362 ∧ s = ⟨[], [(0, .dead), (1, .ptr 0 0), (2, .dead), (3, .ptr 1 0), (4, .v (.int .i64 2)), (5, .v (.int .i64 (IntKind.i64.wrap (1 + (Int.tmod (IntKind.i64.wrap x446) 4))))), (6, .sl false 2 0 2 1), (7, .v (.int .i64 0)), (8, .dead), (9, .v (.int .i64 x741)), (10, .dead), (11, .dead), (12, .dead), (14, .dead), (15, .dead), (16, .dead), (29, .v (.int .i64 2)), (30, .v (.int .i64 0)), (31, .dead), (33, .v (.int .i64 (IntKind.i64.wrap (1 + (Int.tmod (IntKind.i64.wrap x446) 4))))), (34, .v (.int .i64 x705)), (35, .dead), (48, .dead), (65, .dead), (70, .dead), (105, .dead), (106, .dead), (107, .dead), (108, .dead), (134, .dead)], [(0, .p c439), (1, .p [.nl, .nl]), (2, .r [.sl false 3 0 n706 1, .v .nl]), (3, .p c707)], 4, []⟩) ?_ ?_
              · refine Wp_block ?_
                refine Wp_loopG (fun n s => ∃ x727, ∃ x728, m44_L11 N c439 x446 x705 n706 c707 n x727 x728 = some o1362 ∧ s = ⟨[], [(0, .dead), (1, .ptr 0 0), (2, .dead), (3, .ptr 1 0), (4, .v (.int .i64 2)), (5, .v (.int .i64 (IntKind.i64.wrap (1 + (Int.tmod (IntKind.i64.wrap x446) 4))))), (6, .sl false 2 0 2 1), (7, .v (.int .i64 0)), (8, .v (.int .i64 x705)), (9, .v (.int .i64 x727)), (10, .v (.int .i64 x728)), (11, .dead), (12, .dead), (14, .dead), (15, .dead), (16, .dead), (29, .v (.int .i64 2)), (30, .v (.int .i64 0)), (31, .dead), (33, .v (.int .i64 (IntKind.i64.wrap (1 + (Int.tmod (IntKind.i64.wrap x446) 4))))), (34, .v (.int .i64 x705)), (35, .dead), (48, .dead), (65, .dead), (70, .dead), (105, .dead), (106, .dead), (107, .dead), (108, .dead), (134, .dead)], [(0, .p c439), (1, .p [.nl, .nl]), (2, .r [.sl false 3 0 n706 1, .v .nl]), (3, .p c707)], 4, []⟩) N _ (Wk_keep (st' := ⟨[], [(0, .dead), (1, .ptr 0 0), (2, .dead), (3, .ptr 1 0), (4, .v (.int .i64 2)), (5, .v (.int .i64 (IntKind.i64.wrap (1 + (Int.tmod (IntKind.i64.wrap x446) 4))))), (6, .sl false 2 0 2 1), (7, .v (.int .i64 0)), (8, .v (.int .i64 x705)), (9, .v (.int .i64 (IntKind.i64.wrap ((IntKind.i64.wrap (12 + (Int.tmod (IntKind.i64.wrap x722) 5))) + (Int.tmod (IntKind.i64.wrap x726) 5))))), (10, .v (.int .i64 1)), (11, .dead), (12, .dead), (14, .dead), (15, .dead), (16, .dead), (29, .v (.int .i64 2)), (30, .v (.int .i64 0)), (31, .dead), (33, .v (.int .i64 (IntKind.i64.wrap (1 + (Int.tmod (IntKind.i64.wrap x446) 4))))), (34, .v (.int .i64 x705)), (35, .dead), (48, .dead), (65, .dead), (70, .dead), (105, .dead), (106, .dead), (107, .dead), (108, .dead), (134, .dead)], [(0, .p c439), (1, .p [.nl, .nl]), (2, .r [.sl false 3 0 n706 1, .v .nl]), (3, .p c707)], 4, []⟩) [1, 3, 4, 5, 6, 7, 8, 9, 10, 29, 30, 33, 34] (by kernel_rfl)) ⟨_, _, h1363, rfl⟩ ?_
                clear h1363
                rintro n _ ⟨x727, x728, h1363, rfl⟩
                cases n with
                | zero => cases h1363
                | succ n =>
                  rw [m44_L11] at h1363
                  have hh := brn_some h1363; clear h1363; rcases hh with ⟨h729, h1363⟩ | ⟨h729, h1363⟩
                  · refine W_sound tab_ok mixed 15 _ _ _ ?_
                    simp -implicitDefEqProofs only [go_sem, Nat.reduceBEq, Nat.reduceAdd, Nat.reduceSub, Nat.reduceMul, Nat.reduceLT, Nat.reduceLeDiff, Int.reduceLE, Int.reduceLT, Int.reduceToNat, Int.reduceBEq, Int.reduceBNe, ↓reduceIte, Int.reduceAdd, Int.reduceSub, Int.reduceGT, Int.reduceGE, h438, g440, h441, g443, g444, h445, g447, h448, h708, g709, g710, g711, h712, g714, g715, h716, g718, h719, g720, h721, g723, g724, h725, h729]
                    repeat with_reducible refine And.intro (by first | kernel_rfl | decide) ?_
                    have hh := bnd'_some h1363; clear h1363; obtain ⟨o1365, h1366, h1367⟩ := hh
                    refine Wp_cut (fun s => ∃ x740, x740 = o1365 ∧ s = ⟨[], [(0, .dead), (1, .ptr 0 0), (2, .dead), (3, .ptr 1 0), (4, .v (.int .i64 2)), (5, .v (.int .i64 (IntKind.i64.wrap (1 + (Int.tmod (IntKind.i64.wrap x446) 4))))), (6, .sl false 2 0 2 1), (7, .v (.int .i64 0)), (8, .v (.int .i64 x705)), (9, .v (.int .i64 x740)), (10, .v (.int .i64 x728)), (11, .dead), (12, .dead), (14, .dead), (15, .dead), (16, .dead), (29, .v (.int .i64 2)), (30, .v (.int .i64 0)), (31, .dead), (33, .v (.int .i64 (IntKind.i64.wrap (1 + (Int.tmod (IntKind.i64.wrap x446) 4))))), (34, .v (.int .i64 x705)), (35, .dead), (48, .dead), (65, .dead), (70, .dead), (105, .dead), (106, .dead), (107, .dead), (108, .dead), (134, .dead)], [(0, .p c439), (1, .p [.nl, .nl]), (2, .r [.sl false 3 0 n706 1, .v .nl]), (3, .p c707)], 4, []⟩) ?_ ?_
                    · refine Wp_block ?_
                      refine Wp_loopG (fun n s => ∃ x730, ∃ x731, m44_L12 N c439 x446 x705 n706 c707 x728 n x730 x731 = some o1365 ∧ s = ⟨[], [(0, .dead), (1, .ptr 0 0), (2, .dead), (3, .ptr 1 0), (4, .v (.int .i64 2)), (5, .v (.int .i64 (IntKind.i64.wrap (1 + (Int.tmod (IntKind.i64.wrap x446) 4))))), (6, .sl false 2 0 2 1), (7, .v (.int .i64 0)), (8, .v (.int .i64 x705)), (9, .v (.int .i64 x730)), (10, .v (.int .i64 x728)), (11, .v (.int .i64 x731)), (12, .dead), (14, .dead), (15, .dead), (16, .dead), (29, .v (.int .i64 2)), (30, .v (.int .i64 0)), (31, .dead), (33, .v (.int .i64 (IntKind.i64.wrap (1 + (Int.tmod (IntKind.i64.wrap x446) 4))))), (34, .v (.int .i64 x705)), (35, .dead), (48, .dead), (65, .dead), (70, .dead), (105, .dead), (106, .dead), (107, .dead), (108, .dead), (134, .dead)], [(0, .p c439), (1, .p [.nl, .nl]), (2, .r [.sl false 3 0 n706 1, .v .nl]), (3, .p c707)], 4, []⟩) N _ (Wk_keep (st' := ⟨[], [(0, .dead), (1, .ptr 0 0), (2, .dead), (3, .ptr 1 0), (4, .v (.int .i64 2)), (5, .v (.int .i64 (IntKind.i64.wrap (1 + (Int.tmod (IntKind.i64.wrap x446) 4))))), (6, .sl false 2 0 2 1), (7, .v (.int .i64 0)), (8, .v (.int .i64 x705)), (9, .v (.int .i64 x727)), (10, .v (.int .i64 x728)), (11, .v (.int .i64 1)), (12, .dead), (14, .dead), (15, .dead), (16, .dead), (29, .v (.int .i64 2)), (30, .v (.int .i64 0)), (31, .dead), (33, .v (.int .i64 (IntKind.i64.wrap (1 + (Int.tmod (IntKind.i64.wrap x446) 4))))), (34, .v (.int .i64 x705)), (35, .dead), (48, .dead), (65, .dead), (70, .dead), (105, .dead), (106, .dead), (107, .dead), (108, .dead), (134, .dead)], [(0, .p c439), (1, .p [.nl, .nl]), (2, .r [.sl false 3 0 n706 1, .v .nl]), (3, .p c707)], 4, []⟩) [1, 3, 4, 5, 6, 7, 8, 9, 10, 11, 29, 30, 33, 34] (by kernel_rfl)) ⟨_, _, h1366, rfl⟩ ?_
                      clear h1366
                      rintro n _ ⟨x730, x731, h1366, rfl⟩
                      cases n with
                      | zero => cases h1366
                      | succ n =>
                        rw [m44_L12] at h1366
                        have hh := brn_some h1366; clear h1366; rcases hh with ⟨h732, h1366⟩ | ⟨h732, h1366⟩
                        · have hh := grd_some h1366; clear h1366; obtain ⟨⟨g733, g734⟩, h1366⟩ := hh
                          have hh := grd_some h1366; clear h1366; obtain ⟨⟨g735, g736⟩, h1366⟩ := hh
                          have hh := grd_some h1366; clear h1366; obtain ⟨g737, h1366⟩ := hh
                          have hh := getI_some h1366; clear h1366; obtain ⟨x739, h738, h1366⟩ := hh
                          refine W_sound tab_ok mixed 30 _ _ _ ?_
                          simp -implicitDefEqProofs only [go_sem, Nat.reduceBEq, Nat.reduceAdd, Nat.reduceSub, Nat.reduceMul, Nat.reduceLT, Nat.reduceLeDiff, Int.reduceLE, Int.reduceLT, Int.reduceToNat, Int.reduceBEq, Int.reduceBNe, ↓reduceIte, Int.reduceAdd, Int.reduceSub, Int.reduceGT, Int.reduceGE, h438, g440, h441, g443, g444, h445, g447, h448, h708, g709, g710, g711, h712, g714, g715, h716, g718, h719, g720, h721, g723, g724, h725, h729, h732, g733, g734, g735, g736, g737, h738]
                          repeat with_reducible refine And.intro (by first | kernel_rfl | decide) ?_
                          (try rw [h441] at h1366)
                          (try rw [h445] at h1366)
                          (try rw [h448] at h1366)
                          (try rw [h712] at h1366)
                          (try rw [h716] at h1366)
                          (try rw [h721] at h1366)
                          (try rw [h725] at h1366)
                          (try rw [h738] at h1366)
                          refine cutQ _ ?_ ⟨n, Nat.lt_succ_self n, _, _, h1366, rfl⟩
                          exact Wk_keep [1, 3, 4, 5, 6, 7, 8, 9, 10, 11, 29, 30, 33, 34] (by kernel_rfl)
                        · refine W_sound tab_ok mixed 9 _ _ _ ?_
                          simp -implicitDefEqProofs only [go_sem, Nat.reduceBEq, Nat.reduceAdd, Nat.reduceSub, Nat.reduceMul, Nat.reduceLT, Nat.reduceLeDiff, Int.reduceLE, Int.reduceLT, Int.reduceToNat, Int.reduceBEq, Int.reduceBNe, ↓reduceIte, Int.reduceAdd, Int.reduceSub, Int.reduceGT, Int.reduceGE, h438, g440, h441, g443, g444, h445, g447, h448, h708, g709, g710, g711, h712, g714, g715, h716, g718, h719, g720, h721, g723, g724, h725, h729, h732]
                          repeat with_reducible refine And.intro (by first | kernel_rfl | decide) ?_
                          obtain rfl := Option.some.inj h1366
                          refine cutQ _ ?_ ⟨_, rfl, rfl⟩
                          exact Wk_keep [1, 3, 4, 5, 6, 7, 8, 9, 10, 29, 30, 33, 34] (by kernel_rfl)
                    · rintro _ ⟨x740, rfl, rfl⟩
                      refine W_sound tab_ok mixed 6 _ _ _ ?_
                      simp -implicitDefEqProofs only [go_sem, Nat.reduceBEq, Nat.reduceAdd, Nat.reduceSub, Nat.reduceMul, Nat.reduceLT, Nat.reduceLeDiff, Int.reduceLE, Int.reduceLT, Int.reduceToNat, Int.reduceBEq, Int.reduceBNe, ↓reduceIte, Int.reduceAdd, Int.reduceSub, Int.reduceGT, Int.reduceGE, h438, g440, h441, g443, g444, h445, g447, h448, h708, g709, g710, g711, h712, g714, g715, h716, g718, h719, g720, h721, g723, g724, h725, h729]
                      repeat with_reducible refine And.intro (by first | kernel_rfl | decide) ?_
                      (try rw [h441] at h1367)
                      (try rw [h445] at h1367)
                      (try rw [h448] at h1367)
                      (try rw [h712] at h1367)
                      (try rw [h716] at h1367)
                      (try rw [h721] at h1367)
                      (try rw [h725] at h1367)
                      refine cutQ _ ?_ ⟨n, Nat.lt_succ_self n, _, _, h1367, rfl⟩
                      exact Wk_keep [1, 3, 4, 5, 6, 7, 8, 9, 10, 29, 30, 33, 34] (by kernel_rfl)
                  · refine W_sound tab_ok mixed 9 _ _ _ ?_
                    simp -implicitDefEqProofs only [go_sem, Nat.reduceBEq, Nat.reduceAdd, Nat.reduceSub, Nat.reduceMul, Nat.reduceLT, Nat.reduceLeDiff, Int.reduceLE, Int.reduceLT, Int.reduceToNat, Int.reduceBEq, Int.reduceBNe, ↓reduceIte, Int.reduceAdd, Int.reduceSub, Int.reduceGT, Int.reduceGE, h438, g440, h441, g443, g444, h445, g447, h448, h708, g709, g710, g711, h712, g714, g715, h716, g718, h719, g720, h721, g723, g724, h725, h729]
                    repeat with_reducible refine And.intro (by first | kernel_rfl | decide) ?_
                    obtain rfl := Option.some.inj h1363
                    refine cutQ _ ?_ ⟨_, rfl, rfl⟩
                    exact Wk_keep [1, 3, 4, 5, 6, 7, 9, 29, 30, 33, 34] (by kernel_rfl)
              · rintro _ ⟨x741, rfl, rfl⟩
                have hh := grd_some h1364; clear h1364; obtain ⟨g742, h1364⟩ := hh
                have hh := grd_some h1364; clear h1364; obtain ⟨g743, h1364⟩ := hh
                refine W_sound tab_ok mixed 18 _ _ _ ?_
                simp -implicitDefEqProofs only [go_sem, Nat.reduceBEq, Nat.reduceAdd, Nat.reduceSub, Nat.reduceMul, Nat.reduceLT, Nat.reduceLeDiff, Int.reduceLE, Int.reduceLT, Int.reduceToNat, Int.reduceBEq, Int.reduceBNe, ↓reduceIte, Int.reduceAdd, Int.reduceSub, Int.reduceGT, Int.reduceGE, h438, g440, h441, g443, g444, h445, g447, h448, h708, g709, g710, g711, h712, g714, g715, h716, g718, h719, g720, h721, g723, g724, h725, g742, g743]
                repeat with_reducible refine And.intro (by first | kernel_rfl | decide) ?_
                (try rw [h441] at h1364)
                (try rw [h445] at h1364)
                (try rw [h448] at h1364)
                (try rw [h712] at h1364)
                (try rw [h716] at h1364)
                (try rw [h721] at h1364)
                (try rw [h725] at h1364)
                refine cutQ _ ?_ ⟨n, Nat.lt_succ_self n, _, _, _, h1364, rfl⟩
                exact Wk_keep [1, 3, 4, 5, 6, 7, 29, 30, 33, 34] (by kernel_rfl)
            · have hh := grd_some h1360; clear h1360; obtain ⟨g744, h1360⟩ := hh
              have hh := grd_some h1360; clear h1360; obtain ⟨g745, h1360⟩ := hh
              refine W_sound tab_ok mixed 54 _ _ _ ?_
              simp -implicitDefEqProofs only [go_sem, Nat.reduceBEq, Nat.reduceAdd, Nat.reduceSub, Nat.reduceMul, Nat.reduceLT, Nat.reduceLeDiff, Int.reduceLE, Int.reduceLT, Int.reduceToNat, Int.reduceBEq, Int.reduceBNe, ↓reduceIte, Int.reduceAdd, Int.reduceSub, Int.reduceGT, Int.reduceGE, h438, g440, h441, g443, g444, h445, g447, h448, h708, g709, g710, g711, h712, g714, g715, h716, g718, h719, g744, g745]
              repeat with_reducible refine And.intro (by first | kernel_rfl | decide) ?_
              (try rw [h441] at h1360)
              (try rw [h445] at h1360)
              (try rw [h448] at h1360)
              (try rw [h712] at h1360)
              (try rw [h716] at h1360)
              refine cutQ _ ?_ ⟨n, Nat.lt_succ_self n, _, _, _, h1360, rfl⟩
              exact Wk_keep [1, 3, 4, 5, 6, 7, 29, 30, 33, 34] (by kernel_rfl)
          · refine W_sound tab_ok mixed 7 _ _ _ ?_
            simp -implicitDefEqProofs only [go_sem, Nat.reduceBEq, Nat.reduceAdd, Nat.reduceSub, Nat.reduceMul, Nat.reduceLT, Nat.reduceLeDiff, Int.reduceLE, Int.reduceLT, Int.reduceToNat, Int.reduceBEq, Int.reduceBNe, ↓reduceIte, Int.reduceAdd, Int.reduceSub, Int.reduceGT, Int.reduceGE, h438, g440, h441, g443, g444, h445, g447, h448, h708]
            repeat with_reducible refine And.intro (by first | kernel_rfl | decide) ?_
            obtain rfl := Option.some.inj h1360
            refine cutQ _ ?_ ⟨_, _, rfl, rfl⟩
            exact Wk_keep [1, 3, 4, 5, 6, 29, 30] (by kernel_rfl)
      · rintro _ ⟨n746, c747, rfl, rfl⟩
        (try dsimp only at h1361)
        refine W_sound tab_ok mixed 5 _ _ _ ?_
        simp -implicitDefEqProofs only [go_sem, Nat.reduceBEq, Nat.reduceAdd, Nat.reduceSub, Nat.reduceMul, Nat.reduceLT, Nat.reduceLeDiff, Int.reduceLE, Int.reduceLT, Int.reduceToNat, Int.reduceBEq, Int.reduceBNe, ↓reduceIte, Int.reduceAdd, Int.reduceSub, Int.reduceGT, Int.reduceGE, h438, g440, h441, g443, g444, h445, g447, h448]
        repeat with_reducible refine And.intro (by first | kernel_rfl | decide) ?_
        refine again (Wk_keep (st' := ⟨[], [(0, .dead), (1, .ptr 0 0), (2, .dead), (3, .ptr 1 0), (4, .v (.int .i64 2)), (5, .v (.int .i64 (IntKind.i64.wrap (1 + (Int.tmod (IntKind.i64.wrap x446) 4))))), (6, .sl false 2 0 2 1), (7, .dead), (8, .dead), (9, .dead), (10, .dead), (11, .dead), (12, .dead), (14, .dead), (15, .dead), (16, .dead), (29, .v (.int .i64 2)), (30, .v (.int .i64 1)), (31, .dead), (33, .dead), (34, .dead), (35, .dead), (48, .dead), (65, .dead), (70, .dead), (105, .dead), (106, .dead), (107, .dead), (108, .dead), (134, .dead)], [(0, .p c439), (1, .p [.nl, .nl]), (2, .r [.sl false 3 0 n746 1, .v .nl]), (3, .p c747)], 4, []⟩) [1, 3, 4, 5, 6, 29, 30] (by kernel_rfl)) ?_
        refine W_sound tab_ok mixed 19 _ _ _ ?_
        simp -implicitDefEqProofs only [go_sem, Nat.reduceBEq, Nat.reduceAdd, Nat.reduceSub, Nat.reduceMul, Nat.reduceLT, Nat.reduceLeDiff, Int.reduceLE, Int.reduceLT, Int.reduceToNat, Int.reduceBEq, Int.reduceBNe, ↓reduceIte, Int.reduceAdd, Int.reduceSub, Int.reduceGT, Int.reduceGE, h438, g440, h441, g443, g444, h445, g447, h448]
        repeat with_reducible refine And.intro (by first | kernel_rfl | decide) ?_
        refine Wp_weaken (Wk_ownC 2 1 1 rfl rfl (by decide) (by decide)) ?_
        simp -implicitDefEqProofs only [go_sem, Nat.reduceBEq, Nat.reduceAdd, Nat.reduceSub, Nat.reduceMul, Nat.reduceLT, Nat.reduceLeDiff, Int.reduceLE, Int.reduceLT, Int.reduceToNat, Int.reduceBEq, Int.reduceBNe, ↓reduceIte, setO, Int.reduceAdd, Int.reduceSub, Int.reduceGT, Int.reduceGE, h438, g440, h441, g443, g444, h445, g447, h448]
        have hh := bnd'_some h1361; clear h1361; obtain ⟨o1368, h1369, h1370⟩ := hh
        refine Wp_cut (fun s => ∃ n859, ∃ c860, (n859, c860) = o1368 ∧ s = ⟨[], [(0, .dead), (1, .ptr 0 0), (2, .dead), (3, .ptr 1 0), (4, .v (.int .i64 2)), (5, .v (.int .i64 (IntKind.i64.wrap (1 + (Int.tmod (IntKind.i64.wrap x446) 4))))), (6, .sl false 2 0 2 1), (7, .dead), (8, .dead), (9, .dead), (10, .dead), (11, .dead), (12, .dead), (14, .dead), (15, .dead), (16, .dead), (29, .v (.int .i64 2)), (30, .v (.int .i64 1)), (31, .dead), (33, .dead), (34, .dead), (35, .dead), (48, .dead), (65, .dead), (70, .dead), (105, .dead), (106, .dead), (107, .dead), (108, .dead), (134, .dead)], [(0, .p c439), (1, .p [.nl, .nl]), (2, .r [.sl false 3 0 n746 1, .sl false 4 0 n859 1]), (3, .p c747), (4, .p c860)], 5, []⟩) ?_ ?_
        · refine Wp_block ?_
          refine Wp_loopG (fun n s => ∃ x818, ∃ n819, ∃ c820, m44_L13 N c439 x446 n746 c747 n x818 n819 c820 = some o1368 ∧ s = ⟨[], [(0, .dead), (1, .ptr 0 0), (2, .dead), (3, .ptr 1 0), (4, .v (.int .i64 2)), (5, .v (.int .i64 (IntKind.i64.wrap (1 + (Int.tmod (IntKind.i64.wrap x446) 4))))), (6, .sl false 2 0 2 1), (7, .v (.int .i64 1)), (8, .dead), (9, .dead), (10, .dead), (11, .dead), (12, .dead), (14, .dead), (15, .dead), (16, .dead), (29, .v (.int .i64 2)), (30, .v (.int .i64 1)), (31, .dead), (33, .v (.int .i64 (IntKind.i64.wrap (1 + (Int.tmod (IntKind.i64.wrap x446) 4))))), (34, .v (.int .i64 x818)), (35, .dead), (48, .dead), (65, .dead), (70, .dead), (105, .dead), (106, .dead), (107, .dead), (108, .dead), (134, .dead)], [(0, .p c439), (1, .p [.nl, .nl]), (2, .r [.sl false 3 0 n746 1, .sl false 4 0 n819 1]), (3, .p c747), (4, .p c820)], 5, []⟩) N _ (Wk_keep (st' := ⟨[], [(0, .dead), (1, .ptr 0 0), (2, .dead), (3, .ptr 1 0), (4, .v (.int .i64 2)), (5, .v (.int .i64 (IntKind.i64.wrap (1 + (Int.tmod (IntKind.i64.wrap x446) 4))))), (6, .sl false 2 0 2 1), (7, .v (.int .i64 1)), (8, .dead), (9, .dead), (10, .dead), (11, .dead), (12, .dead), (14, .dead), (15, .dead), (16, .dead), (29, .v (.int .i64 2)), (30, .v (.int .i64 1)), (31, .dead), (33, .v (.int .i64 (IntKind.i64.wrap (1 + (Int.tmod (IntKind.i64.wrap x446) 4))))), (34, .v (.int .i64 0)), (35, .dead), (48, .dead), (65, .dead), (70, .dead), (105, .dead), (106, .dead), (107, .dead), (108, .dead), (134, .dead)], [(0, .p c439), (1, .p [.nl, .nl]), (2, .r [.sl false 3 0 n746 1, .sl false 4 0 0 1]), (3, .p c747), (4, .p [])], 5, []⟩) [1, 3, 4, 5, 6, 7, 29, 30, 33, 34] (by kernel_rfl)) ⟨_, _, _, h1369, rfl⟩ ?_
          clear h1369
          rintro n _ ⟨x818, n819, c820, h1369, rfl⟩
          cases n with
          | zero => cases h1369
          | succ n =>
            rw [m44_L13] at h1369
            have hh := brn_some h1369; clear h1369; rcases hh with ⟨h821, h1369⟩ | ⟨h821, h1369⟩
            · have hh := grd_some h1369; clear h1369; obtain ⟨⟨g822, g823⟩, h1369⟩ := hh
              have hh := grd_some h1369; clear h1369; obtain ⟨g824, h1369⟩ := hh
              have hh := getI_some h1369; clear h1369; obtain ⟨x826, h825, h1369⟩ := hh
              have hh := grd_some h1369; clear h1369; obtain ⟨g827, h1369⟩ := hh
              have hh := grd_some h1369; clear h1369; obtain ⟨g828, h1369⟩ := hh
              have hh := getI_some h1369; clear h1369; obtain ⟨x830, h829, h1369⟩ := hh
              have hh := grd_some h1369; clear h1369; obtain ⟨g831, h1369⟩ := hh
              have hh := brn_some h1369; clear h1369; rcases hh with ⟨h832, h1369⟩ | ⟨h832, h1369⟩
              · have hh := grd_some h1369; clear h1369; obtain ⟨g833, h1369⟩ := hh
                have hh := getI_some h1369; clear h1369; obtain ⟨x835, h834, h1369⟩ := hh
                have hh := grd_some h1369; clear h1369; obtain ⟨g836, h1369⟩ := hh
                have hh := grd_some h1369; clear h1369; obtain ⟨g837, h1369⟩ := hh
                have hh := getI_some h1369; clear h1369; obtain ⟨x839, h838, h1369⟩ := hh
                refine W_sound tab_ok mixed 57 _ _ _ ?_
                simp -implicitDefEqProofs only [go_sem, Nat.reduceBEq, Nat.reduceAdd, Nat.reduceSub, Nat.reduceMul, Nat.reduceLT, Nat.reduceLeDiff, Int.reduceLE, Int.reduceLT, Int.reduceToNat, Int.reduceBEq, Int.reduceBNe, ↓reduceIte, Int.reduceAdd, Int.reduceSub, Int.reduceGT, Int.reduceGE, h438, g440, h441, g443, g444, h445, g447, h448, h821, g822, g823, g824, h825, g827, g828, h829, g831, h832, g833, h834, g836, g837, h838]
                repeat with_reducible refine And.intro (by first | kernel_rfl | decide) ?_
                have hh := bnd'_some h1369; clear h1369; obtain ⟨o1371, h1372, h1373⟩ := hh
                refine Wp_cut (fun s => ∃ x854, x854 = o1371 ∧ s = ⟨[], [(0, .dead), (1, .ptr 0 0), (2, .dead), (3, .ptr 1 0), (4, .v (.int .i64 2)), (5, .v (.int .i64 (IntKind.i64.wrap (1 + (Int.tmod (IntKind.i64.wrap x446) 4))))), (6, .sl false 2 0 2 1), (7, .v (.int .i64 1)), (8, .dead), (9, .v (.int .i64 x854)), (10, .dead), (11, .dead), (12, .dead), (14, .dead), (15, .dead), (16, .dead), (29, .v (.int .i64 2)), (30, .v (.int .i64 1)), (31, .dead), (33, .v (.int .i64 (IntKind.i64.wrap (1 + (Int.tmod (IntKind.i64.wrap x446) 4))))), (34, .v (.int .i64 x818)), (35, .dead), (48, .dead), (65, .dead), (70, .dead), (105, .dead), (106, .dead), (107, .dead), (108, .dead), (134, .dead)], [(0, .p c439), (1, .p [.nl, .nl]), (2, .r [.sl false 3 0 n746 1, .sl false 4 0 n819 1]), (3, .p c747), (4, .p c820)], 5, []⟩) ?_ ?_
                · refine Wp_block ?_
                  refine Wp_loopG (fun n s => ∃ x840, ∃ x841, m44_L14 N c439 x446 n746 c747 x818 n819 c820 n x840 x841 = some o1371 ∧ s = ⟨[], [(0, .dead), (1, .ptr 0 0), (2, .dead), (3, .ptr 1 0), (4, .v (.int .i64 2)), (5, .v (.int .i64 (IntKind.i64.wrap (1 + (Int.tmod (IntKind.i64.wrap x446) 4))))), (6, .sl false 2 0 2 1), (7, .v (.int .i64 1)), (8, .v (.int .i64 x818)), (9, .v (.int .i64 x840)), (10, .v (.int .i64 x841)), (11, .dead), (12, .dead), (14, .dead), (15, .dead), (16, .dead), (29, .v (.int .i64 2)), (30, .v (.int .i64 1)), (31, .dead), (33, .v (.int .i64 (IntKind.i64.wrap (1 + (Int.tmod (IntKind.i64.wrap x446) 4))))), (34, .v (.int .i64 x818)), (35, .dead), (48, .dead), (65, .dead), (70, .dead), (105, .dead), (106, .dead), (107, .dead), (108, .dead), (134, .dead)], [(0, .p c439), (1, .p [.nl, .nl]), (2, .r [.sl false 3 0 n746 1, .sl false 4 0 n819 1]), (3, .p c747), (4, .p c820)], 5, []⟩) N _ (Wk_keep (st' := ⟨[], [(0, .dead), (1, .ptr 0 0), (2, .dead), (3, .ptr 1 0), (4, .v (.int .i64 2)), (5, .v (.int .i64 (IntKind.i64.wrap (1 + (Int.tmod (IntKind.i64.wrap x446) 4))))), (6, .sl false 2 0 2 1), (7, .v (.int .i64 1)), (8, .v (.int .i64 x818)), (9, .v (.int .i64 (IntKind.i64.wrap ((IntKind.i64.wrap (12 + (Int.tmod (IntKind.i64.wrap x835) 5))) + (Int.tmod (IntKind.i64.wrap x839) 5))))), (10, .v (.int .i64 1)), (11, .dead), (12, .dead), (14, .dead), (15, .dead), (16, .dead), (29, .v (.int .i64 2)), (30, .v (.int .i64 1)), (31, .dead), (33, .v (.int .i64 (IntKind.i64.wrap (1 + (Int.tmod (IntKind.i64.wrap x446) 4))))), (34, .v (.int .i64 x818)), (35, .dead), (48, .dead), (65, .dead), (70, .dead), (105, .dead), (106, .dead), (107, .dead), (108, .dead), (134, .dead)], [(0, .p c439), (1, .p [.nl, .nl]), (2, .r [.sl false 3 0 n746 1, .sl false 4 0 n819 1]), (3, .p c747), (4, .p c820)], 5, []⟩) [1, 3, 4, 5, 6, 7, 8, 9, 10, 29, 30, 33, 34] (by kernel_rfl)) ⟨_, _, h1372, rfl⟩ ?_
                  clear h1372
                  rintro n _ ⟨x840, x841, h1372, rfl⟩
                  cases n with
                  | zero => cases h1372
                  | succ n =>
                    rw [m44_L14] at h1372
                    have hh := brn_some h1372; clear h1372; rcases hh with ⟨h842, h1372⟩ | ⟨h842, h1372⟩
                    · refine W_sound tab_ok mixed 15 _ _ _ ?_
                      simp -implicitDefEqProofs only [go_sem, Nat.reduceBEq, Nat.reduceAdd, Nat.reduceSub, Nat.reduceMul, Nat.reduceLT, Nat.reduceLeDiff, Int.reduceLE, Int.reduceLT, Int.reduceToNat, Int.reduceBEq, Int.reduceBNe, ↓reduceIte, Int.reduceAdd, Int.reduceSub, Int.reduceGT, Int.reduceGE, h438, g440, h441, g443, g444, h445, g447, h448, h821, g822, g823, g824, h825, g827, g828, h829, g831, h832, g833, h834, g836, g837, h838, h842]
                      repeat with_reducible refine And.intro (by first | kernel_rfl | decide) ?_
                      have hh := bnd'_some h1372; clear h1372; obtain ⟨o1374, h1375, h1376⟩ := hh
                      refine Wp_cut (fun s => ∃ x853, x853 = o1374 ∧ s = ⟨[], [(0, .dead), (1, .ptr 0 0), (2, .dead), (3, .ptr 1 0), (4, .v (.int .i64 2)), (5, .v (.int .i64 (IntKind.i64.wrap (1 + (Int.tmod (IntKind.i64.wrap x446) 4))))), (6, .sl false 2 0 2 1), (7, .v (.int .i64 1)), (8, .v (.int .i64 x818)), (9, .v (.int .i64 x853)), (10, .v (.int .i64 x841)), (11, .dead), (12, .dead), (14, .dead), (15, .dead), (16, .dead), (29, .v (.int .i64 2)), (30, .v (.int .i64 1)), (31, .dead), (33, .v (.int .i64 (IntKind.i64.wrap (1 + (Int.tmod (IntKind.i64.wrap x446) 4))))), (34, .v (.int .i64 x818)), (35, .dead), (48, .dead), (65, .dead), (70, .dead), (105, .dead), (106, .dead), (107, .dead), (108, .dead), (134, .dead)], [(0, .p c439), (1, .p [.nl, .nl]), (2, .r [.sl false 3 0 n746 1, .sl false 4 0 n819 1]), (3, .p c747), (4, .p c820)], 5, []⟩) ?_ ?_
                      · refine Wp_block ?_
                        refine Wp_loopG (fun n s => ∃ x843, ∃ x844, m44_L15 N c439 x446 n746 c747 x818 n819 c820 x841 n x843 x844 = some o1374 ∧ s = ⟨[], [(0, .dead), (1, .ptr 0 0), (2, .dead), (3, .ptr 1 0), (4, .v (.int .i64 2)), (5, .v (.int .i64 (IntKind.i64.wrap (1 + (Int.tmod (IntKind.i64.wrap x446) 4))))), (6, .sl false 2 0 2 1), (7, .v (.int .i64 1)), (8, .v (.int .i64 x818)), (9, .v (.int .i64 x843)), (10, .v (.int .i64 x841)), (11, .v (.int .i64 x844)), (12, .dead), (14, .dead), (15, .dead), (16, .dead), (29, .v (.int .i64 2)), (30, .v (.int .i64 1)), (31, .dead), (33, .v (.int .i64 (IntKind.i64.wrap (1 + (Int.tmod (IntKind.i64.wrap x446) 4))))), (34, .v (.int .i64 x818)), (35, .dead), (48, .dead), (65, .dead), (70, .dead), (105, .dead), (106, .dead), (107, .dead), (108, .dead), (134, .dead)], [(0, .p c439), (1, .p [.nl, .nl]), (2, .r [.sl false 3 0 n746 1, .sl false 4 0 n819 1]), (3, .p c747), (4, .p c820)], 5, []⟩) N _ (Wk_keep (st' := ⟨[], [(0, .dead), (1, .ptr 0 0), (2, .dead), (3, .ptr 1 0), (4, .v (.int .i64 2)), (5, .v (.int .i64 (IntKind.i64.wrap (1 + (Int.tmod (IntKind.i64.wrap x446) 4))))), (6, .sl false 2 0 2 1), (7, .v (.int .i64 1)), (8, .v (.int .i64 x818)), (9, .v (.int .i64 x840)), (10, .v (.int .i64 x841)), (11, .v (.int .i64 1)), (12, .dead), (14, .dead), (15, .dead), (16, .dead), (29, .v (.int .i64 2)), (30, .v (.int .i64 1)), (31, .dead), (33, .v (.int .i64 (IntKind.i64.wrap (1 + (Int.tmod (IntKind.i64.wrap x446) 4))))), (34, .v (.int .i64 x818)), (35, .dead), (48, .dead), (65, .dead), (70, .dead), (105, .dead), (106, .dead), (107, .dead), (108, .dead), (134, .dead)], [(0, .p c439), (1, .p [.nl, .nl]), (2, .r [.sl false 3 0 n746 1, .sl false 4 0 n819 1]), (3, .p c747), (4, .p c820)], 5, []⟩) [1, 3, 4, 5, 6, 7, 8, 9, 10, 11, 29, 30, 33, 34] (by kernel_rfl)) ⟨_, _, h1375, rfl⟩ ?_
                        clear h1375
                        rintro n _ ⟨x843, x844, h1375, rfl⟩
                        cases n with
                        | zero => cases h1375
                        | succ n =>
                          rw [m44_L15] at h1375
                          have hh := brn_some h1375; clear h1375; rcases hh with ⟨h845, h1375⟩ | ⟨h845, h1375⟩
                          · have hh := grd_some h1375; clear h1375; obtain ⟨⟨g846, g847⟩, h1375⟩ := hh
                            have hh := grd_some h1375; clear h1375; obtain ⟨⟨g848, g849⟩, h1375⟩ := hh
                            have hh := grd_some h1375; clear h1375; obtain ⟨g850, h1375⟩ := hh
                            have hh := getI_some h1375; clear h1375; obtain ⟨x852, h851, h1375⟩ := hh
                            refine W_sound tab_ok mixed 30 _ _ _ ?_
                            simp -implicitDefEqProofs only [go_sem, Nat.reduceBEq, Nat.reduceAdd, Nat.reduceSub, Nat.reduceMul, Nat.reduceLT, Nat.reduceLeDiff, Int.reduceLE, Int.reduceLT, Int.reduceToNat, Int.reduceBEq, Int.reduceBNe, ↓reduceIte, Int.reduceAdd, Int.reduceSub, Int.reduceGT, Int.reduceGE, h438, g440, h441, g443, g444, h445, g447, h448, h821, g822, g823, g824, h825, g827, g828, h829, g831, h832, g833, h834, g836, g837, h838, h842, h845, g846, g847, g848, g849, g850, h851]
                            repeat with_reducible refine And.intro (by first | kernel_rfl | decide) ?_
                            (try rw [h441] at h1375)
                            (try rw [h445] at h1375)
                            (try rw [h448] at h1375)
                            (try rw [h825] at h1375)
                            (try rw [h829] at h1375)
                            (try rw [h834] at h1375)
                            (try rw [h838] at h1375)
                            (try rw [h851] at h1375)
                            refine cutQ _ ?_ ⟨n, Nat.lt_succ_self n, _, _, h1375, rfl⟩
                            exact Wk_keep [1, 3, 4, 5, 6, 7, 8, 9, 10, 11, 29, 30, 33, 34] (by kernel_rfl)
                          · refine W_sound tab_ok mixed 9 _ _ _ ?_
                            simp -implicitDefEqProofs only [go_sem, Nat.reduceBEq, Nat.reduceAdd, Nat.reduceSub, Nat.reduceMul, Nat.reduceLT, Nat.reduceLeDiff, Int.reduceLE, Int.reduceLT, Int.reduceToNat, Int.reduceBEq, Int.reduceBNe, ↓reduceIte, Int.reduceAdd, Int.reduceSub, Int.reduceGT, Int.reduceGE, h438, g440, h441, g443, g444, h445, g447, h448, h821, g822, g823, g824, h825, g827, g828, h829, g831, h832, g833, h834, g836, g837, h838, h842, h845]
                            repeat with_reducible refine And.intro (by first | kernel_rfl | decide) ?_
                            obtain rfl := Option.some.inj h1375
                            refine cutQ _ ?_ ⟨_, rfl, rfl⟩
                            exact Wk_keep [1, 3, 4, 5, 6, 7, 8, 9, 10, 29, 30, 33, 34] (by kernel_rfl)
                      · rintro _ ⟨x853, rfl, rfl⟩
                        refine W_sound tab_ok mixed 6 _ _ _ ?_
                        simp -implicitDefEqProofs only [go_sem, Nat.reduceBEq, Nat.reduceAdd, Nat.reduceSub, Nat.reduceMul, Nat.reduceLT, Nat.reduceLeDiff, Int.reduceLE, Int.reduceLT, Int.reduceToNat, Int.reduceBEq, Int.reduceBNe, ↓reduceIte, Int.reduceAdd, Int.reduceSub, Int.reduceGT, Int.reduceGE, h438, g440, h441, g443, g444, h445, g447, h448, h821, g822, g823, g824, h825, g827, g828, h829, g831, h832, g833, h834, g836, g837, h838, h842]
                        repeat with_reducible refine And.intro (by first | kernel_rfl | decide) ?_
                        (try rw [h441] at h1376)
                        (try rw [h445] at h1376)
                        (try rw [h448] at h1376)
                        (try rw [h825] at h1376)
                        (try rw [h829] at h1376)
                        (try rw [h834] at h1376)
                        (try rw [h838] at h1376)
                        refine cutQ _ ?_ ⟨n, Nat.lt_succ_self n, _, _, h1376, rfl⟩
                        exact Wk_keep [1, 3, 4, 5, 6, 7, 8, 9, 10, 29, 30, 33, 34] (by kernel_rfl)
                    · refine W_sound tab_ok mixed 9 _ _ _ ?_
                      simp -implicitDefEqProofs only [go_sem, Nat.reduceBEq, Nat.reduceAdd, Nat.reduceSub, Nat.reduceMul, Nat.reduceLT, Nat.reduceLeDiff, Int.reduceLE, Int.reduceLT, Int.reduceToNat, Int.reduceBEq, Int.reduceBNe, ↓reduceIte, Int.reduceAdd, Int.reduceSub, Int.reduceGT, Int.reduceGE, h438, g440, h441, g443, g444, h445, g447, h448, h821, g822, g823, g824, h825, g827, g828, h829, g831, h832, g833, h834, g836, g837, h838, h842]
                      repeat with_reducible refine And.intro (by first | kernel_rfl | decide) ?_
                      obtain rfl := Option.some.inj h1372
                      refine cutQ _ ?_ ⟨_, rfl, rfl⟩
                      exact Wk_keep [1, 3, 4, 5, 6, 7, 9, 29, 30, 33, 34] (by kernel_rfl)
                · rintro _ ⟨x854, rfl, rfl⟩
                  have hh := grd_some h1373; clear h1373; obtain ⟨g855, h1373⟩ := hh
                  have hh := grd_some h1373; clear h1373; obtain ⟨g856, h1373⟩ := hh
                  refine W_sound tab_ok mixed 18 _ _ _ ?_
                  simp -implicitDefEqProofs only [go_sem, Nat.reduceBEq, Nat.reduceAdd, Nat.reduceSub, Nat.reduceMul, Nat.reduceLT, Nat.reduceLeDiff, Int.reduceLE, Int.reduceLT, Int.reduceToNat, Int.reduceBEq, Int.reduceBNe, ↓reduceIte, Int.reduceAdd, Int.reduceSub, Int.reduceGT, Int.reduceGE, h438, g440, h441, g443, g444, h445, g447, h448, h821, g822, g823, g824, h825, g827, g828, h829, g831, h832, g833, h834, g836, g837, h838, g855, g856]
                  repeat with_reducible refine And.intro (by first | kernel_rfl | decide) ?_
                  (try rw [h441] at h1373)
                  (try rw [h445] at h1373)
                  (try rw [h448] at h1373)
                  (try rw [h825] at h1373)
                  (try rw [h829] at h1373)
                  (try rw [h834] at h1373)
                  (try rw [h838] at h1373)
                  refine cutQ _ ?_ ⟨n, Nat.lt_succ_self n, _, _, _, h1373, rfl⟩
                  exact Wk_keep [1, 3, 4, 5, 6, 7, 29, 30, 33, 34] (by kernel_rfl)
              · have hh := grd_some h1369; clear h1369; obtain ⟨g857, h1369⟩ := hh
                have hh := grd_some h1369; clear h1369; obtain ⟨g858, h1369⟩ := hh
                refine W_sound tab_ok mixed 54 _ _ _ ?_
                simp -implicitDefEqProofs only [go_sem, Nat.reduceBEq, Nat.reduceAdd, Nat.reduceSub, Nat.reduceMul, Nat.reduceLT, Nat.reduceLeDiff, Int.reduceLE, Int.reduceLT, Int.reduceToNat, Int.reduceBEq, Int.reduceBNe, ↓reduceIte, Int.reduceAdd, Int.reduceSub, Int.reduceGT, Int.reduceGE, h438, g440, h441, g443, g444, h445, g447, h448, h821, g822, g823, g824, h825, g827, g828, h829, g831, h832, g857, g858]
                repeat with_reducible refine And.intro (by first | kernel_rfl | decide) ?_
                (try rw [h441] at h1369)
                (try rw [h445] at h1369)
                (try rw [h448] at h1369)
                (try rw [h825] at h1369)
                (try rw [h829] at h1369)
                refine cutQ _ ?_ ⟨n, Nat.lt_succ_self n, _, _, _, h1369, rfl⟩
                exact Wk_keep [1, 3, 4, 5, 6, 7, 29, 30, 33, 34] (by kernel_rfl)
            · refine W_sound tab_ok mixed 7 _ _ _ ?_
              simp -implicitDefEqProofs only [go_sem, Nat.reduceBEq, Nat.reduceAdd, Nat.reduceSub, Nat.reduceMul, Nat.reduceLT, Nat.reduceLeDiff, Int.reduceLE, Int.reduceLT, Int.reduceToNat, Int.reduceBEq, Int.reduceBNe, ↓reduceIte, Int.reduceAdd, Int.reduceSub, Int.reduceGT, Int.reduceGE, h438, g440, h441, g443, g444, h445, g447, h448, h821]
              repeat with_reducible refine And.intro (by first | kernel_rfl | decide) ?_
              obtain rfl := Option.some.inj h1369
              refine cutQ _ ?_ ⟨_, _, rfl, rfl⟩
              exact Wk_keep [1, 3, 4, 5, 6, 29, 30] (by kernel_rfl)
        · rintro _ ⟨n859, c860, rfl, rfl⟩
          (try dsimp only at h1370)
          refine W_sound tab_ok mixed 5 _ _ _ ?_
          simp -implicitDefEqProofs only [go_sem, Nat.reduceBEq, Nat.reduceAdd, Nat.reduceSub, Nat.reduceMul, Nat.reduceLT, Nat.reduceLeDiff, Int.reduceLE, Int.reduceLT, Int.reduceToNat, Int.reduceBEq, Int.reduceBNe, ↓reduceIte, Int.reduceAdd, Int.reduceSub, Int.reduceGT, Int.reduceGE, h438, g440, h441, g443, g444, h445, g447, h448]
          repeat with_reducible refine And.intro (by first | kernel_rfl | decide) ?_
          refine again (Wk_keep (st' := ⟨[], [(0, .dead), (1, .ptr 0 0), (2, .dead), (3, .ptr 1 0), (4, .v (.int .i64 2)), (5, .v (.int .i64 (IntKind.i64.wrap (1 + (Int.tmod (IntKind.i64.wrap x446) 4))))), (6, .sl false 2 0 2 1), (7, .dead), (8, .dead), (9, .dead), (10, .dead), (11, .dead), (12, .dead), (14, .dead), (15, .dead), (16, .dead), (29, .v (.int .i64 2)), (30, .v (.int .i64 2)), (31, .dead), (33, .dead), (34, .dead), (35, .dead), (48, .dead), (65, .dead), (70, .dead), (105, .dead), (106, .dead), (107, .dead), (108, .dead), (134, .dead)], [(0, .p c439), (1, .p [.nl, .nl]), (2, .r [.sl false 3 0 n746 1, .sl false 4 0 n859 1]), (3, .p c747), (4, .p c860)], 5, []⟩) [1, 3, 4, 5, 6, 29, 30] (by kernel_rfl)) ?_
          have hh := grd_some h1370; clear h1370; obtain ⟨⟨g861, g862, g863⟩, h1370⟩ := hh
          have hh := grd_some h1370; clear h1370; obtain ⟨g864, h1370⟩ := hh
          have hh := getI_some h1370; clear h1370; obtain ⟨x866, h865, h1370⟩ := hh
          have hh := grd_some h1370; clear h1370; obtain ⟨g867, h1370⟩ := hh
          have hh := grd_some h1370; clear h1370; obtain ⟨⟨g868, g869, g870⟩, h1370⟩ := hh
          refine W_sound tab_ok mixed 29 _ _ _ ?_
          simp -implicitDefEqProofs only [go_sem, Nat.reduceBEq, Nat.reduceAdd, Nat.reduceSub, Nat.reduceMul, Nat.reduceLT, Nat.reduceLeDiff, Int.reduceLE, Int.reduceLT, Int.reduceToNat, Int.reduceBEq, Int.reduceBNe, ↓reduceIte, Int.reduceAdd, Int.reduceSub, Int.reduceGT, Int.reduceGE, h438, g440, h441, g443, g444, h445, g447, h448, g861, g862, g863, g864, h865, g867, g868, g869, g870]
          repeat with_reducible refine And.intro (by first | kernel_rfl | decide) ?_
          refine Wp_wkK Wk_norm rfl ?_
          simp -implicitDefEqProofs only [go_sem, Nat.reduceBEq, Nat.reduceAdd, Nat.reduceSub, Nat.reduceMul, Nat.reduceLT, Nat.reduceLeDiff, Int.reduceLE, Int.reduceLT, Int.reduceToNat, Int.reduceBEq, Int.reduceBNe, ↓reduceIte, normE, Int.reduceAdd, Int.reduceSub, Int.reduceGT, Int.reduceGE, h438, g440, h441, g443, g444, h445, g447, h448, g861, g862, g863, g864, h865, g867, g868, g869, g870]
          (try simp -implicitDefEqProofs only [go_sem, Nat.reduceBEq, Nat.reduceAdd, Nat.reduceSub, Nat.reduceMul, Nat.reduceLT, Nat.reduceLeDiff, Int.reduceLE, Int.reduceLT, Int.reduceToNat, Int.reduceBEq, Int.reduceBNe, ↓reduceIte, Int.reduceAdd, Int.reduceSub, Int.reduceGT, Int.reduceGE, h438, g440, h441, g443, g444, h445, g447, h448, g861, g862, g863, g864, h865, g867, g868, g869, g870])
          have hh := bnd'_some h1370; clear h1370; obtain ⟨o1377, h1378, h1379⟩ := hh
          refine Wp_cut (fun s => ∃ c929, ∃ c930, (c929, c930) = o1377 ∧ s = ⟨[], [(0, .dead), (1, .dead), (2, .dead), (3, .ptr 0 0), (4, .dead), (5, .dead), (6, .sl false 1 0 2 1), (7, .dead), (8, .dead), (9, .dead), (10, .dead), (11, .dead), (12, .ptr 2 0), (14, .dead), (15, .dead), (16, .dead), (29, .dead), (30, .dead), (31, .dead), (33, .dead), (34, .dead), (35, .dead), (48, .dead), (65, .dead), (70, .dead), (105, .dead), (106, .dead), (107, .dead), (108, .dead), (134, .dead)], [(0, .p [.nl, .nl]), (1, .r [.sl false 3 0 n746 1, .sl false 4 0 n859 1]), (2, .r [.sl false 5 0 2 1, .sl false 6 0 (Int.toNat (IntKind.i64.wrap (1 + (Int.tmod (IntKind.i64.wrap x446) 4)))) 1]), (3, .p c747), (4, .p c860), (5, .p c929), (6, .p c930)], 7, []⟩) ?_ ?_
          · refine Wp_block ?_
            refine Wp_loopG (fun n s => ∃ x899, ∃ c900, ∃ c901, m44_L16 N c439 x446 n746 c747 n859 c860 x866 n x899 c900 c901 = some o1377 ∧ s = ⟨[], [(0, .dead), (1, .dead), (2, .dead), (3, .ptr 0 0), (4, .v (.int .i64 2)), (5, .v (.int .i64 (IntKind.i64.wrap (1 + (Int.tmod (IntKind.i64.wrap x446) 4))))), (6, .sl false 1 0 2 1), (7, .dead), (8, .dead), (9, .dead), (10, .dead), (11, .dead), (12, .ptr 2 0), (14, .dead), (15, .dead), (16, .dead), (29, .dead), (30, .dead), (31, .dead), (33, .dead), (34, .dead), (35, .dead), (48, .dead), (65, .dead), (70, .dead), (105, .sl false 3 22 (Int.toNat (Int.tmod (IntKind.i64.wrap x866) 8)) 2), (106, .v (.int .i64 (((Int.toNat (Int.tmod (IntKind.i64.wrap x866) 8)) : Nat) : Int))), (107, .v (.int .i64 x899)), (108, .dead), (134, .dead)], [(0, .p [.nl, .nl]), (1, .r [.sl false 4 0 n746 1, .sl false 5 0 n859 1]), (2, .r [.sl false 6 0 2 1, .sl false 7 0 (Int.toNat (IntKind.i64.wrap (1 + (Int.tmod (IntKind.i64.wrap x446) 4)))) 1]), (3, .p c439), (4, .p c747), (5, .p c860), (6, .p c900), (7, .p c901)], 8, []⟩) N _ (Wk_keep (st' := ⟨[], [(0, .dead), (1, .dead), (2, .dead), (3, .ptr 0 0), (4, .v (.int .i64 2)), (5, .v (.int .i64 (IntKind.i64.wrap (1 + (Int.tmod (IntKind.i64.wrap x446) 4))))), (6, .sl false 1 0 2 1), (7, .dead), (8, .dead), (9, .dead), (10, .dead), (11, .dead), (12, .ptr 2 0), (14, .dead), (15, .dead), (16, .dead), (29, .dead), (30, .dead), (31, .dead), (33, .dead), (34, .dead), (35, .dead), (48, .dead), (65, .dead), (70, .dead), (105, .sl false 3 22 (Int.toNat (Int.tmod (IntKind.i64.wrap x866) 8)) 2), (106, .v (.int .i64 (((Int.toNat (Int.tmod (IntKind.i64.wrap x866) 8)) : Nat) : Int))), (107, .v (.int .i64 0)), (108, .dead), (134, .dead)], [(0, .p [.nl, .nl]), (1, .r [.sl false 4 0 n746 1, .sl false 5 0 n859 1]), (2, .r [.sl false 6 0 2 1, .sl false 7 0 (Int.toNat (IntKind.i64.wrap (1 + (Int.tmod (IntKind.i64.wrap x446) 4)))) 1]), (3, .p c439), (4, .p c747), (5, .p c860), (6, .p [(.int .i64 0), (.int .i64 0)]), (7, .p (List.replicate (Int.toNat (IntKind.i64.wrap (1 + (Int.tmod (IntKind.i64.wrap x446) 4)))) (.int .i64 0)))], 8, []⟩) [3, 4, 5, 6, 12, 105, 106, 107] (by kernel_rfl)) ⟨_, _, _, h1378, rfl⟩ ?_
            clear h1378
            rintro n _ ⟨x899, c900, c901, h1378, rfl⟩
            cases n with
            | zero => cases h1378
            | succ n =>
              rw [m44_L16] at h1378
              have hh := brn_some h1378; clear h1378; rcases hh with ⟨h902, h1378⟩ | ⟨h902, h1378⟩
              · have hh := grd_some h1378; clear h1378; obtain ⟨⟨g903, g904⟩, h1378⟩ := hh
                have hh := grd_some h1378; clear h1378; obtain ⟨g905, h1378⟩ := hh
                have hh := getA2_some h1378; clear h1378; obtain ⟨p907, p908, h906, h1378⟩ := hh
                injection h906 with h906
                have hh := getI_some h1378; clear h1378; obtain ⟨x910, h909, h1378⟩ := hh
                have hh := grd_some h1378; clear h1378; obtain ⟨g911, h1378⟩ := hh
                have hh := getI_some h1378; clear h1378; obtain ⟨x913, h912, h1378⟩ := hh
                have hh := grd_some h1378; clear h1378; obtain ⟨g914, h1378⟩ := hh
                have hh := grd_some h1378; clear h1378; obtain ⟨⟨g915, g916⟩, h1378⟩ := hh
                have hh := grd_some h1378; clear h1378; obtain ⟨g917, h1378⟩ := hh
                have hh := getI_some h1378; clear h1378; obtain ⟨x919, h918, h1378⟩ := hh
                have hh := brn_some h1378; clear h1378; rcases hh with ⟨h920, h1378⟩ | ⟨h920, h1378⟩
                · have hh := grd_some h1378; clear h1378; obtain ⟨⟨g921, g922⟩, h1378⟩ := hh
                  have hh := grd_some h1378; clear h1378; obtain ⟨g923, h1378⟩ := hh
                  have hh := getI_some h1378; clear h1378; obtain ⟨x925, h924, h1378⟩ := hh
                  have hh := brn_some h1378; clear h1378; rcases hh with ⟨h926, h1378⟩ | ⟨h926, h1378⟩
                  · have hh := grd_some h1378; clear h1378; obtain ⟨g927, h1378⟩ := hh
                    have hh := grd_some h1378; clear h1378; obtain ⟨g928, h1378⟩ := hh
                    refine W_sound tab_ok mixed 75 _ _ _ ?_
                    simp -implicitDefEqProofs only [go_sem, Nat.reduceBEq, Nat.reduceAdd, Nat.reduceSub, Nat.reduceMul, Nat.reduceLT, Nat.reduceLeDiff, Int.reduceLE, Int.reduceLT, Int.reduceToNat, Int.reduceBEq, Int.reduceBNe, ↓reduceIte, Int.reduceAdd, Int.reduceSub, Int.reduceGT, Int.reduceGE, h438, g440, h441, g443, g444, h445, g447, h448, g861, g862, g863, g864, h865, g867, g868, g869, g870, h902, g903, g904, g905, h906, h909, g911, h912, g914, g915, g916, g917, h918, h920, g921, g922, g923, h924, h926, g927, g928]
                    repeat with_reducible refine And.intro (by first | kernel_rfl | decide) ?_
                    (try rw [h441] at h1378)
                    (try rw [h445] at h1378)
                    (try rw [h448] at h1378)
                    (try rw [h865] at h1378)
                    (try rw [h918] at h1378)
                    (try rw [h924] at h1378)
                    refine cutQ _ ?_ ⟨n, Nat.lt_succ_self n, _, _, _, h1378, rfl⟩
                    exact Wk_keep [3, 4, 5, 6, 12, 105, 106, 107] (by kernel_rfl)
                  · refine W_sound tab_ok mixed 55 _ _ _ ?_
                    simp -implicitDefEqProofs only [go_sem, Nat.reduceBEq, Nat.reduceAdd, Nat.reduceSub, Nat.reduceMul, Nat.reduceLT, Nat.reduceLeDiff, Int.reduceLE, Int.reduceLT, Int.reduceToNat, Int.reduceBEq, Int.reduceBNe, ↓reduceIte, Int.reduceAdd, Int.reduceSub, Int.reduceGT, Int.reduceGE, h438, g440, h441, g443, g444, h445, g447, h448, g861, g862, g863, g864, h865, g867, g868, g869, g870, h902, g903, g904, g905, h906, h909, g911, h912, g914, g915, g916, g917, h918, h920, g921, g922, g923, h924, h926]
                    repeat with_reducible refine And.intro (by first | kernel_rfl | decide) ?_
                    (try rw [h441] at h1378)
                    (try rw [h445] at h1378)
                    (try rw [h448] at h1378)
                    (try rw [h865] at h1378)
                    (try rw [h918] at h1378)
                    (try rw [h924] at h1378)
                    refine cutQ _ ?_ ⟨n, Nat.lt_succ_self n, _, _, _, h1378, rfl⟩
                    exact Wk_keep [3, 4, 5, 6, 12, 105, 106, 107] (by kernel_rfl)
                · refine W_sound tab_ok mixed 55 _ _ _ ?_
                  simp -implicitDefEqProofs only [go_sem, Nat.reduceBEq, Nat.reduceAdd, Nat.reduceSub, Nat.reduceMul, Nat.reduceLT, Nat.reduceLeDiff, Int.reduceLE, Int.reduceLT, Int.reduceToNat, Int.reduceBEq, Int.reduceBNe, ↓reduceIte, Int.reduceAdd, Int.reduceSub, Int.reduceGT, Int.reduceGE, h438, g440, h441, g443, g444, h445, g447, h448, g861, g862, g863, g864, h865, g867, g868, g869, g870, h902, g903, g904, g905, h906, h909, g911, h912, g914, g915, g916, g917, h918, h920]
                  repeat with_reducible refine And.intro (by first | kernel_rfl | decide) ?_
                  (try rw [h441] at h1378)
                  (try rw [h445] at h1378)
                  (try rw [h448] at h1378)
                  (try rw [h865] at h1378)
                  (try rw [h918] at h1378)
                  refine cutQ _ ?_ ⟨n, Nat.lt_succ_self n, _, _, _, h1378, rfl⟩
                  exact Wk_keep [3, 4, 5, 6, 12, 105, 106, 107] (by kernel_rfl)
              · refine W_sound tab_ok mixed 7 _ _ _ ?_
                simp -implicitDefEqProofs only [go_sem, Nat.reduceBEq, Nat.reduceAdd, Nat.reduceSub, Nat.reduceMul, Nat.reduceLT, Nat.reduceLeDiff, Int.reduceLE, Int.reduceLT, Int.reduceToNat, Int.reduceBEq, Int.reduceBNe, ↓reduceIte, Int.reduceAdd, Int.reduceSub, Int.reduceGT, Int.reduceGE, h438, g440, h441, g443, g444, h445, g447, h448, g861, g862, g863, g864, h865, g867, g868, g869, g870, h902]
                repeat with_reducible refine And.intro (by first | kernel_rfl | decide) ?_
                obtain rfl := Option.some.inj h1378
                refine cutQ _ ?_ ⟨_, _, rfl, rfl⟩
                exact Wk_keep [3, 6, 12] (by kernel_rfl)
          · rintro _ ⟨c929, c930, rfl, rfl⟩
            (try dsimp only at h1379)
            refine W_sound tab_ok mixed 9 _ _ _ ?_
            simp -implicitDefEqProofs only [go_sem, Nat.reduceBEq, Nat.reduceAdd, Nat.reduceSub, Nat.reduceMul, Nat.reduceLT, Nat.reduceLeDiff, Int.reduceLE, Int.reduceLT, Int.reduceToNat, Int.reduceBEq, Int.reduceBNe, ↓reduceIte, Int.reduceAdd, Int.reduceSub, Int.reduceGT, Int.reduceGE, h438, g440, h441, g443, g444, h445, g447, h448, g861, g862, g863, g864, h865, g867, g868, g869, g870]
            repeat with_reducible refine And.intro (by first | kernel_rfl | decide) ?_
            have hh := grd_some h1379; clear h1379; obtain ⟨g931, h1379⟩ := hh
            refine FinQ_wk (Wk_freeze 3 c747 (by rfl) (by decide) (by decide)) ?_
            simp -implicitDefEqProofs only [go_sem, Nat.reduceBEq, Nat.reduceAdd, Nat.reduceSub, Nat.reduceMul, Nat.reduceLT, Nat.reduceLeDiff, Int.reduceLE, Int.reduceLT, Int.reduceToNat, Int.reduceBEq, Int.reduceBNe, ↓reduceIte, Int.reduceAdd, Int.reduceSub, Int.reduceGT, Int.reduceGE, h438, g440, h441, g443, g444, h445, g447, h448, g861, g862, g863, g864, h865, g867, g868, g869, g870, g931]
            have hh := grd_some h1379; clear h1379; obtain ⟨g932, h1379⟩ := hh
            refine FinQ_wk (Wk_freeze 4 c860 (by rfl) (by decide) (by decide)) ?_
            simp -implicitDefEqProofs only [go_sem, Nat.reduceBEq, Nat.reduceAdd, Nat.reduceSub, Nat.reduceMul, Nat.reduceLT, Nat.reduceLeDiff, Int.reduceLE, Int.reduceLT, Int.reduceToNat, Int.reduceBEq, Int.reduceBNe, ↓reduceIte, Int.reduceAdd, Int.reduceSub, Int.reduceGT, Int.reduceGE, h438, g440, h441, g443, g444, h445, g447, h448, g861, g862, g863, g864, h865, g867, g868, g869, g870, g931, g932]
            refine FinQ_wk (Wk_freeze 1 [(.lst false n746 c747), (.lst false n859 c860)] (by rfl) (by decide) (by decide)) ?_
            simp -implicitDefEqProofs only [go_sem, Nat.reduceBEq, Nat.reduceAdd, Nat.reduceSub, Nat.reduceMul, Nat.reduceLT, Nat.reduceLeDiff, Int.reduceLE, Int.reduceLT, Int.reduceToNat, Int.reduceBEq, Int.reduceBNe, ↓reduceIte, Int.reduceAdd, Int.reduceSub, Int.reduceGT, Int.reduceGE, h438, g440, h441, g443, g444, h445, g447, h448, g861, g862, g863, g864, h865, g867, g868, g869, g870, g931, g932]
            have hh := grd_some h1379; clear h1379; obtain ⟨g933, h1379⟩ := hh
            refine FinQ_wk (Wk_freeze 5 c929 (by rfl) (by decide) (by decide)) ?_
            simp -implicitDefEqProofs only [go_sem, Nat.reduceBEq, Nat.reduceAdd, Nat.reduceSub, Nat.reduceMul, Nat.reduceLT, Nat.reduceLeDiff, Int.reduceLE, Int.reduceLT, Int.reduceToNat, Int.reduceBEq, Int.reduceBNe, ↓reduceIte, Int.reduceAdd, Int.reduceSub, Int.reduceGT, Int.reduceGE, h438, g440, h441, g443, g444, h445, g447, h448, g861, g862, g863, g864, h865, g867, g868, g869, g870, g931, g932, g933]
            have hh := grd_some h1379; clear h1379; obtain ⟨g934, h1379⟩ := hh
            refine FinQ_wk (Wk_freeze 6 c930 (by rfl) (by decide) (by decide)) ?_
            simp -implicitDefEqProofs only [go_sem, Nat.reduceBEq, Nat.reduceAdd, Nat.reduceSub, Nat.reduceMul, Nat.reduceLT, Nat.reduceLeDiff, Int.reduceLE, Int.reduceLT, Int.reduceToNat, Int.reduceBEq, Int.reduceBNe, ↓reduceIte, Int.reduceAdd, Int.reduceSub, Int.reduceGT, Int.reduceGE, h438, g440, h441, g443, g444, h445, g447, h448, g861, g862, g863, g864, h865, g867, g868, g869, g870, g931, g932, g933, g934]
            refine FinQ_wk (Wk_freeze 0 [(.lst false 2 c929), (.lst false (Int.toNat (IntKind.i64.wrap (1 + (Int.tmod (IntKind.i64.wrap x446) 4)))) c930)] (by rfl) (by decide) (by decide)) ?_
            simp -implicitDefEqProofs only [go_sem, Nat.reduceBEq, Nat.reduceAdd, Nat.reduceSub, Nat.reduceMul, Nat.reduceLT, Nat.reduceLeDiff, Int.reduceLE, Int.reduceLT, Int.reduceToNat, Int.reduceBEq, Int.reduceBNe, ↓reduceIte, Int.reduceAdd, Int.reduceSub, Int.reduceGT, Int.reduceGE, h438, g440, h441, g443, g444, h445, g447, h448, g861, g862, g863, g864, h865, g867, g868, g869, g870, g931, g932, g933, g934]
            obtain rfl := Option.some.inj h1379
            exact finC [(2, .v (.lst false 2 [(.lst false n746 c747), (.lst false n859 c860)])), (3, .v (.ipt [(.lst false 2 c929), (.lst false (Int.toNat (IntKind.i64.wrap (1 + (Int.tmod (IntKind.i64.wrap x446) 4)))) c930)]))] [(2, .v (.lst false 2 [(.lst false n746 c747), (.lst false n859 c860)])), (3, .v (.ipt [(.lst false 2 c929), (.lst false (Int.toNat (IntKind.i64.wrap (1 + (Int.tmod (IntKind.i64.wrap x446) 4)))) c930)]))] (by simp [leE, lk_cons]) (.cons _ _ _ _ _ (.v _ _ (.refl _)) (.cons _ _ _ _ _ (.v _ _ (.refl _)) .nil)) (by rfl) (by simp [leE, lk_cons]) (by decide) (by decide) rfl (by simp only [go_sem, Nat.reduceBEq, Nat.reduceAdd, Nat.reduceSub, Nat.reduceMul, Nat.reduceLT, Nat.reduceLeDiff, Int.reduceLE, Int.reduceLT, Int.reduceToNat, Int.reduceBEq, Int.reduceBNe, ↓reduceIte, resQ_tmp, resQ_cell, resQ_nil, retD_one, retD_two, retD_three, retD_none]; (try simp [R.val, retD_one, retD_two, retD_three, retD_none]); try assumption)
    · skip
      have hh := casI_some h; clear h; rcases hh with ⟨h448, h⟩ | ⟨_, h⟩
      · refine W_sound tab_ok mixed 33 _ _ _ ?_
        simp -implicitDefEqProofs only [go_sem, Nat.reduceBEq, Nat.reduceAdd, Nat.reduceSub, Nat.reduceMul, Nat.reduceLT, Nat.reduceLeDiff, Int.reduceLE, Int.reduceLT, Int.reduceToNat, Int.reduceBEq, Int.reduceBNe, ↓reduceIte, Int.reduceAdd, Int.reduceSub, Int.reduceGT, Int.reduceGE, h438, g440, h441, g443, g444, h445, g447, h448]
        repeat with_reducible refine And.intro (by first | kernel_rfl | decide) ?_
        refine Wp_block ?_
        refine Wp_loopL (WpL_step ?_)
        refine W_sound tab_ok mixed 19 _ _ _ ?_
        simp -implicitDefEqProofs only [go_sem, Nat.reduceBEq, Nat.reduceAdd, Nat.reduceSub, Nat.reduceMul, Nat.reduceLT, Nat.reduceLeDiff, Int.reduceLE, Int.reduceLT, Int.reduceToNat, Int.reduceBEq, Int.reduceBNe, ↓reduceIte, Int.reduceAdd, Int.reduceSub, Int.reduceGT, Int.reduceGE, h438, g440, h441, g443, g444, h445, g447, h448]
        repeat with_reducible refine And.intro (by first | kernel_rfl | decide) ?_
        refine Wp_weaken (Wk_ownC 32 0 1 rfl rfl (by decide) (by decide)) ?_
        simp -implicitDefEqProofs only [go_sem, Nat.reduceBEq, Nat.reduceAdd, Nat.reduceSub, Nat.reduceMul, Nat.reduceLT, Nat.reduceLeDiff, Int.reduceLE, Int.reduceLT, Int.reduceToNat, Int.reduceBEq, Int.reduceBNe, ↓reduceIte, setO, Int.reduceAdd, Int.reduceSub, Int.reduceGT, Int.reduceGE, h438, g440, h441, g443, g444, h445, g447, h448]
        have hh := bnd'_some h; clear h; obtain ⟨o1380, h1381, h1382⟩ := hh
        refine Wp_cut (fun s => ∃ n1046, ∃ c1047, (n1046, c1047) = o1380 ∧ s = ⟨[], [(0, .dead), (1, .ptr 0 0), (2, .dead), (3, .ptr 1 0), (4, .v (.int .i64 3)), (5, .v (.int .i64 (IntKind.i64.wrap (1 + (Int.tmod (IntKind.i64.wrap x446) 4))))), (6, .sl false 2 0 3 1), (7, .dead), (8, .dead), (9, .dead), (10, .dead), (11, .dead), (12, .dead), (14, .dead), (15, .dead), (16, .dead), (29, .v (.int .i64 3)), (30, .v (.int .i64 0)), (31, .dead), (33, .dead), (34, .dead), (35, .dead), (48, .dead), (65, .dead), (70, .dead), (105, .dead), (106, .dead), (107, .dead), (108, .dead), (134, .dead)], [(0, .p c439), (1, .p [.nl, .nl]), (2, .r [.sl false 3 0 n1046 1, .v .nl, .v .nl]), (3, .p c1047)], 4, []⟩) ?_ ?_
        · refine Wp_block ?_
          refine Wp_loopG (fun n s => ∃ x1005, ∃ n1006, ∃ c1007, m44_L0 N c439 x446 n x1005 n1006 c1007 = some o1380 ∧ s = ⟨[], [(0, .dead), (1, .ptr 0 0), (2, .dead), (3, .ptr 1 0), (4, .v (.int .i64 3)), (5, .v (.int .i64 (IntKind.i64.wrap (1 + (Int.tmod (IntKind.i64.wrap x446) 4))))), (6, .sl false 2 0 3 1), (7, .v (.int .i64 0)), (8, .dead), (9, .dead), (10, .dead), (11, .dead), (12, .dead), (14, .dead), (15, .dead), (16, .dead), (29, .v (.int .i64 3)), (30, .v (.int .i64 0)), (31, .dead), (33, .v (.int .i64 (IntKind.i64.wrap (1 + (Int.tmod (IntKind.i64.wrap x446) 4))))), (34, .v (.int .i64 x1005)), (35, .dead), (48, .dead), (65, .dead), (70, .dead), (105, .dead), (106, .dead), (107, .dead), (108, .dead), (134, .dead)], [(0, .p c439), (1, .p [.nl, .nl]), (2, .r [.sl false 3 0 n1006 1, .v .nl, .v .nl]), (3, .p c1007)], 4, []⟩) N _ (Wk_keep (st' := ⟨[], [(0, .dead), (1, .ptr 0 0), (2, .dead), (3, .ptr 1 0), (4, .v (.int .i64 3)), (5, .v (.int .i64 (IntKind.i64.wrap (1 + (Int.tmod (IntKind.i64.wrap x446) 4))))), (6, .sl false 2 0 3 1), (7, .v (.int .i64 0)), (8, .dead), (9, .dead), (10, .dead), (11, .dead), (12, .dead), (14, .dead), (15, .dead), (16, .dead), (29, .v (.int .i64 3)), (30, .v (.int .i64 0)), (31, .dead), (33, .v (.int .i64 (IntKind.i64.wrap (1 + (Int.tmod (IntKind.i64.wrap x446) 4))))), (34, .v (.int .i64 0)), (35, .dead), (48, .dead), (65, .dead), (70, .dead), (105, .dead), (106, .dead), (107, .dead), (108, .dead), (134, .dead)], [(0, .p c439), (1, .p [.nl, .nl]), (2, .r [.sl false 3 0 0 1, .v .nl, .v .nl]), (3, .p [])], 4, []⟩) [1, 3, 4, 5, 6, 7, 29, 30, 33, 34] (by kernel_rfl)) ⟨_, _, _, h1381, rfl⟩ ?_
          clear h1381
          rintro n _ ⟨x1005, n1006, c1007, h1381, rfl⟩
          cases n with
          | zero => cases h1381
          | succ n =>
            rw [m44_L0] at h1381
            have hh := brn_some h1381; clear h1381; rcases hh with ⟨h1008, h1381⟩ | ⟨h1008, h1381⟩
            · have hh := grd_some h1381; clear h1381; obtain ⟨⟨g1009, g1010⟩, h1381⟩ := hh
              have hh := grd_some h1381; clear h1381; obtain ⟨g1011, h1381⟩ := hh
              have hh := getI_some h1381; clear h1381; obtain ⟨x1013, h1012, h1381⟩ := hh
              have hh := grd_some h1381; clear h1381; obtain ⟨g1014, h1381⟩ := hh
              have hh := grd_some h1381; clear h1381; obtain ⟨g1015, h1381⟩ := hh
              have hh := getI_some h1381; clear h1381; obtain ⟨x1017, h1016, h1381⟩ := hh
              have hh := grd_some h1381; clear h1381; obtain ⟨g1018, h1381⟩ := hh
              have hh := brn_some h1381; clear h1381; rcases hh with ⟨h1019, h1381⟩ | ⟨h1019, h1381⟩
              · have hh := grd_some h1381; clear h1381; obtain ⟨g1020, h1381⟩ := hh
                have hh := getI_some h1381; clear h1381; obtain ⟨x1022, h1021, h1381⟩ := hh
                have hh := grd_some h1381; clear h1381; obtain ⟨g1023, h1381⟩ := hh
                have hh := grd_some h1381; clear h1381; obtain ⟨g1024, h1381⟩ := hh
                have hh := getI_some h1381; clear h1381; obtain ⟨x1026, h1025, h1381⟩ := hh
                refine W_sound tab_ok mixed 57 _ _ _ ?_
                simp -implicitDefEqProofs only [go_sem, Nat.reduceBEq, Nat.reduceAdd, Nat.reduceSub, Nat.reduceMul, Nat.reduceLT, Nat.reduceLeDiff, Int.reduceLE, Int.reduceLT, Int.reduceToNat, Int.reduceBEq, Int.reduceBNe, ↓reduceIte, Int.reduceAdd, Int.reduceSub, Int.reduceGT, Int.reduceGE, h438, g440, h441, g443, g444, h445, g447, h448, h1008, g1009, g1010, g1011, h1012, g1014, g1015, h1016, g1018, h1019, g1020, h1021, g1023, g1024, h1025]
                repeat with_reducible refine And.intro (by first | kernel_rfl | decide) ?_
                have hh := bnd'_some h1381; clear h1381; obtain ⟨o1383, h1384, h1385⟩ := hh
                refine Wp_cut (fun s => ∃ x1041, x1041 = o1383 ∧ s = ⟨[], [(0, .dead), (1, .ptr 0 0), (2, .dead), (3, .ptr 1 0), (4, .v (.int .i64 3)), (5, .v (.int .i64 (IntKind.i64.wrap (1 + (Int.tmod (IntKind.i64.wrap x446) 4))))), (6, .sl false 2 0 3 1), (7, .v (.int .i64 0)), (8, .dead), (9, .v (.int .i64 x1041)), (10, .dead), (11, .dead), (12, .dead), (14, .dead), (15, .dead), (16, .dead), (29, .v (.int .i64 3)), (30, .v (.int .i64 0)), (31, .dead), (33, .v (.int .i64 (IntKind.i64.wrap (1 + (Int.tmod (IntKind.i64.wrap x446) 4))))), (34, .v (.int .i64 x1005)), (35, .dead), (48, .dead), (65, .dead), (70, .dead), (105, .dead), (106, .dead), (107, .dead), (108, .dead), (134, .dead)], [(0, .p c439), (1, .p [.nl, .nl]), (2, .r [.sl false 3 0 n1006 1, .v .nl, .v .nl]), (3, .p c1007)], 4, []⟩) ?_ ?_
                · refine Wp_block ?_
                  refine Wp_loopG (fun n s => ∃ x1027, ∃ x1028, m44_L1 N c439 x446 x1005 n1006 c1007 n x1027 x1028 = some o1383 ∧ s = ⟨[], [(0, .dead), (1, .ptr 0 0), (2, .dead), (3, .ptr 1 0), (4, .v (.int .i64 3)), (5, .v (.int .i64 (IntKind.i64.wrap (1 + (Int.tmod (IntKind.i64.wrap x446) 4))))), (6, .sl false 2 0 3 1), (7, .v (.int .i64 0)), (8, .v (.int .i64 x1005)), (9, .v (.int .i64 x1027)), (10, .v (.int .i64 x1028)), (11, .dead), (12, .dead), (14, .dead), (15, .dead), (16, .dead), (29, .v (.int .i64 3)), (30, .v (.int .i64 0)), (31, .dead), (33, .v (.int .i64 (IntKind.i64.wrap (1 + (Int.tmod (IntKind.i64.wrap x446) 4))))), (34, .v (.int .i64 x1005)), (35, .dead), (48, .dead), (65, .dead), (70, .dead), (105, .dead), (106, .dead), (107, .dead), (108, .dead), (134, .dead)], [(0, .p c439), (1, .p [.nl, .nl]), (2, .r [.sl false 3 0 n1006 1, .v .nl, .v .nl]), (3, .p c1007)], 4, []⟩) N _ (Wk_keep (st' := ⟨[], [(0, .dead), (1, .ptr 0 0), (2, .dead), (3, .ptr 1 0), (4, .v (.int .i64 3)), (5, .v (.int .i64 (IntKind.i64.wrap (1 + (Int.tmod (IntKind.i64.wrap x446) 4))))), (6, .sl false 2 0 3 1), (7, .v (.int .i64 0)), (8, .v (.int .i64 x1005)), (9, .v (.int .i64 (IntKind.i64.wrap ((IntKind.i64.wrap (12 + (Int.tmod (IntKind.i64.wrap x1022) 5))) + (Int.tmod (IntKind.i64.wrap x1026) 5))))), (10, .v (.int .i64 1)), (11, .dead), (12, .dead), (14, .dead), (15, .dead), (16, .dead), (29, .v (.int .i64 3)), (30, .v (.int .i64 0)), (31, .dead), (33, .v (.int .i64 (IntKind.i64.wrap (1 + (Int.tmod (IntKind.i64.wrap x446) 4))))), (34, .v (.int .i64 x1005)), (35, .dead), (48, .dead), (65, .dead), (70, .dead), (105, .dead), (106, .dead), (107, .dead), (108, .dead), (134, .dead)], [(0, .p c439), (1, .p [.nl, .nl]), (2, .r [.sl false 3 0 n1006 1, .v .nl, .v .nl]), (3, .p c1007)], 4, []⟩) [1, 3, 4, 5, 6, 7, 8, 9, 10, 29, 30, 33, 34] (by kernel_rfl)) ⟨_, _, h1384, rfl⟩ ?_
                  clear h1384
                  rintro n _ ⟨x1027, x1028, h1384, rfl⟩
                  cases n with
                  | zero => cases h1384
                  | succ n =>
                    rw [m44_L1] at h1384
                    have hh := brn_some h1384; clear h1384; rcases hh with ⟨h1029, h1384⟩ | ⟨h1029, h1384⟩
                    · refine W_sound tab_ok mixed 15 _ _ _ ?_
                      simp -implicitDefEqProofs only [go_sem, Nat.reduceBEq, Nat.reduceAdd, Nat.reduceSub, Nat.reduceMul, Nat.reduceLT, Nat.reduceLeDiff, Int.reduceLE, Int.reduceLT, Int.reduceToNat, Int.reduceBEq, Int.reduceBNe, ↓reduceIte, Int.reduceAdd, Int.reduceSub, Int.reduceGT, Int.reduceGE, h438, g440, h441, g443, g444, h445, g447, h448, h1008, g1009, g1010, g1011, h1012, g1014, g1015, h1016, g1018, h1019, g1020, h1021, g1023, g1024, h1025, h1029]
                      repeat with_reducible refine And.intro (by first | kernel_rfl | decide) ?_
                      have hh := bnd'_some h1384; clear h1384; obtain ⟨o1386, h1387, h1388⟩ := hh
                      refine Wp_cut (fun s => ∃ x1040, x1040 = o1386 ∧ s = ⟨[], [(0, .dead), (1, .ptr 0 0), (2, .dead), (3, .ptr 1 0), (4, .v (.int .i64 3)), (5, .v (.int .i64 (IntKind.i64.wrap (1 + (Int.tmod (IntKind.i64.wrap x446) 4))))), (6, .sl false 2 0 3 1), (7, .v (.int .i64 0)), (8, .v (.int .i64 x1005)), (9, .v (.int .i64 x1040)), (10, .v (.int .i64 x1028)), (11, .dead), (12, .dead), (14, .dead), (15, .dead), (16, .dead), (29, .v (.int .i64 3)), (30, .v (.int .i64 0)), (31, .dead), (33, .v (.int .i64 (IntKind.i64.wrap (1 + (Int.tmod (IntKind.i64.wrap x446) 4))))), (34, .v (.int .i64 x1005)), (35, .dead), (48, .dead), (65, .dead), (70, .dead), (105, .dead), (106, .dead), (107, .dead), (108, .dead), (134, .dead)], [(0, .p c439), (1, .p [.nl, .nl]), (2, .r [.sl false 3 0 n1006 1, .v .nl, .v .nl]), (3, .p c1007)], 4, []⟩) ?_ ?_
                      · refine Wp_block ?_
                        refine Wp_loopG (fun n s => ∃ x1030, ∃ x1031, m44_L2 N c439 x446 x1005 n1006 c1007 x1028 n x1030 x1031 = some o1386 ∧ s = ⟨[], [(0, .dead), (1, .ptr 0 0), (2, .dead), (3, .ptr 1 0), (4, .v (.int .i64 3)), (5, .v (.int .i64 (IntKind.i64.wrap (1 + (Int.tmod (IntKind.i64.wrap x446) 4))))), (6, .sl false 2 0 3 1), (7, .v (.int .i64 0)), (8, .v (.int .i64 x1005)), (9, .v (.int .i64 x1030)), (10, .v (.int .i64 x1028)), (11, .v (.int .i64 x1031)), (12, .dead), (14, .dead), (15, .dead), (16, .dead), (29, .v (.int .i64 3)), (30, .v (.int .i64 0)), (31, .dead), (33, .v (.int .i64 (IntKind.i64.wrap (1 + (Int.tmod (IntKind.i64.wrap x446) 4))))), (34, .v (.int .i64 x1005)), (35, .dead), (48, .dead), (65, .dead), (70, .dead), (105, .dead), (106, .dead), (107, .dead), (108, .dead), (134, .dead)], [(0, .p c439), (1, .p [.nl, .nl]), (2, .r [.sl false 3 0 n1006 1, .v .nl, .v .nl]), (3, .p c1007)], 4, []⟩) N _ (Wk_keep (st' := ⟨[], [(0, .dead), (1, .ptr 0 0), (2, .dead), (3, .ptr 1 0), (4, .v (.int .i64 3)), (5, .v (.int .i64 (IntKind.i64.wrap (1 + (Int.tmod (IntKind.i64.wrap x446) 4))))), (6, .sl false 2 0 3 1), (7, .v (.int .i64 0)), (8, .v (.int .i64 x1005)), (9, .v (.int .i64 x1027)), (10, .v (.int .i64 x1028)), (11, .v (.int .i64 1)), (12, .dead), (14, .dead), (15, .dead), (16, .dead), (29, .v (.int .i64 3)), (30, .v (.int .i64 0)), (31, .dead), (33, .v (.int .i64 (IntKind.i64.wrap (1 + (Int.tmod (IntKind.i64.wrap x446) 4))))), (34, .v (.int .i64 x1005)), (35, .dead), (48, .dead), (65, .dead), (70, .dead), (105, .dead), (106, .dead), (107, .dead), (108, .dead), (134, .dead)], [(0, .p c439), (1, .p [.nl, .nl]), (2, .r [.sl false 3 0 n1006 1, .v .nl, .v .nl]), (3, .p c1007)], 4, []⟩) [1, 3, 4, 5, 6, 7, 8, 9, 10, 11, 29, 30, 33, 34] (by kernel_rfl)) ⟨_, _, h1387, rfl⟩ ?_
                        clear h1387
                        rintro n _ ⟨x1030, x1031, h1387, rfl⟩
                        cases n with
                        | zero => cases h1387
                        | succ n =>
                          rw [m44_L2] at h1387
                          have hh := brn_some h1387; clear h1387; rcases hh with ⟨h1032, h1387⟩ | ⟨h1032, h1387⟩
                          · have hh := grd_some h1387; clear h1387; obtain ⟨⟨g1033, g1034⟩, h1387⟩ := hh
                            have hh := grd_some h1387; clear h1387; obtain ⟨⟨g1035, g1036⟩, h1387⟩ := hh
                            have hh := grd_some h1387; clear h1387; obtain ⟨g1037, h1387⟩ := hh
                            have hh := getI_some h1387; clear h1387; obtain ⟨x1039, h1038, h1387⟩ := hh
                            refine W_sound tab_ok mixed 30 _ _ _ ?_
                            simp -implicitDefEqProofs only [go_sem, Nat.reduceBEq, Nat.reduceAdd, Nat.reduceSub, Nat.reduceMul, Nat.reduceLT, Nat.reduceLeDiff, Int.reduceLE, Int.reduceLT, Int.reduceToNat, Int.reduceBEq, Int.reduceBNe, ↓reduceIte, Int.reduceAdd, Int.reduceSub, Int.reduceGT, Int.reduceGE, h438, g440, h441, g443, g444, h445, g447, h448, h1008, g1009, g1010, g1011, h1012, g1014, g1015, h1016, g1018, h1019, g1020, h1021, g1023, g1024, h1025, h1029, h1032, g1033, g1034, g1035, g1036, g1037, h1038]
                            repeat with_reducible refine And.intro (by first | kernel_rfl | decide) ?_
                            (try rw [h441] at h1387)
                            (try rw [h445] at h1387)
                            (try rw [h448] at h1387)
                            (try rw [h1012] at h1387)
                            (try rw [h1016] at h1387)
                            (try rw [h1021] at h1387)
                            (try rw [h1025] at h1387)
                            (try rw [h1038] at h1387)
                            refine cutQ _ ?_ ⟨n, Nat.lt_succ_self n, _, _, h1387, rfl⟩
                            exact Wk_keep [1, 3, 4, 5, 6, 7, 8, 9, 10, 11, 29, 30, 33, 34] (by kernel_rfl)
                          · refine W_sound tab_ok mixed 9 _ _ _ ?_
                            simp -implicitDefEqProofs only [go_sem, Nat.reduceBEq, Nat.reduceAdd, Nat.reduceSub, Nat.reduceMul, Nat.reduceLT, Nat.reduceLeDiff, Int.reduceLE, Int.reduceLT, Int.reduceToNat, Int.reduceBEq, Int.reduceBNe, ↓reduceIte, Int.reduceAdd, Int.reduceSub, Int.reduceGT, Int.reduceGE, h438, g440, h441, g443, g444, h445, g447, h448, h1008, g1009, g1010, g1011, h1012, g1014, g1015, h1016, g1018, h1019, g1020, h1021, g1023, g1024, h1025, h1029, h1032]
                            repeat with_reducible refine And.intro (by first | kernel_rfl | decide) ?_
                            obtain rfl := Option.some.inj h1387
                            refine cutQ _ ?_ ⟨_, rfl, rfl⟩
                            exact Wk_keep [1, 3, 4, 5, 6, 7, 8, 9, 10, 29, 30, 33, 34] (by kernel_rfl)
                      · rintro _ ⟨x1040, rfl, rfl⟩
                        refine W_sound tab_ok mixed 6 _ _ _ ?_
                        simp -implicitDefEqProofs only [go_sem, Nat.reduceBEq, Nat.reduceAdd, Nat.reduceSub, Nat.reduceMul, Nat.reduceLT, Nat.reduceLeDiff, Int.reduceLE, Int.reduceLT, Int.reduceToNat, Int.reduceBEq, Int.reduceBNe, ↓reduceIte, Int.reduceAdd, Int.reduceSub, Int.reduceGT, Int.reduceGE, h438, g440, h441, g443, g444, h445, g447, h448, h1008, g1009, g1010, g1011, h1012, g1014, g1015, h1016, g1018, h1019, g1020, h1021, g1023, g1024, h1025, h1029]
                        repeat with_reducible refine And.intro (by first | kernel_rfl | decide) ?_
                        (try rw [h441] at h1388)
                        (try rw [h445] at h1388)
                        (try rw [h448] at h1388)
                        (try rw [h1012] at h1388)
                        (try rw [h1016] at h1388)
                        (try rw [h1021] at h1388)
                        (try rw [h1025] at h1388)
                        refine cutQ _ ?_ ⟨n, Nat.lt_succ_self n, _, _, h1388, rfl⟩
                        exact Wk_keep [1, 3, 4, 5, 6, 7, 8, 9, 10, 29, 30, 33, 34] (by kernel_rfl)
                    · refine W_sound tab_ok mixed 9 _ _ _ ?_
                      simp -implicitDefEqProofs only [go_sem, Nat.reduceBEq, Nat.reduceAdd, Nat.reduceSub, Nat.reduceMul, Nat.reduceLT, Nat.reduceLeDiff, Int.reduceLE, Int.reduceLT, Int.reduceToNat, Int.reduceBEq, Int.reduceBNe, ↓reduceIte, Int.reduceAdd, Int.reduceSub, Int.reduceGT, Int.reduceGE, h438, g440, h441, g443, g444, h445, g447, h448, h1008, g1009, g1010, g1011, h1012, g1014, g1015, h1016, g1018, h1019, g1020, h1021, g1023, g1024, h1025, h1029]
                      repeat with_reducible refine And.intro (by first | kernel_rfl | decide) ?_
                      obtain rfl := Option.some.inj h1384
                      refine cutQ _ ?_ ⟨_, rfl, rfl⟩
                      exact Wk_keep [1, 3, 4, 5, 6, 7, 9, 29, 30, 33, 34] (by kernel_rfl)
                · rintro _ ⟨x1041, rfl, rfl⟩
                  have hh := grd_some h1385; clear h1385; obtain ⟨g1042, h1385⟩ := hh
                  have hh := grd_some h1385; clear h1385; obtain ⟨g1043, h1385⟩ := hh
                  refine W_sound tab_ok mixed 18 _ _ _ ?_
                  simp -implicitDefEqProofs only [go_sem, Nat.reduceBEq, Nat.reduceAdd, Nat.reduceSub, Nat.reduceMul, Nat.reduceLT, Nat.reduceLeDiff, Int.reduceLE, Int.reduceLT, Int.reduceToNat, Int.reduceBEq, Int.reduceBNe, ↓reduceIte, Int.reduceAdd, Int.reduceSub, Int.reduceGT, Int.reduceGE, h438, g440, h441, g443, g444, h445, g447, h448, h1008, g1009, g1010, g1011, h1012, g1014, g1015, h1016, g1018, h1019, g1020, h1021, g1023, g1024, h1025, g1042, g1043]
                  repeat with_reducible refine And.intro (by first | kernel_rfl | decide) ?_
                  (try rw [h441] at h1385)
                  (try rw [h445] at h1385)
                  (try rw [h448] at h1385)
                  (try rw [h1012] at h1385)
                  (try rw [h1016] at h1385)
                  (try rw [h1021] at h1385)
                  (try rw [h1025] at h1385)
                  refine cutQ _ ?_ ⟨n, Nat.lt_succ_self n, _, _, _, h1385, rfl⟩
                  exact Wk_keep [1, 3, 4, 5, 6, 7, 29, 30, 33, 34] (by kernel_rfl)
              · have hh := grd_some h1381; clear h1381; obtain ⟨g1044, h1381⟩ := hh
                have hh := grd_some h1381; clear h1381; obtain ⟨g1045, h1381⟩ := hh
                refine W_sound tab_ok mixed 54 _ _ _ ?_
                simp -implicitDefEqProofs only [go_sem, Nat.reduceBEq, Nat.reduceAdd, Nat.reduceSub, Nat.reduceMul, Nat.reduceLT, Nat.reduceLeDiff, Int.reduceLE, Int.reduceLT, Int.reduceToNat, Int.reduceBEq, Int.reduceBNe, ↓reduceIte, Int.reduceAdd, Int.reduceSub, Int.reduceGT, Int.reduceGE, h438, g440, h441, g443, g444, h445, g447, h448, h1008, g1009, g1010, g1011, h1012, g1014, g1015, h1016, g1018, h1019, g1044, g1045]
                repeat with_reducible refine And.intro (by first | kernel_rfl | decide) ?_
                (try rw [h441] at h1381)
                (try rw [h445] at h1381)
                (try rw [h448] at h1381)
                (try rw [h1012] at h1381)
                (try rw [h1016] at h1381)
                refine cutQ _ ?_ ⟨n, Nat.lt_succ_self n, _, _, _, h1381, rfl⟩
                exact Wk_keep [1, 3, 4, 5, 6, 7, 29, 30, 33, 34] (by kernel_rfl)
            · refine W_sound tab_ok mixed 7 _ _ _ ?_
              simp -implicitDefEqProofs only [go_sem, Nat.reduceBEq, Nat.reduceAdd, Nat.reduceSub, Nat.reduceMul, Nat.reduceLT, Nat.reduceLeDiff, Int.reduceLE, Int.reduceLT, Int.reduceToNat, Int.reduceBEq, Int.reduceBNe, ↓reduceIte, Int.reduceAdd, Int.reduceSub, Int.reduceGT, Int.reduceGE, h438, g440, h441, g443, g444, h445, g447, h448, h1008]
              repeat with_reducible refine And.intro (by first | kernel_rfl | decide) ?_
              obtain rfl := Option.some.inj h1381
              refine cutQ _ ?_ ⟨_, _, rfl, rfl⟩
              exact Wk_keep [1, 3, 4, 5, 6, 29, 30] (by kernel_rfl)
        · rintro _ ⟨n1046, c1047, rfl, rfl⟩
          (try dsimp only at h1382)
          refine W_sound tab_ok mixed 5 _ _ _ ?_
          simp -implicitDefEqProofs only [go_sem, Nat.reduceBEq, Nat.reduceAdd, Nat.reduceSub, Nat.reduceMul, Nat.reduceLT, Nat.reduceLeDiff, Int.reduceLE, Int.reduceLT, Int.reduceToNat, Int.reduceBEq, Int.reduceBNe, ↓reduceIte, Int.reduceAdd, Int.reduceSub, Int.reduceGT, Int.reduceGE, h438, g440, h441, g443, g444, h445, g447, h448]
          repeat with_reducible refine And.intro (by first | kernel_rfl | decide) ?_
          refine again (Wk_keep (st' := ⟨[], [(0, .dead), (1, .ptr 0 0), (2, .dead), (3, .ptr 1 0), (4, .v (.int .i64 3)), (5, .v (.int .i64 (IntKind.i64.wrap (1 + (Int.tmod (IntKind.i64.wrap x446) 4))))), (6, .sl false 2 0 3 1), (7, .dead), (8, .dead), (9, .dead), (10, .dead), (11, .dead), (12, .dead), (14, .dead), (15, .dead), (16, .dead), (29, .v (.int .i64 3)), (30, .v (.int .i64 1)), (31, .dead), (33, .dead), (34, .dead), (35, .dead), (48, .dead), (65, .dead), (70, .dead), (105, .dead), (106, .dead), (107, .dead), (108, .dead), (134, .dead)], [(0, .p c439), (1, .p [.nl, .nl]), (2, .r [.sl false 3 0 n1046 1, .v .nl, .v .nl]), (3, .p c1047)], 4, []⟩) [1, 3, 4, 5, 6, 29, 30] (by kernel_rfl)) ?_
          refine W_sound tab_ok mixed 19 _ _ _ ?_
          simp -implicitDefEqProofs only [go_sem, Nat.reduceBEq, Nat.reduceAdd, Nat.reduceSub, Nat.reduceMul, Nat.reduceLT, Nat.reduceLeDiff, Int.reduceLE, Int.reduceLT, Int.reduceToNat, Int.reduceBEq, Int.reduceBNe, ↓reduceIte, Int.reduceAdd, Int.reduceSub, Int.reduceGT, Int.reduceGE, h438, g440, h441, g443, g444, h445, g447, h448]
          repeat with_reducible refine And.intro (by first | kernel_rfl | decide) ?_
          refine Wp_weaken (Wk_ownC 2 1 1 rfl rfl (by decide) (by decide)) ?_
          simp -implicitDefEqProofs only [go_sem, Nat.reduceBEq, Nat.reduceAdd, Nat.reduceSub, Nat.reduceMul, Nat.reduceLT, Nat.reduceLeDiff, Int.reduceLE, Int.reduceLT, Int.reduceToNat, Int.reduceBEq, Int.reduceBNe, ↓reduceIte, setO, Int.reduceAdd, Int.reduceSub, Int.reduceGT, Int.reduceGE, h438, g440, h441, g443, g444, h445, g447, h448]
          have hh := bnd'_some h1382; clear h1382; obtain ⟨o1389, h1390, h1391⟩ := hh
          refine Wp_cut (fun s => ∃ n1159, ∃ c1160, (n1159, c1160) = o1389 ∧ s = ⟨[], [(0, .dead), (1, .ptr 0 0), (2, .dead), (3, .ptr 1 0), (4, .v (.int .i64 3)), (5, .v (.int .i64 (IntKind.i64.wrap (1 + (Int.tmod (IntKind.i64.wrap x446) 4))))), (6, .sl false 2 0 3 1), (7, .dead), (8, .dead), (9, .dead), (10, .dead), (11, .dead), (12, .dead), (14, .dead), (15, .dead), (16, .dead), (29, .v (.int .i64 3)), (30, .v (.int .i64 1)), (31, .dead), (33, .dead), (34, .dead), (35, .dead), (48, .dead), (65, .dead), (70, .dead), (105, .dead), (106, .dead), (107, .dead), (108, .dead), (134, .dead)], [(0, .p c439), (1, .p [.nl, .nl]), (2, .r [.sl false 3 0 n1046 1, .sl false 4 0 n1159 1, .v .nl]), (3, .p c1047), (4, .p c1160)], 5, []⟩) ?_ ?_
          · refine Wp_block ?_
            refine Wp_loopG (fun n s => ∃ x1118, ∃ n1119, ∃ c1120, m44_L3 N c439 x446 n1046 c1047 n x1118 n1119 c1120 = some o1389 ∧ s = ⟨[], [(0, .dead), (1, .ptr 0 0), (2, .dead), (3, .ptr 1 0), (4, .v (.int .i64 3)), (5, .v (.int .i64 (IntKind.i64.wrap (1 + (Int.tmod (IntKind.i64.wrap x446) 4))))), (6, .sl false 2 0 3 1), (7, .v (.int .i64 1)), (8, .dead), (9, .dead), (10, .dead), (11, .dead), (12, .dead), (14, .dead), (15, .dead), (16, .dead), (29, .v (.int .i64 3)), (30, .v (.int .i64 1)), (31, .dead), (33, .v (.int .i64 (IntKind.i64.wrap (1 + (Int.tmod (IntKind.i64.wrap x446) 4))))), (34, .v (.int .i64 x1118)), (35, .dead), (48, .dead), (65, .dead), (70, .dead), (105, .dead), (106, .dead), (107, .dead), (108, .dead), (134, .dead)], [(0, .p c439), (1, .p [.nl, .nl]), (2, .r [.sl false 3 0 n1046 1, .sl false 4 0 n1119 1, .v .nl]), (3, .p c1047), (4, .p c1120)], 5, []⟩) N _ (Wk_keep (st' := ⟨[], [(0, .dead), (1, .ptr 0 0), (2, .dead), (3, .ptr 1 0), (4, .v (.int .i64 3)), (5, .v (.int .i64 (IntKind.i64.wrap (1 + (Int.tmod (IntKind.i64.wrap x446) 4))))), (6, .sl false 2 0 3 1), (7, .v (.int .i64 1)), (8, .dead), (9, .dead), (10, .dead), (11, .dead), (12, .dead), (14, .dead), (15, .dead), (16, .dead), (29, .v (.int .i64 3)), (30, .v (.int .i64 1)), (31, .dead), (33, .v (.int .i64 (IntKind.i64.wrap (1 + (Int.tmod (IntKind.i64.wrap x446) 4))))), (34, .v (.int .i64 0)), (35, .dead), (48, .dead), (65, .dead), (70, .dead), (105, .dead), (106, .dead), (107, .dead), (108, .dead), (134, .dead)], [(0, .p c439), (1, .p [.nl, .nl]), (2, .r [.sl false 3 0 n1046 1, .sl false 4 0 0 1, .v .nl]), (3, .p c1047), (4, .p [])], 5, []⟩) [1, 3, 4, 5, 6, 7, 29, 30, 33, 34] (by kernel_rfl)) ⟨_, _, _, h1390, rfl⟩ ?_
            clear h1390
            rintro n _ ⟨x1118, n1119, c1120, h1390, rfl⟩
            cases n with
            | zero => cases h1390
            | succ n =>
              rw [m44_L3] at h1390
              have hh := brn_some h1390; clear h1390; rcases hh with ⟨h1121, h1390⟩ | ⟨h1121, h1390⟩
              · have hh := grd_some h1390; clear h1390; obtain ⟨⟨g1122, g1123⟩, h1390⟩ := hh
                have hh := grd_some h1390; clear h1390; obtain ⟨g1124, h1390⟩ := hh
                have hh := getI_some h1390; clear h1390; obtain ⟨x1126, h1125, h1390⟩ := hh
                have hh := grd_some h1390; clear h1390; obtain ⟨g1127, h1390⟩ := hh
                have hh := grd_some h1390; clear h1390; obtain ⟨g1128, h1390⟩ := hh
                have hh := getI_some h1390; clear h1390; obtain ⟨x1130, h1129, h1390⟩ := hh
                have hh := grd_some h1390; clear h1390; obtain ⟨g1131, h1390⟩ := hh
                have hh := brn_some h1390; clear h1390; rcases hh with ⟨h1132, h1390⟩ | ⟨h1132, h1390⟩
                · have hh := grd_some h1390; clear h1390; obtain ⟨g1133, h1390⟩ := hh
                  have hh := getI_some h1390; clear h1390; obtain ⟨x1135, h1134, h1390⟩ := hh
                  have hh := grd_some h1390; clear h1390; obtain ⟨g1136, h1390⟩ := hh
                  have hh := grd_some h1390; clear h1390; obtain ⟨g1137, h1390⟩ := hh
                  have hh := getI_some h1390; clear h1390; obtain ⟨x1139, h1138, h1390⟩ := hh
                  refine W_sound tab_ok mixed 57 _ _ _ ?_
                  simp -implicitDefEqProofs only [go_sem, Nat.reduceBEq, Nat.reduceAdd, Nat.reduceSub, Nat.reduceMul, Nat.reduceLT, Nat.reduceLeDiff, Int.reduceLE, Int.reduceLT, Int.reduceToNat, Int.reduceBEq, Int.reduceBNe, ↓reduceIte, Int.reduceAdd, Int.reduceSub, Int.reduceGT, Int.reduceGE, h438, g440, h441, g443, g444, h445, g447, h448, h1121, g1122, g1123, g1124, h1125, g1127, g1128, h1129, g1131, h1132, g1133, h1134, g1136, g1137, h1138]
                  repeat with_reducible refine And.intro (by first | kernel_rfl | decide) ?_
                  have hh := bnd'_some h1390; clear h1390; obtain ⟨o1392, h1393, h1394⟩ := hh
                  refine Wp_cut (fun s => ∃ x1154, x1154 = o1392 ∧ s = ⟨[], [(0, .dead), (1, .ptr 0 0), (2, .dead), (3, .ptr 1 0), (4, .v (.int .i64 3)), (5, .v (.int .i64 (IntKind.i64.wrap (1 + (Int.tmod (IntKind.i64.wrap x446) 4))))), (6, .sl false 2 0 3 1), (7, .v (.int .i64 1)), (8, .dead), (9, .v (.int .i64 x1154)), (10, .dead), (11, .dead), (12, .dead), (14, .dead), (15, .dead), (16, .dead), (29, .v (.int .i64 3)), (30, .v (.int .i64 1)), (31, .dead), (33, .v (.int .i64 (IntKind.i64.wrap (1 + (Int.tmod (IntKind.i64.wrap x446) 4))))), (34, .v (.int .i64 x1118)), (35, .dead), (48, .dead), (65, .dead), (70, .dead), (105, .dead), (106, .dead), (107, .dead), (108, .dead), (134, .dead)], [(0, .p c439), (1, .p [.nl, .nl]), (2, .r [.sl false 3 0 n1046 1, .sl false 4 0 n1119 1, .v .nl]), (3, .p c1047), (4, .p c1120)], 5, []⟩) ?_ ?_
                  · refine Wp_block ?_
                    refine Wp_loopG (fun n s => ∃ x1140, ∃ x1141, m44_L4 N c439 x446 n1046 c1047 x1118 n1119 c1120 n x1140 x1141 = some o1392 ∧ s = ⟨[], [(0, .dead), (1, .ptr 0 0), (2, .dead), (3, .ptr 1 0), (4, .v (.int .i64 3)), (5, .v (.int .i64 (IntKind.i64.wrap (1 + (Int.tmod (IntKind.i64.wrap x446) 4))))), (6, .sl false 2 0 3 1), (7, .v (.int .i64 1)), (8, .v (.int .i64 x1118)), (9, .v (.int .i64 x1140)), (10, .v (.int .i64 x1141)), (11, .dead), (12, .dead), (14, .dead), (15, .dead), (16, .dead), (29, .v (.int .i64 3)), (30, .v (.int .i64 1)), (31, .dead), (33, .v (.int .i64 (IntKind.i64.wrap (1 + (Int.tmod (IntKind.i64.wrap x446) 4))))), (34, .v (.int .i64 x1118)), (35, .dead), (48, .dead), (65, .dead), (70, .dead), (105, .dead), (106, .dead), (107, .dead), (108, .dead), (134, .dead)], [(0, .p c439), (1, .p [.nl, .nl]), (2, .r [.sl false 3 0 n1046 1, .sl false 4 0 n1119 1, .v .nl]), (3, .p c1047), (4, .p c1120)], 5, []⟩) N _ (Wk_keep (st' := ⟨[], [(0, .dead), (1, .ptr 0 0), (2, .dead), (3, .ptr 1 0), (4, .v (.int .i64 3)), (5, .v (.int .i64 (IntKind.i64.wrap (1 + (Int.tmod (IntKind.i64.wrap x446) 4))))), (6, .sl false 2 0 3 1), (7, .v (.int .i64 1)), (8, .v (.int .i64 x1118)), (9, .v (.int .i64 (IntKind.i64.wrap ((IntKind.i64.wrap (12 + (Int.tmod (IntKind.i64.wrap x1135) 5))) + (Int.tmod (IntKind.i64.wrap x1139) 5))))), (10, .v (.int .i64 1)), (11, .dead), (12, .dead), (14, .dead), (15, .dead), (16, .dead), (29, .v (.int .i64 3)), (30, .v (.int .i64 1)), (31, .dead), (33, .v (.int .i64 (IntKind.i64.wrap (1 + (Int.tmod (IntKind.i64.wrap x446) 4))))), (34, .v (.int .i64 x1118)), (35, .dead), (48, .dead), (65, .dead), (70, .dead), (105, .dead), (106, .dead), (107, .dead), (108, .dead), (134, .dead)], [(0, .p c439), (1, .p [.nl, .nl]), (2, .r [.sl false 3 0 n1046 1, .sl false 4 0 n1119 1, .v .nl]), (3, .p c1047), (4, .p c1120)], 5, []⟩) [1, 3, 4, 5, 6, 7, 8, 9, 10, 29, 30, 33, 34] (by kernel_rfl)) ⟨_, _, h1393, rfl⟩ ?_
                    clear h1393
                    rintro n _ ⟨x1140, x1141, h1393, rfl⟩
                    cases n with
                    | zero => cases h1393
                    | succ n =>
                      rw [m44_L4] at h1393
                      have hh := brn_some h1393; clear h1393; rcases hh with ⟨h1142, h1393⟩ | ⟨h1142, h1393⟩
                      · refine W_sound tab_ok mixed 15 _ _ _ ?_
                        simp -implicitDefEqProofs only [go_sem, Nat.reduceBEq, Nat.reduceAdd, Nat.reduceSub, Nat.reduceMul, Nat.reduceLT, Nat.reduceLeDiff, Int.reduceLE, Int.reduceLT, Int.reduceToNat, Int.reduceBEq, Int.reduceBNe, ↓reduceIte, Int.reduceAdd, Int.reduceSub, Int.reduceGT, Int.reduceGE, h438, g440, h441, g443, g444, h445, g447, h448, h1121, g1122, g1123, g1124, h1125, g1127, g1128, h1129, g1131, h1132, g1133, h1134, g1136, g1137, h1138, h1142]
                        repeat with_reducible refine And.intro (by first | kernel_rfl | decide) ?_
                        have hh := bnd'_some h1393; clear h1393; obtain ⟨o1395, h1396, h1397⟩ := hh
                        refine Wp_cut (fun s => ∃ x1153, x1153 = o1395 ∧ s = ⟨[], [(0, .dead), (1, .ptr 0 0), (2, .dead), (3, .ptr 1 0), (4, .v (.int .i64 3)), (5, .v (.int .i64 (IntKind.i64.wrap (1 + (Int.tmod (IntKind.i64.wrap x446) 4))))), (6, .sl false 2 0 3 1), (7, .v (.int .i64 1)), (8, .v (.int .i64 x1118)), (9, .v (.int .i64 x1153)), (10, .v (.int .i64 x1141)), (11, .dead), (12, .dead), (14, .dead), (15, .dead), (16, .dead), (29, .v (.int .i64 3)), (30, .v (.int .i64 1)), (31, .dead), (33, .v (.int .i64 (IntKind.i64.wrap (1 + (Int.tmod (IntKind.i64.wrap x446) 4))))), (34, .v (.int .i64 x1118)), (35, .dead), (48, .dead), (65, .dead), (70, .dead), (105, .dead), (106, .dead), (107, .dead), (108, .dead), (134, .dead)], [(0, .p c439), (1, .p [.nl, .nl]), (2, .r [.sl false 3 0 n1046 1, .sl false 4 0 n1119 1, .v .nl]), (3, .p c1047), (4, .p c1120)], 5, []⟩) ?_ ?_
                        · refine Wp_block ?_
                          refine Wp_loopG (fun n s => ∃ x1143, ∃ x1144, m44_L5 N c439 x446 n1046 c1047 x1118 n1119 c1120 x1141 n x1143 x1144 = some o1395 ∧ s = ⟨[], [(0, .dead), (1, .ptr 0 0), (2, .dead), (3, .ptr 1 0), (4, .v (.int .i64 3)), (5, .v (.int .i64 (IntKind.i64.wrap (1 + (Int.tmod (IntKind.i64.wrap x446) 4))))), (6, .sl false 2 0 3 1), (7, .v (.int .i64 1)), (8, .v (.int .i64 x1118)), (9, .v (.int .i64 x1143)), (10, .v (.int .i64 x1141)), (11, .v (.int .i64 x1144)), (12, .dead), (14, .dead), (15, .dead), (16, .dead), (29, .v (.int .i64 3)), (30, .v (.int .i64 1)), (31, .dead), (33, .v (.int .i64 (IntKind.i64.wrap (1 + (Int.tmod (IntKind.i64.wrap x446) 4))))), (34, .v (.int .i64 x1118)), (35, .dead), (48, .dead), (65, .dead), (70, .dead), (105, .dead), (106, .dead), (107, .dead), (108, .dead), (134, .dead)], [(0, .p c439), (1, .p [.nl, .nl]), (2, .r [.sl false 3 0 n1046 1, .sl false 4 0 n1119 1, .v .nl]), (3, .p c1047), (4, .p c1120)], 5, []⟩) N _ (Wk_keep (st' := ⟨[], [(0, .dead), (1, .ptr 0 0), (2, .dead), (3, .ptr 1 0), (4, .v (.int .i64 3)), (5, .v (.int .i64 (IntKind.i64.wrap (1 + (Int.tmod (IntKind.i64.wrap x446) 4))))), (6, .sl false 2 0 3 1), (7, .v (.int .i64 1)), (8, .v (.int .i64 x1118)), (9, .v (.int .i64 x1140)), (10, .v (.int .i64 x1141)), (11, .v (.int .i64 1)), (12, .dead), (14, .dead), (15, .dead), (16, .dead), (29, .v (.int .i64 3)), (30, .v (.int .i64 1)), (31, .dead), (33, .v (.int .i64 (IntKind.i64.wrap (1 + (Int.tmod (IntKind.i64.wrap x446) 4))))), (34, .v (.int .i64 x1118)), (35, .dead), (48, .dead), (65, .dead), (70, .dead), (105, .dead), (106, .dead), (107, .dead), (108, .dead), (134, .dead)], [(0, .p c439), (1, .p [.nl, .nl]), (2, .r [.sl false 3 0 n1046 1, .sl false 4 0 n1119 1, .v .nl]), (3, .p c1047), (4, .p c1120)], 5, []⟩) [1, 3, 4, 5, 6, 7, 8, 9, 10, 11, 29, 30, 33, 34] (by kernel_rfl)) ⟨_, _, h1396, rfl⟩ ?_
                          clear h1396
                          rintro n _ ⟨x1143, x1144, h1396, rfl⟩
                          cases n with
                          | zero => cases h1396
                          | succ n =>
                            rw [m44_L5] at h1396
                            have hh := brn_some h1396; clear h1396; rcases hh with ⟨h1145, h1396⟩ | ⟨h1145, h1396⟩
                            · have hh := grd_some h1396; clear h1396; obtain ⟨⟨g1146, g1147⟩, h1396⟩ := hh
                              have hh := grd_some h1396; clear h1396; obtain ⟨⟨g1148, g1149⟩, h1396⟩ := hh
                              have hh := grd_some h1396; clear h1396; obtain ⟨g1150, h1396⟩ := hh
                              have hh := getI_some h1396; clear h1396; obtain ⟨x1152, h1151, h1396⟩ := hh
                              refine W_sound tab_ok mixed 30 _ _ _ ?_
                              simp -implicitDefEqProofs only [go_sem, Nat.reduceBEq, Nat.reduceAdd, Nat.reduceSub, Nat.reduceMul, Nat.reduceLT, Nat.reduceLeDiff, Int.reduceLE, Int.reduceLT, Int.reduceToNat, Int.reduceBEq, Int.reduceBNe, ↓reduceIte, Int.reduceAdd, Int.reduceSub, Int.reduceGT, Int.reduceGE, h438, g440, h441, g443, g444, h445, g447, h448, h1121, g1122, g1123, g1124, h1125, g1127, g1128, h1129, g1131, h1132, g1133, h1134, g1136, g1137, h1138, h1142, h1145, g1146, g1147, g1148, g1149, g1150, h1151]
                              repeat with_reducible refine And.intro (by first | kernel_rfl | decide) ?_
                              (try rw [h441] at h1396)
                              (try rw [h445] at h1396)
                              (try rw [h448] at h1396)
                              (try rw [h1125] at h1396)
                              (try rw [h1129] at h1396)
                              (try rw [h1134] at h1396)
                              (try rw [h1138] at h1396)
                              (try rw [h1151] at h1396)
                              refine cutQ _ ?_ ⟨n, Nat.lt_succ_self n, _, _, h1396, rfl⟩
                              exact Wk_keep [1, 3, 4, 5, 6, 7, 8, 9, 10, 11, 29, 30, 33, 34] (by kernel_rfl)
                            · refine W_sound tab_ok mixed 9 _ _ _ ?_
                              simp -implicitDefEqProofs only [go_sem, Nat.reduceBEq, Nat.reduceAdd, Nat.reduceSub, Nat.reduceMul, Nat.reduceLT, Nat.reduceLeDiff, Int.reduceLE, Int.reduceLT, Int.reduceToNat, Int.reduceBEq, Int.reduceBNe, ↓reduceIte, Int.reduceAdd, Int.reduceSub, Int.reduceGT, Int.reduceGE, h438, g440, h441, g443, g444, h445, g447, h448, h1121, g1122, g1123, g1124, h1125, g1127, g1128, h1129, g1131, h1132, g1133, h1134, g1136, g1137, h1138, h1142, h1145]
                              repeat with_reducible refine And.intro (by first | kernel_rfl | decide) ?_
                              obtain rfl := Option.some.inj h1396
                              refine cutQ _ ?_ ⟨_, rfl, rfl⟩
                              exact Wk_keep [1, 3, 4, 5, 6, 7, 8, 9, 10, 29, 30, 33, 34] (by kernel_rfl)
                        · rintro _ ⟨x1153, rfl, rfl⟩
                          refine W_sound tab_ok mixed 6 _ _ _ ?_
                          simp -implicitDefEqProofs only [go_sem, Nat.reduceBEq, Nat.reduceAdd, Nat.reduceSub, Nat.reduceMul, Nat.reduceLT, Nat.reduceLeDiff, Int.reduceLE, Int.reduceLT, Int.reduceToNat, Int.reduceBEq, Int.reduceBNe, ↓reduceIte, Int.reduceAdd, Int.reduceSub, Int.reduceGT, Int.reduceGE, h438, g440, h441, g443, g444, h445, g447, h448, h1121, g1122, g1123, g1124, h1125, g1127, g1128, h1129, g1131, h1132, g1133, h1134, g1136, g1137, h1138, h1142]
                          repeat with_reducible refine And.intro (by first | kernel_rfl | decide) ?_
                          (try rw [h441] at h1397)
                          (try rw [h445] at h1397)
                          (try rw [h448] at h1397)
                          (try rw [h1125] at h1397)
                          (try rw [h1129] at h1397)
                          (try rw [h1134] at h1397)
                          (try rw [h1138] at h1397)
                          refine cutQ _ ?_ ⟨n, Nat.lt_succ_self n, _, _, h1397, rfl⟩
                          exact Wk_keep [1, 3, 4, 5, 6, 7, 8, 9, 10, 29, 30, 33, 34] (by kernel_rfl)
                      · refine W_sound tab_ok mixed 9 _ _ _ ?_
                        simp -implicitDefEqProofs only [go_sem, Nat.reduceBEq, Nat.reduceAdd, Nat.reduceSub, Nat.reduceMul, Nat.reduceLT, Nat.reduceLeDiff, Int.reduceLE, Int.reduceLT, Int.reduceToNat, Int.reduceBEq, Int.reduceBNe, ↓reduceIte, Int.reduceAdd, Int.reduceSub, Int.reduceGT, Int.reduceGE, h438, g440, h441, g443, g444, h445, g447, h448, h1121, g1122, g1123, g1124, h1125, g1127, g1128, h1129, g1131, h1132, g1133, h1134, g1136, g1137, h1138, h1142]
                        repeat with_reducible refine And.intro (by first | kernel_rfl | decide) ?_
                        obtain rfl := Option.some.inj h1393
                        refine cutQ _ ?_ ⟨_, rfl, rfl⟩
                        exact Wk_keep [1, 3, 4, 5, 6, 7, 9, 29, 30, 33, 34] (by kernel_rfl)
                  · rintro _ ⟨x1154, rfl, rfl⟩
                    have hh := grd_some h1394; clear h1394; obtain ⟨g1155, h1394⟩ := hh
                    have hh := grd_some h1394; clear h1394; obtain ⟨g1156, h1394⟩ := hh
                    refine W_sound tab_ok mixed 18 _ _ _ ?_
                    simp -implicitDefEqProofs only [go_sem, Nat.reduceBEq, Nat.reduceAdd, Nat.reduceSub, Nat.reduceMul, Nat.reduceLT, Nat.reduceLeDiff, Int.reduceLE, Int.reduceLT, Int.reduceToNat, Int.reduceBEq, Int.reduceBNe, ↓reduceIte, Int.reduceAdd, Int.reduceSub, Int.reduceGT, Int.reduceGE, h438, g440, h441, g443, g444, h445, g447, h448, h1121, g1122, g1123, g1124, h1125, g1127, g1128, h1129, g1131, h1132, g1133, h1134, g1136, g1137, h1138, g1155, g1156]
                    repeat with_reducible refine And.intro (by first | kernel_rfl | decide) ?_
                    (try rw [h441] at h1394)
                    (try rw [h445] at h1394)
                    (try rw [h448] at h1394)
                    (try rw [h1125] at h1394)
                    (try rw [h1129] at h1394)
                    (try rw [h1134] at h1394)
                    (try rw [h1138] at h1394)
                    refine cutQ _ ?_ ⟨n, Nat.lt_succ_self n, _, _, _, h1394, rfl⟩
                    exact Wk_keep [1, 3, 4, 5, 6, 7, 29, 30, 33, 34] (by kernel_rfl)
                · have hh := grd_some h1390; clear h1390; obtain ⟨g1157, h1390⟩ := hh
                  have hh := grd_some h1390; clear h1390; obtain ⟨g1158, h1390⟩ := hh
                  refine W_sound tab_ok mixed 54 _ _ _ ?_
                  simp -implicitDefEqProofs only [go_sem, Nat.reduceBEq, Nat.reduceAdd, Nat.reduceSub, Nat.reduceMul, Nat.reduceLT, Nat.reduceLeDiff, Int.reduceLE, Int.reduceLT, Int.reduceToNat, Int.reduceBEq, Int.reduceBNe, ↓reduceIte, Int.reduceAdd, Int.reduceSub, Int.reduceGT, Int.reduceGE, h438, g440, h441, g443, g444, h445, g447, h448, h1121, g1122, g1123, g1124, h1125, g1127, g1128, h1129, g1131, h1132, g1157, g1158]
                  repeat with_reducible refine And.intro (by first | kernel_rfl | decide) ?_
                  (try rw [h441] at h1390)
                  (try rw [h445] at h1390)
                  (try rw [h448] at h1390)
                  (try rw [h1125] at h1390)
                  (try rw [h1129] at h1390)
                  refine cutQ _ ?_ ⟨n, Nat.lt_succ_self n, _, _, _, h1390, rfl⟩
                  exact Wk_keep [1, 3, 4, 5, 6, 7, 29, 30, 33, 34] (by kernel_rfl)
              · refine W_sound tab_ok mixed 7 _ _ _ ?_
                simp -implicitDefEqProofs only [go_sem, Nat.reduceBEq, Nat.reduceAdd, Nat.reduceSub, Nat.reduceMul, Nat.reduceLT, Nat.reduceLeDiff, Int.reduceLE, Int.reduceLT, Int.reduceToNat, Int.reduceBEq, Int.reduceBNe, ↓reduceIte, Int.reduceAdd, Int.reduceSub, Int.reduceGT, Int.reduceGE, h438, g440, h441, g443, g444, h445, g447, h448, h1121]
                repeat with_reducible refine And.intro (by first | kernel_rfl | decide) ?_
                obtain rfl := Option.some.inj h1390
                refine cutQ _ ?_ ⟨_, _, rfl, rfl⟩
                exact Wk_keep [1, 3, 4, 5, 6, 29, 30] (by kernel_rfl)
          · rintro _ ⟨n1159, c1160, rfl, rfl⟩
            (try dsimp only at h1391)
            refine W_sound tab_ok mixed 5 _ _ _ ?_
            simp -implicitDefEqProofs only [go_sem, Nat.reduceBEq, Nat.reduceAdd, Nat.reduceSub, Nat.reduceMul, Nat.reduceLT, Nat.reduceLeDiff, Int.reduceLE, Int.reduceLT, Int.reduceToNat, Int.reduceBEq, Int.reduceBNe, ↓reduceIte, Int.reduceAdd, Int.reduceSub, Int.reduceGT, Int.reduceGE, h438, g440, h441, g443, g444, h445, g447, h448]
            repeat with_reducible refine And.intro (by first | kernel_rfl | decide) ?_
            refine again (Wk_keep (st' := ⟨[], [(0, .dead), (1, .ptr 0 0), (2, .dead), (3, .ptr 1 0), (4, .v (.int .i64 3)), (5, .v (.int .i64 (IntKind.i64.wrap (1 + (Int.tmod (IntKind.i64.wrap x446) 4))))), (6, .sl false 2 0 3 1), (7, .dead), (8, .dead), (9, .dead), (10, .dead), (11, .dead), (12, .dead), (14, .dead), (15, .dead), (16, .dead), (29, .v (.int .i64 3)), (30, .v (.int .i64 2)), (31, .dead), (33, .dead), (34, .dead), (35, .dead), (48, .dead), (65, .dead), (70, .dead), (105, .dead), (106, .dead), (107, .dead), (108, .dead), (134, .dead)], [(0, .p c439), (1, .p [.nl, .nl]), (2, .r [.sl false 3 0 n1046 1, .sl false 4 0 n1159 1, .v .nl]), (3, .p c1047), (4, .p c1160)], 5, []⟩) [1, 3, 4, 5, 6, 29, 30] (by kernel_rfl)) ?_
            refine W_sound tab_ok mixed 19 _ _ _ ?_
            simp -implicitDefEqProofs only [go_sem, Nat.reduceBEq, Nat.reduceAdd, Nat.reduceSub, Nat.reduceMul, Nat.reduceLT, Nat.reduceLeDiff, Int.reduceLE, Int.reduceLT, Int.reduceToNat, Int.reduceBEq, Int.reduceBNe, ↓reduceIte, Int.reduceAdd, Int.reduceSub, Int.reduceGT, Int.reduceGE, h438, g440, h441, g443, g444, h445, g447, h448]
            repeat with_reducible refine And.intro (by first | kernel_rfl | decide) ?_
            refine Wp_weaken (Wk_ownC 2 2 1 rfl rfl (by decide) (by decide)) ?_
            simp -implicitDefEqProofs only [go_sem, Nat.reduceBEq, Nat.reduceAdd, Nat.reduceSub, Nat.reduceMul, Nat.reduceLT, Nat.reduceLeDiff, Int.reduceLE, Int.reduceLT, Int.reduceToNat, Int.reduceBEq, Int.reduceBNe, ↓reduceIte, setO, Int.reduceAdd, Int.reduceSub, Int.reduceGT, Int.reduceGE, h438, g440, h441, g443, g444, h445, g447, h448]
            have hh := bnd'_some h1391; clear h1391; obtain ⟨o1398, h1399, h1400⟩ := hh
            refine Wp_cut (fun s => ∃ n1272, ∃ c1273, (n1272, c1273) = o1398 ∧ s = ⟨[], [(0, .dead), (1, .ptr 0 0), (2, .dead), (3, .ptr 1 0), (4, .v (.int .i64 3)), (5, .v (.int .i64 (IntKind.i64.wrap (1 + (Int.tmod (IntKind.i64.wrap x446) 4))))), (6, .sl false 2 0 3 1), (7, .dead), (8, .dead), (9, .dead), (10, .dead), (11, .dead), (12, .dead), (14, .dead), (15, .dead), (16, .dead), (29, .v (.int .i64 3)), (30, .v (.int .i64 2)), (31, .dead), (33, .dead), (34, .dead), (35, .dead), (48, .dead), (65, .dead), (70, .dead), (105, .dead), (106, .dead), (107, .dead), (108, .dead), (134, .dead)], [(0, .p c439), (1, .p [.nl, .nl]), (2, .r [.sl false 3 0 n1046 1, .sl false 4 0 n1159 1, .sl false 5 0 n1272 1]), (3, .p c1047), (4, .p c1160), (5, .p c1273)], 6, []⟩) ?_ ?_
            · refine Wp_block ?_
              refine Wp_loopG (fun n s => ∃ x1231, ∃ n1232, ∃ c1233, m44_L6 N c439 x446 n1046 c1047 n1159 c1160 n x1231 n1232 c1233 = some o1398 ∧ s = ⟨[], [(0, .dead), (1, .ptr 0 0), (2, .dead), (3, .ptr 1 0), (4, .v (.int .i64 3)), (5, .v (.int .i64 (IntKind.i64.wrap (1 + (Int.tmod (IntKind.i64.wrap x446) 4))))), (6, .sl false 2 0 3 1), (7, .v (.int .i64 2)), (8, .dead), (9, .dead), (10, .dead), (11, .dead), (12, .dead), (14, .dead), (15, .dead), (16, .dead), (29, .v (.int .i64 3)), (30, .v (.int .i64 2)), (31, .dead), (33, .v (.int .i64 (IntKind.i64.wrap (1 + (Int.tmod (IntKind.i64.wrap x446) 4))))), (34, .v (.int .i64 x1231)), (35, .dead), (48, .dead), (65, .dead), (70, .dead), (105, .dead), (106, .dead), (107, .dead), (108, .dead), (134, .dead)], [(0, .p c439), (1, .p [.nl, .nl]), (2, .r [.sl false 3 0 n1046 1, .sl false 4 0 n1159 1, .sl false 5 0 n1232 1]), (3, .p c1047), (4, .p c1160), (5, .p c1233)], 6, []⟩) N _ (Wk_keep (st' := ⟨[], [(0, .dead), (1, .ptr 0 0), (2, .dead), (3, .ptr 1 0), (4, .v (.int .i64 3)), (5, .v (.int .i64 (IntKind.i64.wrap (1 + (Int.tmod (IntKind.i64.wrap x446) 4))))), (6, .sl false 2 0 3 1), (7, .v (.int .i64 2)), (8, .dead), (9, .dead), (10, .dead), (11, .dead), (12, .dead), (14, .dead), (15, .dead), (16, .dead), (29, .v (.int .i64 3)), (30, .v (.int .i64 2)), (31, .dead), (33, .v (.int .i64 (IntKind.i64.wrap (1 + (Int.tmod (IntKind.i64.wrap x446) 4))))), (34, .v (.int .i64 0)), (35, .dead), (48, .dead), (65, .dead), (70, .dead), (105, .dead), (106, .dead), (107, .dead), (108, .dead), (134, .dead)], [(0, .p c439), (1, .p [.nl, .nl]), (2, .r [.sl false 3 0 n1046 1, .sl false 4 0 n1159 1, .sl false 5 0 0 1]), (3, .p c1047), (4, .p c1160), (5, .p [])], 6, []⟩) [1, 3, 4, 5, 6, 7, 29, 30, 33, 34] (by kernel_rfl)) ⟨_, _, _, h1399, rfl⟩ ?_
              clear h1399
              rintro n _ ⟨x1231, n1232, c1233, h1399, rfl⟩
              cases n with
              | zero => cases h1399
              | succ n =>
                rw [m44_L6] at h1399
                have hh := brn_some h1399; clear h1399; rcases hh with ⟨h1234, h1399⟩ | ⟨h1234, h1399⟩
                · have hh := grd_some h1399; clear h1399; obtain ⟨⟨g1235, g1236⟩, h1399⟩ := hh
                  have hh := grd_some h1399; clear h1399; obtain ⟨g1237, h1399⟩ := hh
                  have hh := getI_some h1399; clear h1399; obtain ⟨x1239, h1238, h1399⟩ := hh
                  have hh := grd_some h1399; clear h1399; obtain ⟨g1240, h1399⟩ := hh
                  have hh := grd_some h1399; clear h1399; obtain ⟨g1241, h1399⟩ := hh
                  have hh := getI_some h1399; clear h1399; obtain ⟨x1243, h1242, h1399⟩ := hh
                  have hh := grd_some h1399; clear h1399; obtain ⟨g1244, h1399⟩ := hh
                  have hh := brn_some h1399; clear h1399; rcases hh with ⟨h1245, h1399⟩ | ⟨h1245, h1399⟩
                  · have hh := grd_some h1399; clear h1399; obtain ⟨g1246, h1399⟩ := hh
                    have hh := getI_some h1399; clear h1399; obtain ⟨x1248, h1247, h1399⟩ := hh
                    have hh := grd_some h1399; clear h1399; obtain ⟨g1249, h1399⟩ := hh
                    have hh := grd_some h1399; clear h1399; obtain ⟨g1250, h1399⟩ := hh
                    have hh := getI_some h1399; clear h1399; obtain ⟨x1252, h1251, h1399⟩ := hh
                    refine W_sound tab_ok mixed 57 _ _ _ ?_
                    simp -implicitDefEqProofs only [go_sem, Nat.reduceBEq, Nat.reduceAdd, Nat.reduceSub, Nat.reduceMul, Nat.reduceLT, Nat.reduceLeDiff, Int.reduceLE, Int.reduceLT, Int.reduceToNat, Int.reduceBEq, Int.reduceBNe, ↓reduceIte, Int.reduceAdd, Int.reduceSub, Int.reduceGT, Int.reduceGE, h438, g440, h441, g443, g444, h445, g447, h448, h1234, g1235, g1236, g1237, h1238, g1240, g1241, h1242, g1244, h1245, g1246, h1247, g1249, g1250, h1251]
                    repeat with_reducible refine And.intro (by first | kernel_rfl | decide) ?_
                    have hh := bnd'_some h1399; clear h1399; obtain ⟨o1401, h1402, h1403⟩ := hh
                    refine Wp_cut (fun s => ∃ x1267, x1267 = o1401 ∧ s = ⟨[], [(0, .dead), (1, .ptr 0 0), (2, .dead), (3, .ptr 1 0), (4, .v (.int .i64 3)), (5, .v (.int .i64 (IntKind.i64.wrap (1 + (Int.tmod (IntKind.i64.wrap x446) 4))))), (6, .sl false 2 0 3 1), (7, .v (.int .i64 2)), (8, .dead), (9, .v (.int .i64 x1267)), (10, .dead), (11, .dead), (12, .dead), (14, .dead), (15, .dead), (16, .dead), (29, .v (.int .i64 3)), (30, .v (.int .i64 2)), (31, .dead), (33, .v (.int .i64 (IntKind.i64.wrap (1 + (Int.tmod (IntKind.i64.wrap x446) 4))))), (34, .v (.int .i64 x1231)), (35, .dead), (48, .dead), (65, .dead), (70, .dead), (105, .dead), (106, .dead), (107, .dead), (108, .dead), (134, .dead)], [(0, .p c439), (1, .p [.nl, .nl]), (2, .r [.sl false 3 0 n1046 1, .sl false 4 0 n1159 1, .sl false 5 0 n1232 1]), (3, .p c1047), (4, .p c1160), (5, .p c1233)], 6, []⟩) ?_ ?_
                    · refine Wp_block ?_
                      refine Wp_loopG (fun n s => ∃ x1253, ∃ x1254, m44_L7 N c439 x446 n1046 c1047 n1159 c1160 x1231 n1232 c1233 n x1253 x1254 = some o1401 ∧ s = ⟨[], [(0, .dead), (1, .ptr 0 0), (2, .dead), (3, .ptr 1 0), (4, .v (.int .i64 3)), (5, .v (.int .i64 (IntKind.i64.wrap (1 + (Int.tmod (IntKind.i64.wrap x446) 4))))), (6, .sl false 2 0 3 1), (7, .v (.int .i64 2)), (8, .v (.int .i64 x1231)), (9, .v (.int .i64 x1253)), (10, .v (.int .i64 x1254)), (11, .dead), (12, .dead), (14, .dead), (15, .dead), (16, .dead), (29, .v (.int .i64 3)), (30, .v (.int .i64 2)), (31, .dead), (33, .v (.int .i64 (IntKind.i64.wrap (1 + (Int.tmod (IntKind.i64.wrap x446) 4))))), (34, .v (.int .i64 x1231)), (35, .dead), (48, .dead), (65, .dead), (70, .dead), (105, .dead), (106, .dead), (107, .dead), (108, .dead), (134, .dead)], [(0, .p c439), (1, .p [.nl, .nl]), (2, .r [.sl false 3 0 n1046 1, .sl false 4 0 n1159 1, .sl false 5 0 n1232 1]), (3, .p c1047), (4, .p c1160), (5, .p c1233)], 6, []⟩) N _ (Wk_keep (st' := ⟨[], [(0, .dead), (1, .ptr 0 0), (2, .dead), (3, .ptr 1 0), (4, .v (.int .i64 3)), (5, .v (.int .i64 (IntKind.i64.wrap (1 + (Int.tmod (IntKind.i64.wrap x446) 4))))), (6, .sl false 2 0 3 1), (7, .v (.int .i64 2)), (8, .v (.int .i64 x1231)), (9, .v (.int .i64 (IntKind.i64.wrap ((IntKind.i64.wrap (12 + (Int.tmod (IntKind.i64.wrap x1248) 5))) + (Int.tmod (IntKind.i64.wrap x1252) 5))))), (10, .v (.int .i64 1)), (11, .dead), (12, .dead), (14, .dead), (15, .dead), (16, .dead), (29, .v (.int .i64 3)), (30, .v (.int .i64 2)), (31, .dead), (33, .v (.int .i64 (IntKind.i64.wrap (1 + (Int.tmod (IntKind.i64.wrap x446) 4))))), (34, .v (.int .i64 x1231)), (35, .dead), (48, .dead), (65, .dead), (70, .dead), (105, .dead), (106, .dead), (107, .dead), (108, .dead), (134, .dead)], [(0, .p c439), (1, .p [.nl, .nl]), (2, .r [.sl false 3 0 n1046 1, .sl false 4 0 n1159 1, .sl false 5 0 n1232 1]), (3, .p c1047), (4, .p c1160), (5, .p c1233)], 6, []⟩) [1, 3, 4, 5, 6, 7, 8, 9, 10, 29, 30, 33, 34] (by kernel_rfl)) ⟨_, _, h1402, rfl⟩ ?_
                      clear h1402
                      rintro n _ ⟨x1253, x1254, h1402, rfl⟩
                      cases n with
                      | zero => cases h1402
                      | succ n =>
                        rw [m44_L7] at h1402
                        have hh := brn_some h1402; clear h1402; rcases hh with ⟨h1255, h1402⟩ | ⟨h1255, h1402⟩
                        · refine W_sound tab_ok mixed 15 _ _ _ ?_
                          simp -implicitDefEqProofs only [go_sem, Nat.reduceBEq, Nat.reduceAdd, Nat.reduceSub, Nat.reduceMul, Nat.reduceLT, Nat.reduceLeDiff, Int.reduceLE, Int.reduceLT, Int.reduceToNat, Int.reduceBEq, Int.reduceBNe, ↓reduceIte, Int.reduceAdd, Int.reduceSub, Int.reduceGT, Int.reduceGE, h438, g440, h441, g443, g444, h445, g447, h448, h1234, g1235, g1236, g1237, h1238, g1240, g1241, h1242, g1244, h1245, g1246, h1247, g1249, g1250, h1251, h1255]
                          repeat with_reducible refine And.intro (by first | kernel_rfl | decide) ?_
                          have hh := bnd'_some h1402; clear h1402; obtain ⟨o1404, h1405, h1406⟩ := hh
                          refine Wp_cut (fun s => ∃ x1266, x1266 = o1404 ∧ s = ⟨[], [(0, .dead), (1, .ptr 0 0), (2, .dead), (3, .ptr 1 0), (4, .v (.int .i64 3)), (5, .v (.int .i64 (IntKind.i64.wrap (1 + (Int.tmod (IntKind.i64.wrap x446) 4))))), (6, .sl false 2 0 3 1), (7, .v (.int .i64 2)), (8, .v (.int .i64 x1231)), (9, .v (.int .i64 x1266)), (10, .v (.int .i64 x1254)), (11, .dead), (12, .dead), (14, .dead), (15, .dead), (16, .dead), (29, .v (.int .i64 3)), (30, .v (.int .i64 2)), (31, .dead), (33, .v (.int .i64 (IntKind.i64.wrap (1 + (Int.tmod (IntKind.i64.wrap x446) 4))))), (34, .v (.int .i64 x1231)), (35, .dead), (48, .dead), (65, .dead), (70, .dead), (105, .dead), (106, .dead), (107, .dead), (108, .dead), (134, .dead)], [(0, .p c439), (1, .p [.nl, .nl]), (2, .r [.sl false 3 0 n1046 1, .sl false 4 0 n1159 1, .sl false 5 0 n1232 1]), (3, .p c1047), (4, .p c1160), (5, .p c1233)], 6, []⟩) ?_ ?_
                          · refine Wp_block ?_
                            refine Wp_loopG (fun n s => ∃ x1256, ∃ x1257, m44_L8 N c439 x446 n1046 c1047 n1159 c1160 x1231 n1232 c1233 x1254 n x1256 x1257 = some o1404 ∧ s = ⟨[], [(0, .dead), (1, .ptr 0 0), (2, .dead), (3, .ptr 1 0), (4, .v (.int .i64 3)), (5, .v (.int .i64 (IntKind.i64.wrap (1 + (Int.tmod (IntKind.i64.wrap x446) 4))))), (6, .sl false 2 0 3 1), (7, .v (.int .i64 2)), (8, .v (.int .i64 x1231)), (9, .v (.int .i64 x1256)), (10, .v (.int .i64 x1254)), (11, .v (.int .i64 x1257)), (12, .dead), (14, .dead), (15, .dead), (16, .dead), (29, .v (.int .i64 3)), (30, .v (.int .i64 2)), (31, .dead), (33, .v (.int .i64 (IntKind.i64.wrap (1 + (Int.tmod (IntKind.i64.wrap x446) 4))))), (34, .v (.int .i64 x1231)), (35, .dead), (48, .dead), (65, .dead), (70, .dead), (105, .dead), (106, .dead), (107, .dead), (108, .dead), (134, .dead)], [(0, .p c439), (1, .p [.nl, .nl]), (2, .r [.sl false 3 0 n1046 1, .sl false 4 0 n1159 1, .sl false 5 0 n1232 1]), (3, .p c1047), (4, .p c1160), (5, .p c1233)], 6, []⟩) N _ (Wk_keep (st' := ⟨[], [(0, .dead), (1, .ptr 0 0), (2, .dead), (3, .ptr 1 0), (4, .v (.int .i64 3)), (5, .v (.int .i64 (IntKind.i64.wrap (1 + (Int.tmod (IntKind.i64.wrap x446) 4))))), (6, .sl false 2 0 3 1), (7, .v (.int .i64 2)), (8, .v (.int .i64 x1231)), (9, .v (.int .i64 x1253)), (10, .v (.int .i64 x1254)), (11, .v (.int .i64 1)), (12, .dead), (14, .dead), (15, .dead), (16, .dead), (29, .v (.int .i64 3)), (30, .v (.int .i64 2)), (31, .dead), (33, .v (.int .i64 (IntKind.i64.wrap (1 + (Int.tmod (IntKind.i64.wrap x446) 4))))), (34, .v (.int .i64 x1231)), (35, .dead), (48, .dead), (65, .dead), (70, .dead), (105, .dead), (106, .dead), (107, .dead), (108, .dead), (134, .dead)], [(0, .p c439), (1, .p [.nl, .nl]), (2, .r [.sl false 3 0 n1046 1, .sl false 4 0 n1159 1, .sl false 5 0 n1232 1]), (3, .p c1047), (4, .p c1160), (5, .p c1233)], 6, []⟩) [1, 3, 4, 5, 6, 7, 8, 9, 10, 11, 29, 30, 33, 34] (by kernel_rfl)) ⟨_, _, h1405, rfl⟩ ?_
                            clear h1405
                            rintro n _ ⟨x1256, x1257, h1405, rfl⟩
                            cases n with
                            | zero => cases h1405
                            | succ n =>
                              rw [m44_L8] at h1405
                              have hh := brn_some h1405; clear h1405; rcases hh with ⟨h1258, h1405⟩ | ⟨h1258, h1405⟩
                              · have hh := grd_some h1405; clear h1405; obtain ⟨⟨g1259, g1260⟩, h1405⟩ := hh
                                have hh := grd_some h1405; clear h1405; obtain ⟨⟨g1261, g1262⟩, h1405⟩ := hh
                                have hh := grd_some h1405; clear h1405; obtain ⟨g1263, h1405⟩ := hh
                                have hh := getI_some h1405; clear h1405; obtain ⟨x1265, h1264, h1405⟩ := hh
                                refine W_sound tab_ok mixed 30 _ _ _ ?_
                                simp -implicitDefEqProofs only [go_sem, Nat.reduceBEq, Nat.reduceAdd, Nat.reduceSub, Nat.reduceMul, Nat.reduceLT, Nat.reduceLeDiff, Int.reduceLE, Int.reduceLT, Int.reduceToNat, Int.reduceBEq, Int.reduceBNe, ↓reduceIte, Int.reduceAdd, Int.reduceSub, Int.reduceGT, Int.reduceGE, h438, g440, h441, g443, g444, h445, g447, h448, h1234, g1235, g1236, g1237, h1238, g1240, g1241, h1242, g1244, h1245, g1246, h1247, g1249, g1250, h1251, h1255, h1258, g1259, g1260, g1261, g1262, g1263, h1264]
                                repeat with_reducible refine And.intro (by first | kernel_rfl | decide) ?_
                                (try rw [h441] at h1405)
                                (try rw [h445] at h1405)
                                (try rw [h448] at h1405)
                                (try rw [h1238] at h1405)
                                (try rw [h1242] at h1405)
                                (try rw [h1247] at h1405)
                                (try rw [h1251] at h1405)
                                (try rw [h1264] at h1405)
                                refine cutQ _ ?_ ⟨n, Nat.lt_succ_self n, _, _, h1405, rfl⟩
                                exact Wk_keep [1, 3, 4, 5, 6, 7, 8, 9, 10, 11, 29, 30, 33, 34] (by kernel_rfl)
                              · refine W_sound tab_ok mixed 9 _ _ _ ?_
                                simp -implicitDefEqProofs only [go_sem, Nat.reduceBEq, Nat.reduceAdd, Nat.reduceSub, Nat.reduceMul, Nat.reduceLT, Nat.reduceLeDiff, Int.reduceLE, Int.reduceLT, Int.reduceToNat, Int.reduceBEq, Int.reduceBNe, ↓reduceIte, Int.reduceAdd, Int.reduceSub, Int.reduceGT, Int.reduceGE, h438, g440, h441, g443, g444, h445, g447, h448, h1234, g1235, g1236, g1237, h1238, g1240, g1241, h1242, g1244, h1245, g1246, h1247, g1249, g1250, h1251, h1255, h1258]
                                repeat with_reducible refine And.intro (by first | kernel_rfl | decide) ?_
                                obtain rfl := Option.some.inj h1405
                                refine cutQ _ ?_ ⟨_, rfl, rfl⟩
                                exact Wk_keep [1, 3, 4, 5, 6, 7, 8, 9, 10, 29, 30, 33, 34] (by kernel_rfl)
                          · rintro _ ⟨x1266, rfl, rfl⟩
                            refine W_sound tab_ok mixed 6 _ _ _ ?_
                            simp -implicitDefEqProofs only [go_sem, Nat.reduceBEq, Nat.reduceAdd, Nat.reduceSub, Nat.reduceMul, Nat.reduceLT, Nat.reduceLeDiff, Int.reduceLE, Int.reduceLT, Int.reduceToNat, Int.reduceBEq, Int.reduceBNe, ↓reduceIte, Int.reduceAdd, Int.reduceSub, Int.reduceGT, Int.reduceGE, h438, g440, h441, g443, g444, h445, g447, h448, h1234, g1235, g1236, g1237, h1238, g1240, g1241, h1242, g1244, h1245, g1246, h1247, g1249, g1250, h1251, h1255]
                            repeat with_reducible refine And.intro (by first | kernel_rfl | decide) ?_
                            (try rw [h441] at h1406)
                            (try rw [h445] at h1406)
                            (try rw [h448] at h1406)
                            (try rw [h1238] at h1406)
                            (try rw [h1242] at h1406)
                            (try rw [h1247] at h1406)
                            (try rw [h1251] at h1406)
                            refine cutQ _ ?_ ⟨n, Nat.lt_succ_self n, _, _, h1406, rfl⟩
                            exact Wk_keep [1, 3, 4, 5, 6, 7, 8, 9, 10, 29, 30, 33, 34] (by kernel_rfl)
                        · refine W_sound tab_ok mixed 9 _ _ _ ?_
                          simp -implicitDefEqProofs only [go_sem, Nat.reduceBEq, Nat.reduceAdd, Nat.reduceSub, Nat.reduceMul, Nat.reduceLT, Nat.reduceLeDiff, Int.reduceLE, Int.reduceLT, Int.reduceToNat, Int.reduceBEq, Int.reduceBNe, ↓reduceIte, Int.reduceAdd, Int.reduceSub, Int.reduceGT, Int.reduceGE, h438, g440, h441, g443, g444, h445, g447, h448, h1234, g1235, g1236, g1237, h1238, g1240, g1241, h1242, g1244, h1245, g1246, h1247, g1249, g1250, h1251, h1255]
                          repeat with_reducible refine And.intro (by first | kernel_rfl | decide) ?_
                          obtain rfl := Option.some.inj h1402
                          refine cutQ _ ?_ ⟨_, rfl, rfl⟩
                          exact Wk_keep [1, 3, 4, 5, 6, 7, 9, 29, 30, 33, 34] (by kernel_rfl)
                    · rintro _ ⟨x1267, rfl, rfl⟩
                      have hh := grd_some h1403; clear h1403; obtain ⟨g1268, h1403⟩ := hh
                      have hh := grd_some h1403; clear h1403; obtain ⟨g1269, h1403⟩ := hh
                      refine W_sound tab_ok mixed 18 _ _ _ ?_
                      simp -implicitDefEqProofs only [go_sem, Nat.reduceBEq, Nat.reduceAdd, Nat.reduceSub, Nat.reduceMul, Nat.reduceLT, Nat.reduceLeDiff, Int.reduceLE, Int.reduceLT, Int.reduceToNat, Int.reduceBEq, Int.reduceBNe, ↓reduceIte, Int.reduceAdd, Int.reduceSub, Int.reduceGT, Int.reduceGE, h438, g440, h441, g443, g444, h445, g447, h448, h1234, g1235, g1236, g1237, h1238, g1240, g1241, h1242, g1244, h1245, g1246, h1247, g1249, g1250, h1251, g1268, g1269]
                      repeat with_reducible refine And.intro (by first | kernel_rfl | decide) ?_
                      (try rw [h441] at h1403)
                      (try rw [h445] at h1403)
                      (try rw [h448] at h1403)
                      (try rw [h1238] at h1403)
                      (try rw [h1242] at h1403)
                      (try rw [h1247] at h1403)
                      (try rw [h1251] at h1403)
                      refine cutQ _ ?_ ⟨n, Nat.lt_succ_self n, _, _, _, h1403, rfl⟩
                      exact Wk_keep [1, 3, 4, 5, 6, 7, 29, 30, 33, 34] (by kernel_rfl)
                  · have hh := grd_some h1399; clear h1399; obtain ⟨g1270, h1399⟩ := hh
                    have hh := grd_some h1399; clear h1399; obtain ⟨g1271, h1399⟩ := hh
                    refine W_sound tab_ok mixed 54 _ _ _ ?_
                    simp -implicitDefEqProofs only [go_sem, Nat.reduceBEq, Nat.reduceAdd, Nat.reduceSub, Nat.reduceMul, Nat.reduceLT, Nat.reduceLeDiff, Int.reduceLE, Int.reduceLT, Int.reduceToNat, Int.reduceBEq, Int.reduceBNe, ↓reduceIte, Int.reduceAdd, Int.reduceSub, Int.reduceGT, Int.reduceGE, h438, g440, h441, g443, g444, h445, g447, h448, h1234, g1235, g1236, g1237, h1238, g1240, g1241, h1242, g1244, h1245, g1270, g1271]
                    repeat with_reducible refine And.intro (by first | kernel_rfl | decide) ?_
                    (try rw [h441] at h1399)
                    (try rw [h445] at h1399)
                    (try rw [h448] at h1399)
                    (try rw [h1238] at h1399)
                    (try rw [h1242] at h1399)
                    refine cutQ _ ?_ ⟨n, Nat.lt_succ_self n, _, _, _, h1399, rfl⟩
                    exact Wk_keep [1, 3, 4, 5, 6, 7, 29, 30, 33, 34] (by kernel_rfl)
                · refine W_sound tab_ok mixed 7 _ _ _ ?_
                  simp -implicitDefEqProofs only [go_sem, Nat.reduceBEq, Nat.reduceAdd, Nat.reduceSub, Nat.reduceMul, Nat.reduceLT, Nat.reduceLeDiff, Int.reduceLE, Int.reduceLT, Int.reduceToNat, Int.reduceBEq, Int.reduceBNe, ↓reduceIte, Int.reduceAdd, Int.reduceSub, Int.reduceGT, Int.reduceGE, h438, g440, h441, g443, g444, h445, g447, h448, h1234]
                  repeat with_reducible refine And.intro (by first | kernel_rfl | decide) ?_
                  obtain rfl := Option.some.inj h1399
                  refine cutQ _ ?_ ⟨_, _, rfl, rfl⟩
                  exact Wk_keep [1, 3, 4, 5, 6, 29, 30] (by kernel_rfl)
            · rintro _ ⟨n1272, c1273, rfl, rfl⟩
              (try dsimp only at h1400)
              refine W_sound tab_ok mixed 5 _ _ _ ?_
              simp -implicitDefEqProofs only [go_sem, Nat.reduceBEq, Nat.reduceAdd, Nat.reduceSub, Nat.reduceMul, Nat.reduceLT, Nat.reduceLeDiff, Int.reduceLE, Int.reduceLT, Int.reduceToNat, Int.reduceBEq, Int.reduceBNe, ↓reduceIte, Int.reduceAdd, Int.reduceSub, Int.reduceGT, Int.reduceGE, h438, g440, h441, g443, g444, h445, g447, h448]
              repeat with_reducible refine And.intro (by first | kernel_rfl | decide) ?_
              refine again (Wk_keep (st' := ⟨[], [(0, .dead), (1, .ptr 0 0), (2, .dead), (3, .ptr 1 0), (4, .v (.int .i64 3)), (5, .v (.int .i64 (IntKind.i64.wrap (1 + (Int.tmod (IntKind.i64.wrap x446) 4))))), (6, .sl false 2 0 3 1), (7, .dead), (8, .dead), (9, .dead), (10, .dead), (11, .dead), (12, .dead), (14, .dead), (15, .dead), (16, .dead), (29, .v (.int .i64 3)), (30, .v (.int .i64 3)), (31, .dead), (33, .dead), (34, .dead), (35, .dead), (48, .dead), (65, .dead), (70, .dead), (105, .dead), (106, .dead), (107, .dead), (108, .dead), (134, .dead)], [(0, .p c439), (1, .p [.nl, .nl]), (2, .r [.sl false 3 0 n1046 1, .sl false 4 0 n1159 1, .sl false 5 0 n1272 1]), (3, .p c1047), (4, .p c1160), (5, .p c1273)], 6, []⟩) [1, 3, 4, 5, 6, 29, 30] (by kernel_rfl)) ?_
              have hh := grd_some h1400; clear h1400; obtain ⟨⟨g1274, g1275, g1276⟩, h1400⟩ := hh
              have hh := grd_some h1400; clear h1400; obtain ⟨g1277, h1400⟩ := hh
              have hh := getI_some h1400; clear h1400; obtain ⟨x1279, h1278, h1400⟩ := hh
              have hh := grd_some h1400; clear h1400; obtain ⟨g1280, h1400⟩ := hh
              have hh := grd_some h1400; clear h1400; obtain ⟨⟨g1281, g1282, g1283⟩, h1400⟩ := hh
              refine W_sound tab_ok mixed 29 _ _ _ ?_
              simp -implicitDefEqProofs only [go_sem, Nat.reduceBEq, Nat.reduceAdd, Nat.reduceSub, Nat.reduceMul, Nat.reduceLT, Nat.reduceLeDiff, Int.reduceLE, Int.reduceLT, Int.reduceToNat, Int.reduceBEq, Int.reduceBNe, ↓reduceIte, Int.reduceAdd, Int.reduceSub, Int.reduceGT, Int.reduceGE, h438, g440, h441, g443, g444, h445, g447, h448, g1274, g1275, g1276, g1277, h1278, g1280, g1281, g1282, g1283]
              repeat with_reducible refine And.intro (by first | kernel_rfl | decide) ?_
              refine Wp_wkK Wk_norm rfl ?_
              simp -implicitDefEqProofs only [go_sem, Nat.reduceBEq, Nat.reduceAdd, Nat.reduceSub, Nat.reduceMul, Nat.reduceLT, Nat.reduceLeDiff, Int.reduceLE, Int.reduceLT, Int.reduceToNat, Int.reduceBEq, Int.reduceBNe, ↓reduceIte, normE, Int.reduceAdd, Int.reduceSub, Int.reduceGT, Int.reduceGE, h438, g440, h441, g443, g444, h445, g447, h448, g1274, g1275, g1276, g1277, h1278, g1280, g1281, g1282, g1283]
              (try simp -implicitDefEqProofs only [go_sem, Nat.reduceBEq, Nat.reduceAdd, Nat.reduceSub, Nat.reduceMul, Nat.reduceLT, Nat.reduceLeDiff, Int.reduceLE, Int.reduceLT, Int.reduceToNat, Int.reduceBEq, Int.reduceBNe, ↓reduceIte, Int.reduceAdd, Int.reduceSub, Int.reduceGT, Int.reduceGE, h438, g440, h441, g443, g444, h445, g447, h448, g1274, g1275, g1276, g1277, h1278, g1280, g1281, g1282, g1283])
              have hh := bnd'_some h1400; clear h1400; obtain ⟨o1407, h1408, h1409⟩ := hh
              refine Wp_cut (fun s => ∃ c1340, ∃ c1341, (c1340, c1341) = o1407 ∧ s = ⟨[], [(0, .dead), (1, .dead), (2, .dead), (3, .ptr 0 0), (4, .dead), (5, .dead), (6, .sl false 1 0 3 1), (7, .dead), (8, .dead), (9, .dead), (10, .dead), (11, .dead), (12, .ptr 2 0), (14, .dead), (15, .dead), (16, .dead), (29, .dead), (30, .dead), (31, .dead), (33, .dead), (34, .dead), (35, .dead), (48, .dead), (65, .dead), (70, .dead), (105, .dead), (106, .dead), (107, .dead), (108, .dead), (134, .dead)], [(0, .p [.nl, .nl]), (1, .r [.sl false 3 0 n1046 1, .sl false 4 0 n1159 1, .sl false 5 0 n1272 1]), (2, .r [.sl false 6 0 3 1, .sl false 7 0 (Int.toNat (IntKind.i64.wrap (1 + (Int.tmod (IntKind.i64.wrap x446) 4)))) 1]), (3, .p c1047), (4, .p c1160), (5, .p c1273), (6, .p c1340), (7, .p c1341)], 8, []⟩) ?_ ?_
              · refine Wp_block ?_
                refine Wp_loopG (fun n s => ∃ x1311, ∃ c1312, ∃ c1313, m44_L9 N c439 x446 n1046 c1047 n1159 c1160 n1272 c1273 x1279 n x1311 c1312 c1313 = some o1407 ∧ s = ⟨[], [(0, .dead), (1, .dead), (2, .dead), (3, .ptr 0 0), (4, .v (.int .i64 3)), (5, .v (.int .i64 (IntKind.i64.wrap (1 + (Int.tmod (IntKind.i64.wrap x446) 4))))), (6, .sl false 1 0 3 1), (7, .dead), (8, .dead), (9, .dead), (10, .dead), (11, .dead), (12, .ptr 2 0), (14, .dead), (15, .dead), (16, .dead), (29, .dead), (30, .dead), (31, .dead), (33, .dead), (34, .dead), (35, .dead), (48, .dead), (65, .dead), (70, .dead), (105, .sl false 3 22 (Int.toNat (Int.tmod (IntKind.i64.wrap x1279) 8)) 2), (106, .v (.int .i64 (((Int.toNat (Int.tmod (IntKind.i64.wrap x1279) 8)) : Nat) : Int))), (107, .v (.int .i64 x1311)), (108, .dead), (134, .dead)], [(0, .p [.nl, .nl]), (1, .r [.sl false 4 0 n1046 1, .sl false 5 0 n1159 1, .sl false 6 0 n1272 1]), (2, .r [.sl false 7 0 3 1, .sl false 8 0 (Int.toNat (IntKind.i64.wrap (1 + (Int.tmod (IntKind.i64.wrap x446) 4)))) 1]), (3, .p c439), (4, .p c1047), (5, .p c1160), (6, .p c1273), (7, .p c1312), (8, .p c1313)], 9, []⟩) N _ (Wk_keep (st' := ⟨[], [(0, .dead), (1, .dead), (2, .dead), (3, .ptr 0 0), (4, .v (.int .i64 3)), (5, .v (.int .i64 (IntKind.i64.wrap (1 + (Int.tmod (IntKind.i64.wrap x446) 4))))), (6, .sl false 1 0 3 1), (7, .dead), (8, .dead), (9, .dead), (10, .dead), (11, .dead), (12, .ptr 2 0), (14, .dead), (15, .dead), (16, .dead), (29, .dead), (30, .dead), (31, .dead), (33, .dead), (34, .dead), (35, .dead), (48, .dead), (65, .dead), (70, .dead), (105, .sl false 3 22 (Int.toNat (Int.tmod (IntKind.i64.wrap x1279) 8)) 2), (106, .v (.int .i64 (((Int.toNat (Int.tmod (IntKind.i64.wrap x1279) 8)) : Nat) : Int))), (107, .v (.int .i64 0)), (108, .dead), (134, .dead)], [(0, .p [.nl, .nl]), (1, .r [.sl false 4 0 n1046 1, .sl false 5 0 n1159 1, .sl false 6 0 n1272 1]), (2, .r [.sl false 7 0 3 1, .sl false 8 0 (Int.toNat (IntKind.i64.wrap (1 + (Int.tmod (IntKind.i64.wrap x446) 4)))) 1]), (3, .p c439), (4, .p c1047), (5, .p c1160), (6, .p c1273), (7, .p [(.int .i64 0), (.int .i64 0), (.int .i64 0)]), (8, .p (List.replicate (Int.toNat (IntKind.i64.wrap (1 + (Int.tmod (IntKind.i64.wrap x446) 4)))) (.int .i64 0)))], 9, []⟩) [3, 4, 5, 6, 12, 105, 106, 107] (by kernel_rfl)) ⟨_, _, _, h1408, rfl⟩ ?_
                clear h1408
                rintro n _ ⟨x1311, c1312, c1313, h1408, rfl⟩
                cases n with
                | zero => cases h1408
                | succ n =>
                  rw [m44_L9] at h1408
                  have hh := brn_some h1408; clear h1408; rcases hh with ⟨h1314, h1408⟩ | ⟨h1314, h1408⟩
                  · have hh := grd_some h1408; clear h1408; obtain ⟨⟨g1315, g1316⟩, h1408⟩ := hh
                    have hh := grd_some h1408; clear h1408; obtain ⟨g1317, h1408⟩ := hh
                    have hh := getA2_some h1408; clear h1408; obtain ⟨p1319, p1320, h1318, h1408⟩ := hh
                    injection h1318 with h1318
                    have hh := getI_some h1408; clear h1408; obtain ⟨x1322, h1321, h1408⟩ := hh
                    have hh := getI_some h1408; clear h1408; obtain ⟨x1324, h1323, h1408⟩ := hh
                    have hh := grd_some h1408; clear h1408; obtain ⟨g1325, h1408⟩ := hh
                    have hh := grd_some h1408; clear h1408; obtain ⟨⟨g1326, g1327⟩, h1408⟩ := hh
                    have hh := grd_some h1408; clear h1408; obtain ⟨g1328, h1408⟩ := hh
                    have hh := getI_some h1408; clear h1408; obtain ⟨x1330, h1329, h1408⟩ := hh
                    have hh := brn_some h1408; clear h1408; rcases hh with ⟨h1331, h1408⟩ | ⟨h1331, h1408⟩
                    · have hh := grd_some h1408; clear h1408; obtain ⟨⟨g1332, g1333⟩, h1408⟩ := hh
                      have hh := grd_some h1408; clear h1408; obtain ⟨g1334, h1408⟩ := hh
                      have hh := getI_some h1408; clear h1408; obtain ⟨x1336, h1335, h1408⟩ := hh
                      have hh := brn_some h1408; clear h1408; rcases hh with ⟨h1337, h1408⟩ | ⟨h1337, h1408⟩
                      · have hh := grd_some h1408; clear h1408; obtain ⟨g1338, h1408⟩ := hh
                        have hh := grd_some h1408; clear h1408; obtain ⟨g1339, h1408⟩ := hh
                        refine W_sound tab_ok mixed 75 _ _ _ ?_
                        simp -implicitDefEqProofs only [go_sem, Nat.reduceBEq, Nat.reduceAdd, Nat.reduceSub, Nat.reduceMul, Nat.reduceLT, Nat.reduceLeDiff, Int.reduceLE, Int.reduceLT, Int.reduceToNat, Int.reduceBEq, Int.reduceBNe, ↓reduceIte, Int.reduceAdd, Int.reduceSub, Int.reduceGT, Int.reduceGE, h438, g440, h441, g443, g444, h445, g447, h448, g1274, g1275, g1276, g1277, h1278, g1280, g1281, g1282, g1283, h1314, g1315, g1316, g1317, h1318, h1321, h1323, g1325, g1326, g1327, g1328, h1329, h1331, g1332, g1333, g1334, h1335, h1337, g1338, g1339]
                        repeat with_reducible refine And.intro (by first | kernel_rfl | decide) ?_
                        (try rw [h441] at h1408)
                        (try rw [h445] at h1408)
                        (try rw [h448] at h1408)
                        (try rw [h1278] at h1408)
                        (try rw [h1329] at h1408)
                        (try rw [h1335] at h1408)
                        refine cutQ _ ?_ ⟨n, Nat.lt_succ_self n, _, _, _, h1408, rfl⟩
                        exact Wk_keep [3, 4, 5, 6, 12, 105, 106, 107] (by kernel_rfl)
                      · refine W_sound tab_ok mixed 55 _ _ _ ?_
                        simp -implicitDefEqProofs only [go_sem, Nat.reduceBEq, Nat.reduceAdd, Nat.reduceSub, Nat.reduceMul, Nat.reduceLT, Nat.reduceLeDiff, Int.reduceLE, Int.reduceLT, Int.reduceToNat, Int.reduceBEq, Int.reduceBNe, ↓reduceIte, Int.reduceAdd, Int.reduceSub, Int.reduceGT, Int.reduceGE, h438, g440, h441, g443, g444, h445, g447, h448, g1274, g1275, g1276, g1277, h1278, g1280, g1281, g1282, g1283, h1314, g1315, g1316, g1317, h1318, h1321, h1323, g1325, g1326, g1327, g1328, h1329, h1331, g1332, g1333, g1334, h1335, h1337]
                        repeat with_reducible refine And.intro (by first | kernel_rfl | decide) ?_
                        (try rw [h441] at h1408)
                        (try rw [h445] at h1408)
                        (try rw [h448] at h1408)
                        (try rw [h1278] at h1408)
                        (try rw [h1329] at h1408)
                        (try rw [h1335] at h1408)
                        refine cutQ _ ?_ ⟨n, Nat.lt_succ_self n, _, _, _, h1408, rfl⟩
                        exact Wk_keep [3, 4, 5, 6, 12, 105, 106, 107] (by kernel_rfl)
                    · refine W_sound tab_ok mixed 55 _ _ _ ?_
                      simp -implicitDefEqProofs only [go_sem, Nat.reduceBEq, Nat.reduceAdd, Nat.reduceSub, Nat.reduceMul, Nat.reduceLT, Nat.reduceLeDiff, Int.reduceLE, Int.reduceLT, Int.reduceToNat, Int.reduceBEq, Int.reduceBNe, ↓reduceIte, Int.reduceAdd, Int.reduceSub, Int.reduceGT, Int.reduceGE, h438, g440, h441, g443, g444, h445, g447, h448, g1274, g1275, g1276, g1277, h1278, g1280, g1281, g1282, g1283, h1314, g1315, g1316, g1317, h1318, h1321, h1323, g1325, g1326, g1327, g1328, h1329, h1331]
                      repeat with_reducible refine And.intro (by first | kernel_rfl | decide) ?_
                      (try rw [h441] at h1408)
                      (try rw [h445] at h1408)
                      (try rw [h448] at h1408)
                      (try rw [h1278] at h1408)
                      (try rw [h1329] at h1408)
                      refine cutQ _ ?_ ⟨n, Nat.lt_succ_self n, _, _, _, h1408, rfl⟩
                      exact Wk_keep [3, 4, 5, 6, 12, 105, 106, 107] (by kernel_rfl)
                  · refine W_sound tab_ok mixed 7 _ _ _ ?_
                    simp -implicitDefEqProofs only [go_sem, Nat.reduceBEq, Nat.reduceAdd, Nat.reduceSub, Nat.reduceMul, Nat.reduceLT, Nat.reduceLeDiff, Int.reduceLE, Int.reduceLT, Int.reduceToNat, Int.reduceBEq, Int.reduceBNe, ↓reduceIte, Int.reduceAdd, Int.reduceSub, Int.reduceGT, Int.reduceGE, h438, g440, h441, g443, g444, h445, g447, h448, g1274, g1275, g1276, g1277, h1278, g1280, g1281, g1282, g1283, h1314]
                    repeat with_reducible refine And.intro (by first | kernel_rfl | decide) ?_
                    obtain rfl := Option.some.inj h1408
                    refine cutQ _ ?_ ⟨_, _, rfl, rfl⟩
                    exact Wk_keep [3, 6, 12] (by kernel_rfl)
              · rintro _ ⟨c1340, c1341, rfl, rfl⟩
                (try dsimp only at h1409)
                refine W_sound tab_ok mixed 9 _ _ _ ?_
                simp -implicitDefEqProofs only [go_sem, Nat.reduceBEq, Nat.reduceAdd, Nat.reduceSub, Nat.reduceMul, Nat.reduceLT, Nat.reduceLeDiff, Int.reduceLE, Int.reduceLT, Int.reduceToNat, Int.reduceBEq, Int.reduceBNe, ↓reduceIte, Int.reduceAdd, Int.reduceSub, Int.reduceGT, Int.reduceGE, h438, g440, h441, g443, g444, h445, g447, h448, g1274, g1275, g1276, g1277, h1278, g1280, g1281, g1282, g1283]
                repeat with_reducible refine And.intro (by first | kernel_rfl | decide) ?_
                have hh := grd_some h1409; clear h1409; obtain ⟨g1342, h1409⟩ := hh
                refine FinQ_wk (Wk_freeze 3 c1047 (by rfl) (by decide) (by decide)) ?_
                simp -implicitDefEqProofs only [go_sem, Nat.reduceBEq, Nat.reduceAdd, Nat.reduceSub, Nat.reduceMul, Nat.reduceLT, Nat.reduceLeDiff, Int.reduceLE, Int.reduceLT, Int.reduceToNat, Int.reduceBEq, Int.reduceBNe, ↓reduceIte, Int.reduceAdd, Int.reduceSub, Int.reduceGT, Int.reduceGE, h438, g440, h441, g443, g444, h445, g447, h448, g1274, g1275, g1276, g1277, h1278, g1280, g1281, g1282, g1283, g1342]
                have hh := grd_some h1409; clear h1409; obtain ⟨g1343, h1409⟩ := hh
                refine FinQ_wk (Wk_freeze 4 c1160 (by rfl) (by decide) (by decide)) ?_
                simp -implicitDefEqProofs only [go_sem, Nat.reduceBEq, Nat.reduceAdd, Nat.reduceSub, Nat.reduceMul, Nat.reduceLT, Nat.reduceLeDiff, Int.reduceLE, Int.reduceLT, Int.reduceToNat, Int.reduceBEq, Int.reduceBNe, ↓reduceIte, Int.reduceAdd, Int.reduceSub, Int.reduceGT, Int.reduceGE, h438, g440, h441, g443, g444, h445, g447, h448, g1274, g1275, g1276, g1277, h1278, g1280, g1281, g1282, g1283, g1342, g1343]
                have hh := grd_some h1409; clear h1409; obtain ⟨g1344, h1409⟩ := hh
                refine FinQ_wk (Wk_freeze 5 c1273 (by rfl) (by decide) (by decide)) ?_
                simp -implicitDefEqProofs only [go_sem, Nat.reduceBEq, Nat.reduceAdd, Nat.reduceSub, Nat.reduceMul, Nat.reduceLT, Nat.reduceLeDiff, Int.reduceLE, Int.reduceLT, Int.reduceToNat, Int.reduceBEq, Int.reduceBNe, ↓reduceIte, Int.reduceAdd, Int.reduceSub, Int.reduceGT, Int.reduceGE, h438, g440, h441, g443, g444, h445, g447, h448, g1274, g1275, g1276, g1277, h1278, g1280, g1281, g1282, g1283, g1342, g1343, g1344]
                refine FinQ_wk (Wk_freeze 1 [(.lst false n1046 c1047), (.lst false n1159 c1160), (.lst false n1272 c1273)] (by rfl) (by decide) (by decide)) ?_
                simp -implicitDefEqProofs only [go_sem, Nat.reduceBEq, Nat.reduceAdd, Nat.reduceSub, Nat.reduceMul, Nat.reduceLT, Nat.reduceLeDiff, Int.reduceLE, Int.reduceLT, Int.reduceToNat, Int.reduceBEq, Int.reduceBNe, ↓reduceIte, Int.reduceAdd, Int.reduceSub, Int.reduceGT, Int.reduceGE, h438, g440, h441, g443, g444, h445, g447, h448, g1274, g1275, g1276, g1277, h1278, g1280, g1281, g1282, g1283, g1342, g1343, g1344]
                have hh := grd_some h1409; clear h1409; obtain ⟨g1345, h1409⟩ := hh
                refine FinQ_wk (Wk_freeze 6 c1340 (by rfl) (by decide) (by decide)) ?_
                simp -implicitDefEqProofs only [go_sem, Nat.reduceBEq, Nat.reduceAdd, Nat.reduceSub, Nat.reduceMul, Nat.reduceLT, Nat.reduceLeDiff, Int.reduceLE, Int.reduceLT, Int.reduceToNat, Int.reduceBEq, Int.reduceBNe, ↓reduceIte, Int.reduceAdd, Int.reduceSub, Int.reduceGT, Int.reduceGE, h438, g440, h441, g443, g444, h445, g447, h448, g1274, g1275, g1276, g1277, h1278, g1280, g1281, g1282, g1283, g1342, g1343, g1344, g1345]
                have hh := grd_some h1409; clear h1409; obtain ⟨g1346, h1409⟩ := hh
                refine FinQ_wk (Wk_freeze 7 c1341 (by rfl) (by decide) (by decide)) ?_
                simp -implicitDefEqProofs only [go_sem, Nat.reduceBEq, Nat.reduceAdd, Nat.reduceSub, Nat.reduceMul, Nat.reduceLT, Nat.reduceLeDiff, Int.reduceLE, Int.reduceLT, Int.reduceToNat, Int.reduceBEq, Int.reduceBNe, ↓reduceIte, Int.reduceAdd, Int.reduceSub, Int.reduceGT, Int.reduceGE, h438, g440, h441, g443, g444, h445, g447, h448, g1274, g1275, g1276, g1277, h1278, g1280, g1281, g1282, g1283, g1342, g1343, g1344, g1345, g1346]
                refine FinQ_wk (Wk_freeze 0 [(.lst false 3 c1340), (.lst false (Int.toNat (IntKind.i64.wrap (1 + (Int.tmod (IntKind.i64.wrap x446) 4)))) c1341)] (by rfl) (by decide) (by decide)) ?_
                simp -implicitDefEqProofs only [go_sem, Nat.reduceBEq, Nat.reduceAdd, Nat.reduceSub, Nat.reduceMul, Nat.reduceLT, Nat.reduceLeDiff, Int.reduceLE, Int.reduceLT, Int.reduceToNat, Int.reduceBEq, Int.reduceBNe, ↓reduceIte, Int.reduceAdd, Int.reduceSub, Int.reduceGT, Int.reduceGE, h438, g440, h441, g443, g444, h445, g447, h448, g1274, g1275, g1276, g1277, h1278, g1280, g1281, g1282, g1283, g1342, g1343, g1344, g1345, g1346]
                obtain rfl := Option.some.inj h1409
                exact finC [(2, .v (.lst false 3 [(.lst false n1046 c1047), (.lst false n1159 c1160), (.lst false n1272 c1273)])), (3, .v (.ipt [(.lst false 3 c1340), (.lst false (Int.toNat (IntKind.i64.wrap (1 + (Int.tmod (IntKind.i64.wrap x446) 4)))) c1341)]))] [(2, .v (.lst false 3 [(.lst false n1046 c1047), (.lst false n1159 c1160), (.lst false n1272 c1273)])), (3, .v (.ipt [(.lst false 3 c1340), (.lst false (Int.toNat (IntKind.i64.wrap (1 + (Int.tmod (IntKind.i64.wrap x446) 4)))) c1341)]))] (by simp [leE, lk_cons]) (.cons _ _ _ _ _ (.v _ _ (.refl _)) (.cons _ _ _ _ _ (.v _ _ (.refl _)) .nil)) (by rfl) (by simp [leE, lk_cons]) (by decide) (by decide) rfl (by simp only [go_sem, Nat.reduceBEq, Nat.reduceAdd, Nat.reduceSub, Nat.reduceMul, Nat.reduceLT, Nat.reduceLeDiff, Int.reduceLE, Int.reduceLT, Int.reduceToNat, Int.reduceBEq, Int.reduceBNe, ↓reduceIte, resQ_tmp, resQ_cell, resQ_nil, retD_one, retD_two, retD_three, retD_none]; (try simp [R.val, retD_one, retD_two, retD_three, retD_none]); try assumption)
      · skip
        cases h
end Go.Proofs.Yteidcinajdehkaa
