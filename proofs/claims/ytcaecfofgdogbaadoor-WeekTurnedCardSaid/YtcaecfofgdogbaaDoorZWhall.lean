/-
  Hall's theorem for at most five streets: sets in which all have as many, and all stand as often: there are rows.
-/
import Derived.Test.YtcaecfofgdogbaaDoorZWpB
import Derived.Test.YtcaecfofgdogbaaDoorZV39
import Derived.Test.YtcaecfofgdogbaaDoorZV36
set_option linter.unusedSimpArgs false
set_option linter.unusedVariables false
namespace Go.Proofs.YtcaecfofgdogbaaDoor
open Go.V
set_option maxRecDepth 100000
set_option maxHeartbeats 4000000
set_option linter.unusedSimpArgs false
set_option linter.unusedVariables false
attribute [local go_sem] tl1 tl2 tl3 tl4 tl5 tl9 tl17 tl21 tl22 tl23 tl24 tl25 tl27 tl28 tl30 tl31 tl32 tl33 tl35 tl36 tl37 tl38 tl39 tl40 tl42 tl43 tl44 tl45 tl46 tl47 tl48 tl49 tl50 tl51 tl52 tl53 tl54 tl55 tl56 tl57 tl58 tl59 tl61 tl62 tl63 tl64 tl65 tl66 tl67 tl68 tl69 tl70 tl71 tl72 tl73 tl74 tl75 tl76 tl77 tl78 tl79 tl80 tl81 tl82 tl83 tl84 tl85 tl87 tl89 tl90 tl91 tl92 tl93 tl94 tl96 tl97 tl98 tl99 tl100 tl101 tl102 tl103 tl104 tl105 tl106 tl107 tl108 tl109 tl115 tl119
def m73 (N : Nat) (x1236 : Int) (x1237 : Int) (x1238 : Int) : Option (PV) :=
  brn (decide (x1236 ≥ x1237)) (
    some (.bool (decide (x1236 ≤ x1238)))) (
    some (.bool false))
def m92_L0 (N : Nat) (x1271 : Int) (n1273 : Nat) (c1274 : List PV) : Nat → Int → Option ((PV ⊕ Unit))
  | 0, _ => none
  | n + 1, x1275 =>
    brn (decide (x1275 < ((n1273 : Nat) : Int))) (
      grd (0 ≤ x1275 ∧ x1275 < ((n1273 : Nat) : Int)) <|
      grd (0 < List.length (List.drop (Int.toNat x1275) c1274)) <|
      getI .i64 (gp c1274 (Int.toNat x1275)) fun x1281 =>
      brn (x1281 == x1271) (
        some (.inl (.bool true))) (
        m92_L0 N x1271 n1273 c1274 n (IntKind.i64.wrap (x1275 + 1)))) (
      some (.inr ()))
def m92 (N : Nat) (p1270 : PV) (x1271 : Int) : Option (PV) :=
  getL p1270 fun n1273 c1274 =>
  bnd' (m92_L0 N x1271 n1273 c1274 N 0) fun o =>
  match o with
  | .inl p1283 =>
    some p1283
  | .inr () =>
    some (.bool false)
def m63_L0 (N : Nat) (x1295 : Int) (x1296 : Int) (n1298 : Nat) (c1299 : List PV) : Nat → Int → Option ((PV ⊕ Unit))
  | 0, _ => none
  | n + 1, x1300 =>
    brn (decide (x1300 < ((n1298 : Nat) : Int))) (
      grd (0 ≤ x1300 ∧ x1300 < ((n1298 : Nat) : Int)) <|
      grd (0 < List.length (List.drop (Int.toNat x1300) c1299)) <|
      getL (gp c1299 (Int.toNat x1300)) fun n1306 c1307 =>
      brn (decide (x1295 < ((n1306 : Nat) : Int))) (
        grd (0 ≤ x1295 ∧ x1295 < ((n1306 : Nat) : Int)) <|
        grd (0 < List.length (List.drop (Int.toNat x1295) c1307)) <|
        getI .i64 (gp c1307 (Int.toNat x1295)) fun x1313 =>
        brn (x1313 == x1296) (
          some (.inl (.bool true))) (
          m63_L0 N x1295 x1296 n1298 c1299 n (IntKind.i64.wrap (x1300 + 1)))) (
        m63_L0 N x1295 x1296 n1298 c1299 n (IntKind.i64.wrap (x1300 + 1)))) (
      some (.inr ()))
def m63 (N : Nat) (p1294 : PV) (x1295 : Int) (x1296 : Int) : Option (PV) :=
  getL p1294 fun n1298 c1299 =>
  bnd' (m63_L0 N x1295 x1296 n1298 c1299 N 0) fun o =>
  match o with
  | .inl p1315 =>
    some p1315
  | .inr () =>
    some (.bool false)
def m68_L1 (N : Nat) (x1230 : Int) (x1232 : Int) (n1234 : Nat) (c1235 : List PV) (x1246 : Int) (n1252 : Nat) (c1253 : List PV) : Nat → Int → Option ((PV ⊕ Unit))
  | 0, _ => none
  | n + 1, x1256 =>
    brn (decide (x1256 < x1232)) (
      grd (0 ≤ x1256 ∧ x1256 < ((n1252 : Nat) : Int)) <|
      grd (0 < List.length (List.drop (Int.toNat x1256) c1253)) <|
      getI .i64 (gp c1253 (Int.toNat x1256)) fun x1262 =>
      bnd' (m73 N x1262 0 (IntKind.i64.wrap (x1230 - 1))) fun p1263 =>
      getB p1263 fun b1266 =>
      brn b1266 (
        grd (x1256 ≤ ((n1252 : Nat) : Int)) <|
        grd (List.length c1253 = n1252) <|
        bnd' (m92 N (.lst false (Int.toNat x1256) (List.take (Int.toNat x1256) c1253)) x1262) fun p1287 =>
        getB p1287 fun b1290 =>
        brn b1290 (
          some (.inl (.int .i64 6))) (
          grd (x1246 ≤ ((n1234 : Nat) : Int)) <|
          grd (List.length c1235 = n1234) <|
          bnd' (m63 N (.lst false (Int.toNat x1246) (List.take (Int.toNat x1246) c1235)) x1256 x1262) fun p1319 =>
          getB p1319 fun b1322 =>
          brn b1322 (
            some (.inl (.int .i64 13))) (
            m68_L1 N x1230 x1232 n1234 c1235 x1246 n1252 c1253 n (IntKind.i64.wrap (x1256 + 1))))) (
        some (.inl (.int .i64 2)))) (
      some (.inr ()))
def m68_L0 (N : Nat) (x1230 : Int) (x1232 : Int) (n1234 : Nat) (c1235 : List PV) : Nat → Int → Option ((PV ⊕ Unit))
  | 0, _ => none
  | n + 1, x1246 =>
    brn (decide (x1246 < ((n1234 : Nat) : Int))) (
      grd (0 ≤ x1246 ∧ x1246 < ((n1234 : Nat) : Int)) <|
      grd (0 < List.length (List.drop (Int.toNat x1246) c1235)) <|
      getL (gp c1235 (Int.toNat x1246)) fun n1252 c1253 =>
      brn (((n1252 : Nat) : Int) != x1232) (
        some (.inl (.int .i64 5))) (
        brn (decide (x1232 > x1230)) (
          some (.inl (.int .i64 5))) (
          bnd' (m68_L1 N x1230 x1232 n1234 c1235 x1246 n1252 c1253 N 0) fun o =>
          match o with
          | .inl p1324 =>
            some (.inl p1324)
          | .inr () =>
            m68_L0 N x1230 x1232 n1234 c1235 n (IntKind.i64.wrap (x1246 + 1))))) (
      some (.inr ()))
def m68 (N : Nat) (x1230 : Int) (p1231 : PV) (x1232 : Int) : Option (PV) :=
  getL p1231 fun n1234 c1235 =>
  bnd' (m73 N x1230 1 5) fun p1240 =>
  getB p1240 fun b1243 =>
  brn b1243 (
    brn (decide (((n1234 : Nat) : Int) > x1230)) (
      some (.int .i64 3)) (
      bnd' (m68_L0 N x1230 x1232 n1234 c1235 N 0) fun o =>
      match o with
      | .inl p1325 =>
        some p1325
      | .inr () =>
        some (.int .i64 0))) (
    some (.int .i64 1))
def m24 (N : Nat) (x1225 : Int) (p1226 : PV) : Option (PV) :=
  getL p1226 fun n1228 c1229 =>
  bnd' (m68 N x1225 (.lst false n1228 c1229) x1225) fun p1332 =>
  getI .i64 p1332 fun x1335 =>
  some (.int .i64 x1335)
def m66 (N : Nat) (x1454 : Int) (p1455 : PV) : Option (PV) :=
  getL p1455 fun n1457 c1458 =>
  bnd' (m24 N x1454 (.lst false n1457 c1458)) fun p1459 =>
  getI .i64 p1459 fun x1462 =>
  brn (x1462 == 0) (
    brn (((n1457 : Nat) : Int) == x1454) (
      some (.int .i64 16)) (
      some (.int .i64 x1462))) (
    some (.int .i64 x1462))
def m91_L0 (N : Nat) (rec : Int → PV → Option (PV)) (x1475 : Int) (n1478 : Nat) (c1479 : List PV) : Nat → Nat → Int → List PV → Option ((Nat × List PV))
  | 0, _, _, _ => none
  | n + 1, n1535, x1536, c1537 =>
    brn (decide (x1536 < x1475)) (
      bnd' (m92 N (.lst false n1478 c1479) x1536) fun p1539 =>
      getB p1539 fun b1542 =>
      brn b1542 (
        m91_L0 N rec x1475 n1478 c1479 n n1535 (IntKind.i64.wrap (x1536 + 1)) c1537) (
        grd (List.length c1479 = n1478) <|
        brn (decide (0 < n1478)) (
          grd (n1478 ≤ 1099511627776) <|
          grd ((n1478 + 1) ≤ 1099511627776) <|
          bnd' (rec x1475 (.lst false (n1478 + 1) (c1479 ++ [(.int .i64 x1536)]))) fun p1548 =>
          getL p1548 fun n1551 c1552 =>
          grd (List.length c1552 = n1551) <|
          grd ((n1535 + n1551) ≤ 1099511627776) <|
          grd (List.length c1537 = n1535) <|
          m91_L0 N rec x1475 n1478 c1479 n (n1535 + n1551) (IntKind.i64.wrap (x1536 + 1)) (c1537 ++ c1552)) (
          grd (n1478 ≤ 1099511627776) <|
          grd ((n1478 + 1) ≤ 1099511627776) <|
          bnd' (rec x1475 (.lst false (n1478 + 1) (c1479 ++ [(.int .i64 x1536)]))) fun p1558 =>
          getL p1558 fun n1561 c1562 =>
          grd (List.length c1562 = n1561) <|
          grd ((n1535 + n1561) ≤ 1099511627776) <|
          grd (List.length c1537 = n1535) <|
          m91_L0 N rec x1475 n1478 c1479 n (n1535 + n1561) (IntKind.i64.wrap (x1536 + 1)) (c1537 ++ c1562)))) (
      some (n1535, c1537))
def m91 (N : Nat) : Nat → Int → PV → Option (PV)
  | 0, _, _ => none
  | fu + 1, x1475, p1476 =>
    getL p1476 fun n1478 c1479 =>
    brn (((n1478 : Nat) : Int) == x1475) (
      some (.lst false 1 [(.lst false n1478 c1479)])) (
      bnd' (m91_L0 N (m91 N fu) x1475 n1478 c1479 N 0 0 []) fun o =>
      match o with
      | (n1566, c1567) =>
        grd (List.length c1567 = n1566) <|
        some (.lst false n1566 c1567))
def m67_L1 (N : Nat) (x1470 : Int) (n1473 : Nat) (c1474 : List PV) (n1575 : Nat) (c1576 : List PV) (n1637 : Nat) (x1638 : Int) (c1639 : List PV) : Nat → Bool → Int → Option (Bool)
  | 0, _, _ => none
  | n + 1, b1641, x1642 =>
    brn (decide (x1642 < x1470)) (
      brn b1641 (
        grd (0 ≤ x1638 ∧ x1638 < ((n1575 : Nat) : Int)) <|
        grd (0 < List.length (List.drop (Int.toNat x1638) c1576)) <|
        getL (gp c1576 (Int.toNat x1638)) fun n1649 c1650 =>
        grd (0 ≤ x1642 ∧ x1642 < ((n1649 : Nat) : Int)) <|
        grd (0 < List.length (List.drop (Int.toNat x1642) c1650)) <|
        getI .i64 (gp c1650 (Int.toNat x1642)) fun x1655 =>
        bnd' (m63 N (.lst false n1473 c1474) x1642 x1655) fun p1656 =>
        getB p1656 fun b1659 =>
        brn b1659 (
          m67_L1 N x1470 n1473 c1474 n1575 c1576 n1637 x1638 c1639 n false (IntKind.i64.wrap (x1642 + 1))) (
          m67_L1 N x1470 n1473 c1474 n1575 c1576 n1637 x1638 c1639 n true (IntKind.i64.wrap (x1642 + 1)))) (
        m67_L1 N x1470 n1473 c1474 n1575 c1576 n1637 x1638 c1639 n false (IntKind.i64.wrap (x1642 + 1)))) (
      some b1641)
def m67_L0 (N : Nat) (x1470 : Int) (n1473 : Nat) (c1474 : List PV) (n1575 : Nat) (c1576 : List PV) : Nat → Nat → Int → List PV → Option ((Nat × List PV))
  | 0, _, _, _ => none
  | n + 1, n1637, x1638, c1639 =>
    brn (decide (x1638 < ((n1575 : Nat) : Int))) (
      bnd' (m67_L1 N x1470 n1473 c1474 n1575 c1576 n1637 x1638 c1639 N true 0) fun b1661 =>
      brn b1661 (
        grd (0 ≤ x1638 ∧ x1638 < ((n1575 : Nat) : Int)) <|
        grd (0 < List.length (List.drop (Int.toNat x1638) c1576)) <|
        getL (gp c1576 (Int.toNat x1638)) fun n1667 c1668 =>
        grd ((n1637 + 1) ≤ 1099511627776) <|
        grd (List.length c1639 = n1637) <|
        m67_L0 N x1470 n1473 c1474 n1575 c1576 n (n1637 + 1) (IntKind.i64.wrap (x1638 + 1)) (c1639 ++ [(.lst false n1667 c1668)])) (
        m67_L0 N x1470 n1473 c1474 n1575 c1576 n n1637 (IntKind.i64.wrap (x1638 + 1)) c1639)) (
      some (n1637, c1639))
def m67 (N : Nat) (x1470 : Int) (p1471 : PV) : Option (PV) :=
  getL p1471 fun n1473 c1474 =>
  bnd' (m91 N N x1470 (.lst false 0 [])) fun p1572 =>
  getL p1572 fun n1575 c1576 =>
  bnd' (m67_L0 N x1470 n1473 c1474 n1575 c1576 N 0 0 []) fun o =>
  match o with
  | (n1671, c1672) =>
    grd (List.length c1672 = n1671) <|
    some (.lst false n1671 c1672)
def m26 (N : Nat) (x1690 : Int) (p1691 : PV) : Option (PV) :=
  getL p1691 fun n1693 c1694 =>
  bnd' (m66 N x1690 (.lst false n1693 c1694)) fun p1695 =>
  getI .i64 p1695 fun x1698 =>
  brn (x1698 != 0) (
    some (.tup [(.int .i64 0), (.int .i64 x1698)])) (
    bnd' (m67 N x1690 (.lst false n1693 c1694)) fun p1700 =>
    getL p1700 fun n1703 c1704 =>
    some (.tup [(.int .i64 ((n1703 : Nat) : Int)), (.int .i64 0)]))
def m28_L1 (N : Nat) (x1705 : Int) (n1708 : Nat) (c1709 : List PV) (n1795 : Nat) (x1796 : Int) (c1797 : List PV) : Nat → Int → List PV → Option (List PV)
  | 0, _, _ => none
  | n + 1, x1818, c1819 =>
    brn (decide (x1818 < x1705)) (
      grd (0 ≤ x1796 ∧ x1796 < ((n1708 : Nat) : Int)) <|
      grd (0 < List.length (List.drop (Int.toNat x1796) c1709)) <|
      getL (gp c1709 (Int.toNat x1796)) fun n1825 c1826 =>
      grd (0 ≤ x1818 ∧ x1818 < ((n1825 : Nat) : Int)) <|
      grd (0 < List.length (List.drop (Int.toNat x1818) c1826)) <|
      getI .i64 (gp c1826 (Int.toNat x1818)) fun x1831 =>
      grd (0 ≤ x1831 ∧ x1831 < (((Int.toNat x1705) : Nat) : Int)) <|
      grd (((Int.toNat x1831) + 1) ≤ List.length c1819) <|
      m28_L1 N x1705 n1708 c1709 n1795 x1796 c1797 n (IntKind.i64.wrap (x1818 + 1)) (List.set c1819 (Int.toNat x1831) (.int .i64 x1818))) (
      some c1819)
def m28_L0 (N : Nat) (x1705 : Int) (n1708 : Nat) (c1709 : List PV) : Nat → Nat → Int → List PV → Option ((Nat × List PV))
  | 0, _, _, _ => none
  | n + 1, n1795, x1796, c1797 =>
    brn (decide (x1796 < ((n1708 : Nat) : Int))) (
      grd (0 ≤ x1705 ∧ x1705 ≤ x1705 ∧ x1705 ≤ 1099511627776) <|
      bnd' (m28_L1 N x1705 n1708 c1709 n1795 x1796 c1797 N 0 (List.replicate (Int.toNat x1705) (.int .i64 0))) fun c1835 =>
      grd ((n1795 + 1) ≤ 1099511627776) <|
      grd (List.length c1797 = n1795) <|
      grd (List.length c1835 = (Int.toNat x1705)) <|
      m28_L0 N x1705 n1708 c1709 n (n1795 + 1) (IntKind.i64.wrap (x1796 + 1)) (c1797 ++ [(.lst false (Int.toNat x1705) c1835)])) (
      some (n1795, c1797))
def m28 (N : Nat) (x1705 : Int) (p1706 : PV) : Option (PV) :=
  getL p1706 fun n1708 c1709 =>
  bnd' (m24 N x1705 (.lst false n1708 c1709)) fun p1710 =>
  getI .i64 p1710 fun x1713 =>
  brn (x1713 != 0) (
    some (.tup [(.lst false 0 []), (.int .i64 x1713)])) (
    bnd' (m28_L0 N x1705 n1708 c1709 N 0 0 []) fun o =>
    match o with
    | (n1839, c1840) =>
      grd (List.length c1840 = n1839) <|
      some (.tup [(.lst false n1839 c1840), (.int .i64 0)]))
end Go.Proofs.YtcaecfofgdogbaaDoor
namespace Go.Proofs.YtcaecfofgdogbaaDoor
open Go.V
open Nat renaming reduceBEq → qa, reduceAdd → qb, reduceSub → qc, reduceMul → qd, reduceLT → qe, reduceLeDiff → qf
open Int renaming reduceLE → qg, reduceLT → qh, reduceToNat → qi, reduceBEq → qj, reduceBNe → qk
set_option maxRecDepth 100000
set_option maxHeartbeats 4000000
set_option linter.unusedSimpArgs false
set_option linter.unusedVariables false
attribute [local go_sem] tl1 tl2 tl3 tl4 tl5 tl9 tl17 tl21 tl22 tl23 tl24 tl25 tl27 tl28 tl30 tl31 tl32 tl33 tl35 tl36 tl37 tl38 tl39 tl40 tl42 tl43 tl44 tl45 tl46 tl47 tl48 tl49 tl50 tl51 tl52 tl53 tl54 tl55 tl56 tl57 tl58 tl59 tl61 tl62 tl63 tl64 tl65 tl66 tl67 tl68 tl69 tl70 tl71 tl72 tl73 tl74 tl75 tl76 tl77 tl78 tl79 tl80 tl81 tl82 tl83 tl84 tl85 tl87 tl89 tl90 tl91 tl92 tl93 tl94 tl96 tl97 tl98 tl99 tl100 tl101 tl102 tl103 tl104 tl105 tl106 tl107 tl108 tl109 tl115 tl119
def getA7 {α : Type} (p : PV) (k : PV → PV → PV → PV → PV → PV → PV → Option α) : Option α := match p with | .agg [a0, a1, a2, a3, a4, a5, a6] => k a0 a1 a2 a3 a4 a5 a6 | _ => none
theorem getA7_some {α : Type} {p : PV} {k : PV → PV → PV → PV → PV → PV → PV → Option α} {r : α} (h : getA7 p k = some r) : ∃ a0 a1 a2 a3 a4 a5 a6, p = .agg [a0, a1, a2, a3, a4, a5, a6] ∧ k a0 a1 a2 a3 a4 a5 a6 = some r := by
  unfold getA7 at h; split at h
  · exact ⟨_, _, _, _, _, _, _, rfl, h⟩
  · cases h
def m86_L0 (N : Nat) (x1244 : Int) (n1246 : Nat) (c1247 : List PV) : Nat → Int → Option ((PV ⊕ Unit))
  | 0, _ => none
  | n + 1, x1248 =>
    brn (decide (x1248 < ((n1246 : Nat) : Int))) (
      grd (0 ≤ x1248 ∧ x1248 < ((n1246 : Nat) : Int)) <|
      grd (0 < List.length (List.drop (Int.toNat x1248) c1247)) <|
      getI .i64 (gp c1247 (Int.toNat x1248)) fun x1254 =>
      brn (x1244 == x1254) (
        some (.inl (.int .i64 x1248))) (
        m86_L0 N x1244 n1246 c1247 n (IntKind.i64.wrap (x1248 + 1)))) (
      some (.inr ()))
def m86 (N : Nat) (p1243 : PV) (x1244 : Int) : Option (PV) :=
  getL p1243 fun n1246 c1247 =>
  bnd' (m86_L0 N x1244 n1246 c1247 N 0) fun o =>
  match o with
  | .inl p1256 =>
    some p1256
  | .inr () =>
    some (.int .i64 (-1))
theorem c86 (N : Nat) (p1243 : PV) (x1244 : Int) (r : PV)  (h : m86 N p1243 x1244 = some r) : FnP Tryd.prog 86 [p1243, (.int .i64 x1244)] r := by
  unfold m86 at h
  refine Fn_of (sz := 19) tab_ok [0, 1, 4, 5, 7, 8, 9, 16] [.tmp 4] Tryd.func86 rfl rfl rfl (by simp) ?_
  simp only [initSt, initEnv, List.map_cons, List.map_nil, List.getD_cons_zero, List.getD_cons_succ, List.getD_nil]
  have hh := getL_some h; clear h; obtain ⟨n1246, c1247, h1245, h⟩ := hh
  refine W_sound tab_ok mixed 11 _ _ _ ?_
  simp -implicitDefEqProofs only [go_sem, qa, qb, qc, qd, qe, qf, qg, qh, qi, qj, qk, ↓reduceIte, h1245]
  repeat with_reducible refine ⟨by first | kernel_rfl | decide, ?_⟩
  have hh := bnd'_some h; clear h; obtain ⟨o1257, h1258, h1259⟩ := hh
  refine Wp_cut (fun s => (.inr ()) = o1257 ∧ s = ⟨[], [(0, .dead), (1, .dead), (4, .dead), (5, .dead), (7, .dead), (8, .dead), (9, .dead), (16, .dead)], [], 0, []⟩) ?_ ?_
  · refine Wp_block ?_
    refine Wp_loopG (fun n s => ∃ x1248, m86_L0 N x1244 n1246 c1247 n x1248 = some o1257 ∧ s = ⟨[], [(0, .v (.lst false n1246 c1247)), (1, .v (.int .i64 x1244)), (4, .dead), (5, .dead), (7, .v (.int .i64 ((n1246 : Nat) : Int))), (8, .v (.int .i64 x1248)), (9, .dead), (16, .dead)], [], 0, []⟩) N _ ((Wk_le (.r (.r (.k (.r (.r (.r (.r (.r .nil)))))))) (OLe.refl _)).trans (cmpS_ok (st' := ⟨[], [(0, .v (.lst false n1246 c1247)), (1, .v (.int .i64 x1244)), (4, .dead), (5, .dead), (7, .v (.int .i64 ((n1246 : Nat) : Int))), (8, .v (.int .i64 0)), (9, .dead), (16, .dead)], [], 0, []⟩) (by kernel_rfl))) ⟨_, h1258, rfl⟩ ?_
    clear h1258
    rintro n _ ⟨x1248, h1258, rfl⟩
    cases n with
    | zero => cases h1258
    | succ n =>
      rw [m86_L0] at h1258
      have hh := brn_some h1258; clear h1258; rcases hh with ⟨h1249, h1258⟩ | ⟨h1249, h1258⟩
      · have hh := grd_some h1258; clear h1258; obtain ⟨⟨g1250, g1251⟩, h1258⟩ := hh
        have hh := grd_some h1258; clear h1258; obtain ⟨g1252, h1258⟩ := hh
        have hh := getI_some h1258; clear h1258; obtain ⟨x1254, h1253, h1258⟩ := hh
        have hh := brn_some h1258; clear h1258; rcases hh with ⟨h1255, h1258⟩ | ⟨h1255, h1258⟩
        · refine W_sound tab_ok mixed 31 _ _ _ ?_
          simp -implicitDefEqProofs only [go_sem, qa, qb, qc, qd, qe, qf, qg, qh, qi, qj, qk, ↓reduceIte, h1245, h1249, g1250, g1251, g1252, h1253, h1255]
          repeat with_reducible refine ⟨by first | kernel_rfl | decide, ?_⟩
          obtain rfl := Option.some.inj h1258
          (try dsimp only at h1259)
          obtain rfl := Option.some.inj h1259
          exact finC [(4, .v (.int .i64 x1248))] [(4, .v (.int .i64 x1248))] (by simp [leE, lk_cons]) (.cons _ _ _ _ _ (.v _ _ (.refl _)) .nil) (by rfl) (by simp [leE, lk_cons]) (by decide) (by decide) rfl (by simp only [go_sem, qa, qb, qc, qd, qe, qf, qg, qh, qi, qj, qk, ↓reduceIte, resQ_tmp, resQ_cell, resQ_nil, retD_one, retD_two, retD_three, retD_none]; try simp [R.val, retD_one, retD_two, retD_three, retD_none])
        · refine W_sound tab_ok mixed 30 _ _ _ ?_
          simp -implicitDefEqProofs only [go_sem, qa, qb, qc, qd, qe, qf, qg, qh, qi, qj, qk, ↓reduceIte, h1245, h1249, g1250, g1251, g1252, h1253, h1255]
          repeat with_reducible refine ⟨by first | kernel_rfl | decide, ?_⟩
          exact cutQ _ ((Wk_le (.r (.r (.r (.k (.r (.r (.k (.k .nil)))))))) (OLe.refl _)).trans (cmpS_ok (st' := ⟨[], [(0, .v (.lst false n1246 c1247)), (1, .v (.int .i64 x1244)), (4, .dead), (5, .dead), (7, .v (.int .i64 ((n1246 : Nat) : Int))), (8, .v (.int .i64 (IntKind.i64.wrap (x1248 + 1)))), (9, .dead), (16, .dead)], [], 0, []⟩) (by kernel_rfl))) ⟨n, Nat.lt_succ_self n, _, h1258, rfl⟩
      · refine W_sound tab_ok mixed 7 _ _ _ ?_
        simp -implicitDefEqProofs only [go_sem, qa, qb, qc, qd, qe, qf, qg, qh, qi, qj, qk, ↓reduceIte, h1245, h1249]
        repeat with_reducible refine ⟨by first | kernel_rfl | decide, ?_⟩
        obtain rfl := Option.some.inj h1258
        exact cutQ _ ((Wk_le (.k (.k (.r (.r (.k (.k (.k (.r .nil)))))))) (OLe.refl _)).trans (cmpS_ok (st' := ⟨[], [(0, .dead), (1, .dead), (4, .dead), (5, .dead), (7, .dead), (8, .dead), (9, .dead), (16, .dead)], [], 0, []⟩) (by kernel_rfl))) ⟨rfl, rfl⟩
  · rintro _ ⟨rfl, rfl⟩
    (try dsimp only at h1259)
    refine W_sound tab_ok mixed 6 _ _ _ ?_
    simp -implicitDefEqProofs only [go_sem, qa, qb, qc, qd, qe, qf, qg, qh, qi, qj, qk, ↓reduceIte, h1245]
    repeat with_reducible refine ⟨by first | kernel_rfl | decide, ?_⟩
    obtain rfl := Option.some.inj h1259
    exact finC [(4, .v (.int .i64 (-1)))] [(4, .v (.int .i64 (-1)))] (by simp [leE, lk_cons]) (.cons _ _ _ _ _ (.v _ _ (.refl _)) .nil) (by rfl) (by simp [leE, lk_cons]) (by decide) (by decide) rfl (by simp only [go_sem, qa, qb, qc, qd, qe, qf, qg, qh, qi, qj, qk, ↓reduceIte, resQ_tmp, resQ_cell, resQ_nil, retD_one, retD_two, retD_three, retD_none]; try simp [R.val, retD_one, retD_two, retD_three, retD_none])
def m57 (N : Nat) (p1238 : PV) (x1239 : Int) : Option (PV) :=
  getL p1238 fun n1241 c1242 =>
  bnd' (m86 N (.lst false n1241 c1242) x1239) fun p1260 =>
  getI .i64 p1260 fun x1263 =>
  some (.bool (decide (x1263 ≥ 0)))
theorem c57 (N : Nat) (p1238 : PV) (x1239 : Int) (r : PV)  (h : m57 N p1238 x1239 = some r) : FnP Tryd.prog 57 [p1238, (.int .i64 x1239)] r := by
  unfold m57 at h
  refine Fn_of (sz := 9) tab_ok [0, 1, 4] [.tmp 4] Tryd.func57 rfl rfl rfl (by simp) ?_
  simp only [initSt, initEnv, List.map_cons, List.map_nil, List.getD_cons_zero, List.getD_cons_succ, List.getD_nil]
  have hh := getL_some h; clear h; obtain ⟨n1241, c1242, h1240, h⟩ := hh
  have hh := bnd'_some h; clear h; obtain ⟨p1260, h1261, h⟩ := hh
  refine W_sound tab_ok mixed 8 _ _ _ ?_
  simp -implicitDefEqProofs only [go_sem, qa, qb, qc, qd, qe, qf, qg, qh, qi, qj, qk, ↓reduceIte, h1240]
  repeat with_reducible refine ⟨by first | kernel_rfl | decide, ?_⟩
  refine Wp_callP (c86 N _ _ _ h1261) (by kernel_rfl) rfl rfl rfl rfl (by decide) ?_
  have hh := getI_some h; clear h; obtain ⟨x1263, h1262, h⟩ := hh
  refine W_sound tab_ok mixed 5 _ _ _ ?_
  simp -implicitDefEqProofs only [go_sem, qa, qb, qc, qd, qe, qf, qg, qh, qi, qj, qk, ↓reduceIte, h1240, h1262]
  repeat with_reducible refine ⟨by first | kernel_rfl | decide, ?_⟩
  obtain rfl := Option.some.inj h
  exact finC [(4, .v (.bool (decide (x1263 ≥ 0))))] [(4, .v (.bool (decide (x1263 ≥ 0))))] (by simp [leE, lk_cons]) (.cons _ _ _ _ _ (.v _ _ (.refl _)) .nil) (by rfl) (by simp [leE, lk_cons]) (by decide) (by decide) rfl (by simp only [go_sem, qa, qb, qc, qd, qe, qf, qg, qh, qi, qj, qk, ↓reduceIte, resQ_tmp, resQ_cell, resQ_nil, retD_one, retD_two, retD_three, retD_none]; try simp [R.val, retD_one, retD_two, retD_three, retD_none])
def m79_9_L1 (N : Nat) (rec : PV → List PV → Nat → List PV → Nat → List PV → Option ((List PV × Nat × Nat × List PV × List PV))) (n2513 : Nat) (c2514 : List PV) (x2517 : Int) (x2559 : Int) (c2560 : List PV) (n2561 : Nat) (n2562 : Nat) (c2563 : List PV) (c2564 : List PV) : Nat → Bool → Int → Option (Bool)
  | 0, _, _ => none
  | n + 1, b2570, x2571 =>
    brn (decide (x2571 < ((n2562 : Nat) : Int))) (
      grd (0 ≤ x2571 ∧ x2571 < ((n2562 : Nat) : Int)) <|
      grd ((Int.toNat x2571) < List.length c2563) <|
      getL (gp c2563 (Int.toNat x2571)) fun n2577 c2578 =>
      brn b2570 (
        m79_9_L1 N rec n2513 c2514 x2517 x2559 c2560 n2561 n2562 c2563 c2564 n true (IntKind.i64.wrap (x2571 + 1))) (
        grd (0 ≤ ((n2513 : Nat) : Int) ∧ ((n2513 : Nat) : Int) < ((n2577 : Nat) : Int)) <|
        grd (0 < List.length (List.drop n2513 c2578)) <|
        getI .i64 (gp c2578 n2513) fun x2584 =>
        m79_9_L1 N rec n2513 c2514 x2517 x2559 c2560 n2561 n2562 c2563 c2564 n (x2584 == x2559) (IntKind.i64.wrap (x2571 + 1)))) (
      some b2570)
def m79_9_L0 (N : Nat) (rec : PV → List PV → Nat → List PV → Nat → List PV → Option ((List PV × Nat × Nat × List PV × List PV))) (n2513 : Nat) (c2514 : List PV) (x2517 : Int) : Nat → Int → List PV → Nat → Nat → List PV → List PV → Option ((List PV × Nat × Nat × List PV × List PV))
  | 0, _, _, _, _, _, _ => none
  | n + 1, x2559, c2560, n2561, n2562, c2563, c2564 =>
    brn (decide (x2559 < x2517)) (
      bnd' (m57 N (.lst false n2513 c2514) x2559) fun p2566 =>
      getB p2566 fun b2569 =>
      bnd' (m79_9_L1 N rec n2513 c2514 x2517 x2559 c2560 n2561 n2562 c2563 c2564 N b2569 0) fun b2585 =>
      brn b2585 (
        m79_9_L0 N rec n2513 c2514 x2517 n (IntKind.i64.wrap (x2559 + 1)) c2560 n2561 n2562 c2563 c2564) (
        grd (0 ≤ ((n2513 : Nat) : Int) ∧ ((n2513 : Nat) : Int) ≤ ((n2513 : Nat) : Int)) <|
        grd (List.length c2514 = n2513) <|
        grd ((n2513 + 1) ≤ 1099511627776) <|
        bnd' (rec (.lst false (n2513 + 1) (c2514 ++ [(.int .i64 x2559)])) c2560 n2561 c2564 n2562 c2563) fun o =>
        match o with
        | (c2592, n2593, n2594, c2595, c2596) =>
          m79_9_L0 N rec n2513 c2514 x2517 n (IntKind.i64.wrap (x2559 + 1)) c2592 n2593 n2594 c2595 c2596)) (
      some (c2560, n2561, n2562, c2563, c2564))
def m79_9 (N : Nat) : Nat → PV → List PV → Nat → List PV → Nat → List PV → Option ((List PV × Nat × Nat × List PV × List PV))
  | 0, _, _, _, _, _, _ => none
  | fu + 1, p2506, c2507, n2508, c2509, n2510, c2511 =>
    getL p2506 fun n2513 c2514 =>
    grd (0 < List.length c2507) <|
    getI .i64 (gp c2507 0) fun x2517 =>
    brn (((n2513 : Nat) : Int) == x2517) (
      grd ((n2508 + 1) ≤ 1099511627776) <|
      grd (List.length c2509 = n2508) <|
      some (c2507, (n2508 + 1), n2510, c2511, (c2509 ++ [(.lst false n2513 c2514)]))) (
      bnd' (m79_9_L0 N (m79_9 N fu) n2513 c2514 x2517 N 0 c2507 n2508 n2510 c2511 c2509) fun o =>
      match o with
      | (c2597, n2598, n2599, c2600, c2601) =>
        some (c2597, n2598, n2599, c2600, c2601))
theorem c79_9 (N : Nat) : ∀ (fu : Nat) (p2506 : PV) (c2507 : List PV) (n2508 : Nat) (c2509 : List PV) (n2510 : Nat) (c2511 : List PV) (r : (List PV × Nat × Nat × List PV × List PV))  (h : m79_9 N fu p2506 c2507 n2508 c2509 n2510 c2511 = some r), V.Fn Tryd.prog 79 6 [.v p2506, .ptr 0 0, .ptr 1 0, .ptr 3 0, .ptr 5 0] [(0, .p c2507), (1, .r [.sl false 2 0 n2508 1]), (2, .p c2509), (3, .r [.sl false 4 0 n2510 1]), (4, .p c2511), (5, .r [.fn 79 [.ptr 0 0, .ptr 1 0, .ptr 3 0, .ptr 5 0]])] (fun d ob' => match (generalizing := false) r with | (c2420, n2421, n2422, c2423, c2424) => d = .v (.tup []) ∧ ob' = [(0, .p c2420), (1, .r [.sl false 6 0 n2421 1]), (3, .r [.sl false 4 0 n2422 1]), (4, .p c2423), (5, .r [.fn 79 [.ptr 0 0, .ptr 1 0, .ptr 3 0, .ptr 5 0]]), (6, .p c2424)]) := by
  intro fu
  induction fu with
  | zero => intro p2506 c2507 n2508 c2509 n2510 c2511 r h; cases h
  | succ fu ih =>
    intro p2506 c2507 n2508 c2509 n2510 c2511 r h
    rw [m79_9] at h
    refine Fn_of (sz := 56) tab_ok [0, 1, 2, 3, 4, 6, 7, 9, 13, 18, 19, 20, 25, 26, 27, 28, 43] [] Tryd.func79 rfl rfl rfl (by simp) ?_
    simp only [initSt, initEnv, List.map_cons, List.map_nil, List.getD_cons_zero, List.getD_cons_succ, List.getD_nil]
    have hh := getL_some h; clear h; obtain ⟨n2513, c2514, h2512, h⟩ := hh
    simp only [h2512]
    refine Wp_wkK (cmpT_ok (st' := ⟨[], [(0, .v (.lst false n2513 c2514)), (1, .ptr 0 0), (2, .ptr 1 0), (3, .ptr 3 0), (4, .ptr 5 0), (6, .dead), (7, .dead), (9, .dead), (13, .dead), (18, .dead), (19, .dead), (20, .dead), (25, .dead), (26, .dead), (27, .dead), (28, .dead), (43, .dead)], [(0, .p c2507), (1, .r [.sl false 6 0 n2508 1]), (3, .r [.sl false 4 0 n2510 1]), (4, .p c2511), (5, .r [.fn 79 [.ptr 0 0, .ptr 1 0, .ptr 3 0, .ptr 5 0]]), (6, .p c2509)], 7, []⟩) [0, 1, 1000000002, 3, 4, 5, 2] (by kernel_rfl)) rfl ?_
    have hh := grd_some h; clear h; obtain ⟨g2515, h⟩ := hh
    have hh := getI_some h; clear h; obtain ⟨x2517, h2516, h⟩ := hh
    have hh := brn_some h; clear h; rcases hh with ⟨h2518, h⟩ | ⟨h2518, h⟩
    · have hh := grd_some h; clear h; obtain ⟨g2519, h⟩ := hh
      have hh := grd_some h; clear h; obtain ⟨g2520, h⟩ := hh
      refine W_sound tab_ok mixed 19 _ _ _ ?_
      simp -implicitDefEqProofs only [go_sem, qa, qb, qc, qd, qe, qf, qg, qh, qi, qj, qk, ↓reduceIte, h2512, g2515, h2516, h2518, g2519, g2520]
      repeat with_reducible refine ⟨by first | kernel_rfl | decide, ?_⟩
      obtain rfl := Option.some.inj h
      exact finD (e2 := [(0, .dead), (1, .dead), (2, .dead), (3, .dead), (4, .dead), (6, .dead), (7, .dead), (9, .dead), (13, .dead), (18, .dead), (19, .dead), (20, .dead), (25, .dead), (26, .dead), (27, .dead), (28, .dead), (43, .dead)]) (ob2 := [(0, .p c2507), (1, .r [.sl false 24 0 (n2508 + 1) 1]), (3, .r [.sl false 4 0 n2510 1]), (4, .p c2511), (5, .r [.fn 79 [.ptr 0 0, .ptr 1 0, .ptr 3 0, .ptr 5 0]]), (23, .p [(.lst false n2513 c2514)]), (24, .p (c2509 ++ [(.lst false n2513 c2514)]))]) (st' := ⟨[], [(0, .dead), (1, .dead), (2, .dead), (3, .dead), (4, .dead), (6, .dead), (7, .dead), (9, .dead), (13, .dead), (18, .dead), (19, .dead), (20, .dead), (25, .dead), (26, .dead), (27, .dead), (28, .dead), (43, .dead)], [(0, .p c2507), (1, .r [.sl false 6 0 (n2508 + 1) 1]), (3, .r [.sl false 4 0 n2510 1]), (4, .p c2511), (5, .r [.fn 79 [.ptr 0 0, .ptr 1 0, .ptr 3 0, .ptr 5 0]]), (6, .p (c2509 ++ [(.lst false n2513 c2514)]))], 7, []⟩) (.k (.k (.k (.k (.k (.r (.r (.r (.k (.r (.r (.r (.r (.r (.r (.r (.r .nil))))))))))))))))) (.cons _ _ _ _ _ (DLes.refl _) (.cons _ _ _ _ _ (DLes.refl _) (.cons _ _ _ _ _ (DLes.refl _) (.cons _ _ _ _ _ (DLes.refl _) (.cons _ _ _ _ _ (DLes.refl _) (.cons _ _ _ _ _ (DLes.refl _) (.cons _ _ _ _ _ (DLes.refl _) .nil))))))) (by kernel_rfl) (by simp only [go_sem, qa, qb, qc, qd, qe, qf, qg, qh, qi, qj, qk, ↓reduceIte, resQ_tmp, resQ_cell, resQ_nil, retD_one, retD_two, retD_three, retD_none] <;> first | rfl | exact ⟨rfl, rfl⟩ | (try simp [R.val, retD_one, retD_two, retD_three, retD_none]))
    · refine W_sound tab_ok mixed 15 _ _ _ ?_
      simp -implicitDefEqProofs only [go_sem, qa, qb, qc, qd, qe, qf, qg, qh, qi, qj, qk, ↓reduceIte, h2512, g2515, h2516, h2518]
      repeat with_reducible refine ⟨by first | kernel_rfl | decide, ?_⟩
      have hh := bnd'_some h; clear h; obtain ⟨o2607, h2608, h2609⟩ := hh
      refine Wp_cut (fun s => ∃ c2597, ∃ n2598, ∃ n2599, ∃ c2600, ∃ c2601, (c2597, n2598, n2599, c2600, c2601) = o2607 ∧ s = ⟨[], [(0, .dead), (1, .dead), (2, .dead), (3, .dead), (4, .dead), (6, .dead), (7, .dead), (9, .dead), (13, .dead), (18, .dead), (19, .dead), (20, .dead), (25, .dead), (26, .dead), (27, .dead), (28, .dead), (43, .dead)], [(0, .p c2597), (1, .r [.sl false 6 0 n2598 1]), (3, .r [.sl false 4 0 n2599 1]), (4, .p c2600), (5, .r [.fn 79 [.ptr 0 0, .ptr 1 0, .ptr 3 0, .ptr 5 0]]), (6, .p c2601)], 7, []⟩) ?_ ?_
      · refine Wp_block ?_
        refine Wp_loopG (fun n s => ∃ x2559, ∃ c2560, ∃ n2561, ∃ n2562, ∃ c2563, ∃ c2564, m79_9_L0 N (m79_9 N fu) n2513 c2514 x2517 n x2559 c2560 n2561 n2562 c2563 c2564 = some o2607 ∧ s = ⟨[], [(0, .v (.lst false n2513 c2514)), (1, .dead), (2, .dead), (3, .ptr 3 0), (4, .ptr 5 0), (6, .dead), (7, .dead), (9, .dead), (13, .dead), (18, .v (.int .i64 x2517)), (19, .v (.int .i64 x2559)), (20, .dead), (25, .dead), (26, .dead), (27, .dead), (28, .dead), (43, .dead)], [(0, .p c2560), (1, .r [.sl false 6 0 n2561 1]), (3, .r [.sl false 4 0 n2562 1]), (4, .p c2563), (5, .r [.fn 79 [.ptr 0 0, .ptr 1 0, .ptr 3 0, .ptr 5 0]]), (6, .p c2564)], 7, []⟩) N _ ((Wk_le (.r (.k (.k (.r (.r (.r (.r (.r (.k (.r (.r (.r (.r (.r (.r (.r (.r .nil))))))))))))))))) (OLe.refl _)).trans (cmpS_ok (st' := ⟨[], [(0, .v (.lst false n2513 c2514)), (1, .dead), (2, .dead), (3, .ptr 3 0), (4, .ptr 5 0), (6, .dead), (7, .dead), (9, .dead), (13, .dead), (18, .v (.int .i64 x2517)), (19, .v (.int .i64 0)), (20, .dead), (25, .dead), (26, .dead), (27, .dead), (28, .dead), (43, .dead)], [(0, .p c2507), (1, .r [.sl false 6 0 n2508 1]), (3, .r [.sl false 4 0 n2510 1]), (4, .p c2511), (5, .r [.fn 79 [.ptr 0 0, .ptr 1 0, .ptr 3 0, .ptr 5 0]]), (6, .p c2509)], 7, []⟩) (by kernel_rfl))) ⟨_, _, _, _, _, _, h2608, rfl⟩ ?_
        clear h2608
        rintro n _ ⟨x2559, c2560, n2561, n2562, c2563, c2564, h2608, rfl⟩
        cases n with
        | zero => cases h2608
        | succ n =>
          rw [m79_9_L0] at h2608
          have hh := brn_some h2608; clear h2608; rcases hh with ⟨h2565, h2608⟩ | ⟨h2565, h2608⟩
          · have hh := bnd'_some h2608; clear h2608; obtain ⟨p2566, h2567, h2608⟩ := hh
            refine W_sound tab_ok mixed 18 _ _ _ ?_
            simp -implicitDefEqProofs only [go_sem, qa, qb, qc, qd, qe, qf, qg, qh, qi, qj, qk, ↓reduceIte, h2512, g2515, h2516, h2518, h2565]
            repeat with_reducible refine ⟨by first | kernel_rfl | decide, ?_⟩
            refine Wp_callP (c57 N _ _ _ h2567) (by kernel_rfl) rfl rfl rfl rfl (by decide) ?_
            have hh := getB_some h2608; clear h2608; obtain ⟨b2569, h2568, h2608⟩ := hh
            refine W_sound tab_ok mixed 9 _ _ _ ?_
            simp -implicitDefEqProofs only [go_sem, qa, qb, qc, qd, qe, qf, qg, qh, qi, qj, qk, ↓reduceIte, h2512, g2515, h2516, h2518, h2565, h2568]
            repeat with_reducible refine ⟨by first | kernel_rfl | decide, ?_⟩
            have hh := bnd'_some h2608; clear h2608; obtain ⟨o2610, h2611, h2612⟩ := hh
            refine Wp_cut (fun s => ∃ b2585, b2585 = o2610 ∧ s = ⟨[], [(0, .v (.lst false n2513 c2514)), (1, .dead), (2, .dead), (3, .ptr 3 0), (4, .ptr 5 0), (6, .v (.int .i64 x2559)), (7, .v (.bool b2585)), (9, .dead), (13, .dead), (18, .v (.int .i64 x2517)), (19, .v (.int .i64 x2559)), (20, .dead), (25, .dead), (26, .dead), (27, .dead), (28, .dead), (43, .dead)], [(0, .p c2560), (1, .r [.sl false 6 0 n2561 1]), (3, .r [.sl false 4 0 n2562 1]), (4, .p c2563), (5, .r [.fn 79 [.ptr 0 0, .ptr 1 0, .ptr 3 0, .ptr 5 0]]), (6, .p c2564)], 7, []⟩) ?_ ?_
            · refine Wp_block ?_
              refine Wp_loopG (fun n s => ∃ b2570, ∃ x2571, m79_9_L1 N (m79_9 N fu) n2513 c2514 x2517 x2559 c2560 n2561 n2562 c2563 c2564 n b2570 x2571 = some o2610 ∧ s = ⟨[], [(0, .v (.lst false n2513 c2514)), (1, .dead), (2, .dead), (3, .ptr 3 0), (4, .ptr 5 0), (6, .v (.int .i64 x2559)), (7, .v (.bool b2570)), (9, .dead), (13, .dead), (18, .v (.int .i64 x2517)), (19, .v (.int .i64 x2559)), (20, .dead), (25, .sl false 4 0 n2562 1), (26, .v (.int .i64 ((n2562 : Nat) : Int))), (27, .v (.int .i64 x2571)), (28, .dead), (43, .dead)], [(0, .p c2560), (1, .r [.sl false 6 0 n2561 1]), (3, .r [.sl false 4 0 n2562 1]), (4, .p c2563), (5, .r [.fn 79 [.ptr 0 0, .ptr 1 0, .ptr 3 0, .ptr 5 0]]), (6, .p c2564)], 7, []⟩) N _ ((Wk_le (.r (.r (.r (.r (.r (.r (.r (.r (.r (.r (.r (.k (.r (.r (.r (.r (.r .nil))))))))))))))))) (OLe.refl _)).trans (cmpS_ok (st' := ⟨[], [(0, .v (.lst false n2513 c2514)), (1, .dead), (2, .dead), (3, .ptr 3 0), (4, .ptr 5 0), (6, .v (.int .i64 x2559)), (7, .v (.bool b2569)), (9, .dead), (13, .dead), (18, .v (.int .i64 x2517)), (19, .v (.int .i64 x2559)), (20, .dead), (25, .sl false 4 0 n2562 1), (26, .v (.int .i64 ((n2562 : Nat) : Int))), (27, .v (.int .i64 0)), (28, .dead), (43, .dead)], [(0, .p c2560), (1, .r [.sl false 6 0 n2561 1]), (3, .r [.sl false 4 0 n2562 1]), (4, .p c2563), (5, .r [.fn 79 [.ptr 0 0, .ptr 1 0, .ptr 3 0, .ptr 5 0]]), (6, .p c2564)], 7, []⟩) (by kernel_rfl))) ⟨_, _, h2611, rfl⟩ ?_
              clear h2611
              rintro n _ ⟨b2570, x2571, h2611, rfl⟩
              cases n with
              | zero => cases h2611
              | succ n =>
                rw [m79_9_L1] at h2611
                have hh := brn_some h2611; clear h2611; rcases hh with ⟨h2572, h2611⟩ | ⟨h2572, h2611⟩
                · have hh := grd_some h2611; clear h2611; obtain ⟨⟨g2573, g2574⟩, h2611⟩ := hh
                  have hh := grd_some h2611; clear h2611; obtain ⟨g2575, h2611⟩ := hh
                  have hh := getL_some h2611; clear h2611; obtain ⟨n2577, c2578, h2576, h2611⟩ := hh
                  have hh := brn_some h2611; clear h2611; rcases hh with ⟨h2579, h2611⟩ | ⟨h2579, h2611⟩
                  · refine W_sound tab_ok mixed 33 _ _ _ ?_
                    simp -implicitDefEqProofs only [go_sem, qa, qb, qc, qd, qe, qf, qg, qh, qi, qj, qk, ↓reduceIte, h2512, g2515, h2516, h2518, h2565, h2568, h2572, g2573, g2574, g2575, h2576, h2579]
                    repeat with_reducible refine ⟨by first | kernel_rfl | decide, ?_⟩
                    exact cutQ _ ((Wk_le (.r (.r (.r (.r (.r (.r (.r (.k (.r (.r (.r (.r (.r (.r (.r (.k (.r .nil))))))))))))))))) (OLe.refl _)).trans (cmpS_ok (st' := ⟨[], [(0, .v (.lst false n2513 c2514)), (1, .dead), (2, .dead), (3, .ptr 3 0), (4, .ptr 5 0), (6, .v (.int .i64 x2559)), (7, .v (.bool true)), (9, .dead), (13, .dead), (18, .v (.int .i64 x2517)), (19, .v (.int .i64 x2559)), (20, .dead), (25, .sl false 4 0 n2562 1), (26, .v (.int .i64 ((n2562 : Nat) : Int))), (27, .v (.int .i64 (IntKind.i64.wrap (x2571 + 1)))), (28, .dead), (43, .dead)], [(0, .p c2560), (1, .r [.sl false 6 0 n2561 1]), (3, .r [.sl false 4 0 n2562 1]), (4, .p c2563), (5, .r [.fn 79 [.ptr 0 0, .ptr 1 0, .ptr 3 0, .ptr 5 0]]), (6, .p c2564)], 7, []⟩) (by kernel_rfl))) ⟨n, Nat.lt_succ_self n, _, _, h2611, rfl⟩
                  · have hh := grd_some h2611; clear h2611; obtain ⟨⟨g2580, g2581⟩, h2611⟩ := hh
                    have hh := grd_some h2611; clear h2611; obtain ⟨g2582, h2611⟩ := hh
                    have hh := getI_some h2611; clear h2611; obtain ⟨x2584, h2583, h2611⟩ := hh
                    refine W_sound tab_ok mixed 33 _ _ _ ?_
                    simp -implicitDefEqProofs only [go_sem, qa, qb, qc, qd, qe, qf, qg, qh, qi, qj, qk, ↓reduceIte, h2512, g2515, h2516, h2518, h2565, h2568, h2572, g2573, g2574, g2575, h2576, h2579, g2580, g2581, g2582, h2583]
                    repeat with_reducible refine ⟨by first | kernel_rfl | decide, ?_⟩
                    exact cutQ _ ((Wk_le (.r (.r (.r (.r (.r (.r (.r (.k (.r (.r (.r (.r (.r (.r (.r (.k (.r .nil))))))))))))))))) (OLe.refl _)).trans (cmpS_ok (st' := ⟨[], [(0, .v (.lst false n2513 c2514)), (1, .dead), (2, .dead), (3, .ptr 3 0), (4, .ptr 5 0), (6, .v (.int .i64 x2559)), (7, .v (.bool (x2584 == x2559))), (9, .dead), (13, .dead), (18, .v (.int .i64 x2517)), (19, .v (.int .i64 x2559)), (20, .dead), (25, .sl false 4 0 n2562 1), (26, .v (.int .i64 ((n2562 : Nat) : Int))), (27, .v (.int .i64 (IntKind.i64.wrap (x2571 + 1)))), (28, .dead), (43, .dead)], [(0, .p c2560), (1, .r [.sl false 6 0 n2561 1]), (3, .r [.sl false 4 0 n2562 1]), (4, .p c2563), (5, .r [.fn 79 [.ptr 0 0, .ptr 1 0, .ptr 3 0, .ptr 5 0]]), (6, .p c2564)], 7, []⟩) (by kernel_rfl))) ⟨n, Nat.lt_succ_self n, _, _, h2611, rfl⟩
                · refine W_sound tab_ok mixed 7 _ _ _ ?_
                  simp -implicitDefEqProofs only [go_sem, qa, qb, qc, qd, qe, qf, qg, qh, qi, qj, qk, ↓reduceIte, h2512, g2515, h2516, h2518, h2565, h2568, h2572]
                  repeat with_reducible refine ⟨by first | kernel_rfl | decide, ?_⟩
                  obtain rfl := Option.some.inj h2611
                  exact cutQ _ ((Wk_le (.r (.r (.r (.r (.r (.r (.r (.r (.r (.r (.r (.r (.k (.k (.k (.k (.r .nil))))))))))))))))) (OLe.refl _)).trans (cmpS_ok (st' := ⟨[], [(0, .v (.lst false n2513 c2514)), (1, .dead), (2, .dead), (3, .ptr 3 0), (4, .ptr 5 0), (6, .v (.int .i64 x2559)), (7, .v (.bool b2570)), (9, .dead), (13, .dead), (18, .v (.int .i64 x2517)), (19, .v (.int .i64 x2559)), (20, .dead), (25, .dead), (26, .dead), (27, .dead), (28, .dead), (43, .dead)], [(0, .p c2560), (1, .r [.sl false 6 0 n2561 1]), (3, .r [.sl false 4 0 n2562 1]), (4, .p c2563), (5, .r [.fn 79 [.ptr 0 0, .ptr 1 0, .ptr 3 0, .ptr 5 0]]), (6, .p c2564)], 7, []⟩) (by kernel_rfl))) ⟨_, rfl, rfl⟩
            · rintro _ ⟨b2585, rfl, rfl⟩
              have hh := brn_some h2612; clear h2612; rcases hh with ⟨h2586, h2612⟩ | ⟨h2586, h2612⟩
              · refine W_sound tab_ok mixed 12 _ _ _ ?_
                simp -implicitDefEqProofs only [go_sem, qa, qb, qc, qd, qe, qf, qg, qh, qi, qj, qk, ↓reduceIte, h2512, g2515, h2516, h2518, h2565, h2568, h2586]
                repeat with_reducible refine ⟨by first | kernel_rfl | decide, ?_⟩
                exact cutQ _ ((Wk_le (.r (.r (.r (.r (.r (.k (.k (.r (.r (.r (.r (.r (.r (.r (.r (.r (.k .nil))))))))))))))))) (OLe.refl _)).trans (cmpS_ok (st' := ⟨[], [(0, .v (.lst false n2513 c2514)), (1, .dead), (2, .dead), (3, .ptr 3 0), (4, .ptr 5 0), (6, .dead), (7, .dead), (9, .dead), (13, .dead), (18, .v (.int .i64 x2517)), (19, .v (.int .i64 (IntKind.i64.wrap (x2559 + 1)))), (20, .dead), (25, .dead), (26, .dead), (27, .dead), (28, .dead), (43, .dead)], [(0, .p c2560), (1, .r [.sl false 6 0 n2561 1]), (3, .r [.sl false 4 0 n2562 1]), (4, .p c2563), (5, .r [.fn 79 [.ptr 0 0, .ptr 1 0, .ptr 3 0, .ptr 5 0]]), (6, .p c2564)], 7, []⟩) (by kernel_rfl))) ⟨n, Nat.lt_succ_self n, _, _, _, _, _, _, h2612, rfl⟩
              · have hh := grd_some h2612; clear h2612; obtain ⟨⟨g2587, g2588⟩, h2612⟩ := hh
                have hh := grd_some h2612; clear h2612; obtain ⟨g2589, h2612⟩ := hh
                have hh := grd_some h2612; clear h2612; obtain ⟨g2590, h2612⟩ := hh
                have hh := bnd'_some h2612; clear h2612; obtain ⟨⟨c2592, n2593, n2594, c2595, c2596⟩, h2591, h2612⟩ := hh
                (try dsimp only at h2612)
                refine W_sound tab_ok mixed 17 _ _ _ ?_
                simp -implicitDefEqProofs only [go_sem, qa, qb, qc, qd, qe, qf, qg, qh, qi, qj, qk, ↓reduceIte, h2512, g2515, h2516, h2518, h2565, h2568, h2586, g2587, g2588, g2589, g2590]
                repeat with_reducible refine ⟨by first | kernel_rfl | decide, ?_⟩
                refine Wp_callDF [(60, (c2514 ++ [(.int .i64 x2559)]))] [0, 1, 6, 3, 4, 5] (ih _ _ _ _ _ _ _ h2591) rfl rfl rfl (by first | rfl | (simp only [go_sem, qa, qb, qc, qd, qe, qf, qg, qh, qi, qj, qk, ↓reduceIte, h2512, g2515, h2516, h2518, h2565, h2568, h2586, g2587, g2588, g2589, g2590] <;> rfl)) rfl (by kernel_rfl) rfl rfl (by simp [roF, obL]) ?_
                refine W_sound tab_ok mixed 6 _ _ _ ?_
                simp -implicitDefEqProofs only [go_sem, qa, qb, qc, qd, qe, qf, qg, qh, qi, qj, qk, ↓reduceIte, h2512, g2515, h2516, h2518, h2565, h2568, h2586, g2587, g2588, g2589, g2590]
                repeat with_reducible refine ⟨by first | kernel_rfl | decide, ?_⟩
                exact cutQ _ ((Wk_le (.r (.r (.r (.r (.r (.k (.k (.r (.r (.r (.r (.r (.r (.r (.r (.r (.k .nil))))))))))))))))) (OLe.refl _)).trans (cmpS_ok (st' := ⟨[], [(0, .v (.lst false n2513 c2514)), (1, .dead), (2, .dead), (3, .ptr 3 0), (4, .ptr 5 0), (6, .dead), (7, .dead), (9, .dead), (13, .dead), (18, .v (.int .i64 x2517)), (19, .v (.int .i64 (IntKind.i64.wrap (x2559 + 1)))), (20, .dead), (25, .dead), (26, .dead), (27, .dead), (28, .dead), (43, .dead)], [(0, .p c2592), (1, .r [.sl false 6 0 n2593 1]), (3, .r [.sl false 4 0 n2594 1]), (4, .p c2595), (5, .r [.fn 79 [.ptr 0 0, .ptr 1 0, .ptr 3 0, .ptr 5 0]]), (6, .p c2596)], 7, []⟩) (by kernel_rfl))) ⟨n, Nat.lt_succ_self n, _, _, _, _, _, _, h2612, rfl⟩
          · refine W_sound tab_ok mixed 7 _ _ _ ?_
            simp -implicitDefEqProofs only [go_sem, qa, qb, qc, qd, qe, qf, qg, qh, qi, qj, qk, ↓reduceIte, h2512, g2515, h2516, h2518, h2565]
            repeat with_reducible refine ⟨by first | kernel_rfl | decide, ?_⟩
            obtain rfl := Option.some.inj h2608
            exact cutQ _ ((Wk_le (.k (.r (.r (.k (.k (.r (.r (.r (.r (.k (.k (.k (.r (.r (.r (.r (.r .nil))))))))))))))))) (OLe.refl _)).trans (cmpS_ok (st' := ⟨[], [(0, .dead), (1, .dead), (2, .dead), (3, .dead), (4, .dead), (6, .dead), (7, .dead), (9, .dead), (13, .dead), (18, .dead), (19, .dead), (20, .dead), (25, .dead), (26, .dead), (27, .dead), (28, .dead), (43, .dead)], [(0, .p c2560), (1, .r [.sl false 6 0 n2561 1]), (3, .r [.sl false 4 0 n2562 1]), (4, .p c2563), (5, .r [.fn 79 [.ptr 0 0, .ptr 1 0, .ptr 3 0, .ptr 5 0]]), (6, .p c2564)], 7, []⟩) (by kernel_rfl))) ⟨_, _, _, _, _, rfl, rfl⟩
      · rintro _ ⟨c2597, n2598, n2599, c2600, c2601, rfl, rfl⟩
        (try dsimp only at h2609)
        refine W_sound tab_ok mixed 1 _ _ _ ?_
        simp -implicitDefEqProofs only [go_sem, qa, qb, qc, qd, qe, qf, qg, qh, qi, qj, qk, ↓reduceIte, h2512, g2515, h2516, h2518]
        repeat with_reducible refine ⟨by first | kernel_rfl | decide, ?_⟩
        obtain rfl := Option.some.inj h2609
        exact finD (e2 := [(0, .dead), (1, .dead), (2, .dead), (3, .dead), (4, .dead), (6, .dead), (7, .dead), (9, .dead), (13, .dead), (18, .dead), (19, .dead), (20, .dead), (25, .dead), (26, .dead), (27, .dead), (28, .dead), (43, .dead)]) (ob2 := [(0, .p c2597), (1, .r [.sl false 6 0 n2598 1]), (3, .r [.sl false 4 0 n2599 1]), (4, .p c2600), (5, .r [.fn 79 [.ptr 0 0, .ptr 1 0, .ptr 3 0, .ptr 5 0]]), (6, .p c2601)]) (st' := ⟨[], [(0, .dead), (1, .dead), (2, .dead), (3, .dead), (4, .dead), (6, .dead), (7, .dead), (9, .dead), (13, .dead), (18, .dead), (19, .dead), (20, .dead), (25, .dead), (26, .dead), (27, .dead), (28, .dead), (43, .dead)], [(0, .p c2597), (1, .r [.sl false 6 0 n2598 1]), (3, .r [.sl false 4 0 n2599 1]), (4, .p c2600), (5, .r [.fn 79 [.ptr 0 0, .ptr 1 0, .ptr 3 0, .ptr 5 0]]), (6, .p c2601)], 7, []⟩) (.r (.r (.r (.r (.r (.r (.r (.r (.r (.r (.r (.r (.r (.r (.r (.r (.r .nil))))))))))))))))) (.cons _ _ _ _ _ (DLes.refl _) (.cons _ _ _ _ _ (DLes.refl _) (.cons _ _ _ _ _ (DLes.refl _) (.cons _ _ _ _ _ (DLes.refl _) (.cons _ _ _ _ _ (DLes.refl _) (.cons _ _ _ _ _ (DLes.refl _) .nil)))))) (by kernel_rfl) (by simp only [go_sem, qa, qb, qc, qd, qe, qf, qg, qh, qi, qj, qk, ↓reduceIte, resQ_tmp, resQ_cell, resQ_nil, retD_one, retD_two, retD_three, retD_none] <;> first | rfl | exact ⟨rfl, rfl⟩ | (try simp [R.val, retD_one, retD_two, retD_three, retD_none]))
theorem c79_9_a (N : Nat) (fu : Nat) (p2506 : PV) (c2507 : List PV) (n2508 : Nat) (c2509 : List PV) (n2510 : Nat) (c2511 : List PV) (c2420 : List PV) (n2421 : Nat) (n2422 : Nat) (c2423 : List PV) (c2424 : List PV) (h : m79_9 N fu p2506 c2507 n2508 c2509 n2510 c2511 = some (c2420, n2421, n2422, c2423, c2424)) : V.Fn Tryd.prog 79 6 [.v p2506, .ptr 0 0, .ptr 1 0, .ptr 3 0, .ptr 5 0] [(0, .p c2507), (1, .r [.sl false 2 0 n2508 1]), (2, .p c2509), (3, .r [.sl false 4 0 n2510 1]), (4, .p c2511), (5, .r [.fn 79 [.ptr 0 0, .ptr 1 0, .ptr 3 0, .ptr 5 0]])] (fun d ob' => d = .v (.tup []) ∧ ob' = [(0, .p c2420), (1, .r [.sl false 6 0 n2421 1]), (3, .r [.sl false 4 0 n2422 1]), (4, .p c2423), (5, .r [.fn 79 [.ptr 0 0, .ptr 1 0, .ptr 3 0, .ptr 5 0]]), (6, .p c2424)]) := c79_9 N fu p2506 c2507 n2508 c2509 n2510 c2511 _ h
def m79_7_L1 (N : Nat) (x2299 : Int) (x2742 : Int) (c2743 : List PV) (n2744 : Nat) (n2745 : Nat) (c2746 : List PV) (c2747 : List PV) : Nat → Bool → Int → Option (Bool)
  | 0, _, _ => none
  | n + 1, b2753, x2754 =>
    brn (decide (x2754 < ((n2745 : Nat) : Int))) (
      grd (0 ≤ x2754 ∧ x2754 < ((n2745 : Nat) : Int)) <|
      grd ((Int.toNat x2754) < List.length c2746) <|
      getL (gp c2746 (Int.toNat x2754)) fun n2760 c2761 =>
      brn b2753 (
        m79_7_L1 N x2299 x2742 c2743 n2744 n2745 c2746 c2747 n true (IntKind.i64.wrap (x2754 + 1))) (
        grd (0 < ((n2760 : Nat) : Int)) <|
        grd (0 < List.length c2761) <|
        getI .i64 (gp c2761 0) fun x2766 =>
        m79_7_L1 N x2299 x2742 c2743 n2744 n2745 c2746 c2747 n (x2766 == x2742) (IntKind.i64.wrap (x2754 + 1)))) (
      some b2753)
def m79_7_L0 (N : Nat) (x2299 : Int) : Nat → Int → List PV → Nat → Nat → List PV → List PV → Option ((List PV × Nat × Nat × List PV × List PV))
  | 0, _, _, _, _, _, _ => none
  | n + 1, x2742, c2743, n2744, n2745, c2746, c2747 =>
    brn (decide (x2742 < x2299)) (
      bnd' (m57 N (.lst false 0 []) x2742) fun p2749 =>
      getB p2749 fun b2752 =>
      bnd' (m79_7_L1 N x2299 x2742 c2743 n2744 n2745 c2746 c2747 N b2752 0) fun b2767 =>
      brn b2767 (
        m79_7_L0 N x2299 n (IntKind.i64.wrap (x2742 + 1)) c2743 n2744 n2745 c2746 c2747) (
        bnd' (m79_9 N N (.lst false 1 [(.int .i64 x2742)]) c2743 n2744 c2747 n2745 c2746) fun o =>
        match o with
        | (c2770, n2771, n2772, c2773, c2774) =>
          m79_7_L0 N x2299 n (IntKind.i64.wrap (x2742 + 1)) c2770 n2771 n2772 c2773 c2774)) (
      some (c2743, n2744, n2745, c2746, c2747))
def m79_7 (N : Nat) (x2299 : Int) (n2300 : Nat) (c2301 : List PV) : Option (((List PV × Nat × List PV × List PV) ⊕ (List PV × Nat × Nat × List PV × List PV))) :=
  brn (0 == x2299) (
    some (.inl ([(.int .i64 x2299)], n2300, c2301, [(.lst false 0 [])]))) (
    bnd' (m79_7_L0 N x2299 N 0 [(.int .i64 x2299)] 0 n2300 c2301 []) fun o =>
    match o with
    | (c2775, n2776, n2777, c2778, c2779) =>
      some (.inr (c2775, n2776, n2777, c2778, c2779)))
theorem c79_7 (N : Nat) (x2299 : Int) (n2300 : Nat) (c2301 : List PV) (r : ((List PV × Nat × List PV × List PV) ⊕ (List PV × Nat × Nat × List PV × List PV)))  (h : m79_7 N x2299 n2300 c2301 = some r) : V.Fn Tryd.prog 79 6 [.v .nl, .ptr 0 0, .ptr 1 0, .ptr 3 0, .ptr 5 0] [(0, .p [(.int .i64 x2299)]), (1, .r [.sl false 2 0 0 1]), (2, .p []), (3, .r [.sl false 4 0 n2300 1]), (4, .p c2301), (5, .r [.fn 79 [.ptr 0 0, .ptr 1 0, .ptr 3 0, .ptr 5 0]])] (fun d ob' => match (generalizing := false) r with | .inl (c2303, n2304, c2305, c2306) => d = .v (.tup []) ∧ ob' = [(0, .p c2303), (1, .r [.sl false 6 0 1 1]), (3, .r [.sl false 4 0 n2304 1]), (4, .p c2305), (5, .r [.fn 79 [.ptr 0 0, .ptr 1 0, .ptr 3 0, .ptr 5 0]]), (6, .p c2306)] | .inr (c2780, n2781, n2782, c2783, c2784) => d = .v (.tup []) ∧ ob' = [(0, .p c2780), (1, .r [.sl false 6 0 n2781 1]), (3, .r [.sl false 4 0 n2782 1]), (4, .p c2783), (5, .r [.fn 79 [.ptr 0 0, .ptr 1 0, .ptr 3 0, .ptr 5 0]]), (6, .p c2784)]) := by
  unfold m79_7 at h
  refine Fn_of (sz := 56) tab_ok [0, 1, 2, 3, 4, 6, 7, 9, 13, 18, 19, 20, 25, 26, 27, 28, 43] [] Tryd.func79 rfl rfl rfl (by simp) ?_
  simp only [initSt, initEnv, List.map_cons, List.map_nil, List.getD_cons_zero, List.getD_cons_succ, List.getD_nil]
  refine Wp_wkK (cmpT_ok (st' := ⟨[], [(0, .v .nl), (1, .ptr 0 0), (2, .ptr 1 0), (3, .ptr 3 0), (4, .ptr 5 0), (6, .dead), (7, .dead), (9, .dead), (13, .dead), (18, .dead), (19, .dead), (20, .dead), (25, .dead), (26, .dead), (27, .dead), (28, .dead), (43, .dead)], [(0, .p [(.int .i64 x2299)]), (1, .r [.sl false 6 0 0 1]), (3, .r [.sl false 4 0 n2300 1]), (4, .p c2301), (5, .r [.fn 79 [.ptr 0 0, .ptr 1 0, .ptr 3 0, .ptr 5 0]]), (6, .p [])], 7, []⟩) [0, 1, 1000000002, 3, 4, 5, 2] (by kernel_rfl)) rfl ?_
  have hh := brn_some h; clear h; rcases hh with ⟨h2302, h⟩ | ⟨h2302, h⟩
  · refine W_sound tab_ok mixed 19 _ _ _ ?_
    simp -implicitDefEqProofs only [go_sem, qa, qb, qc, qd, qe, qf, qg, qh, qi, qj, qk, ↓reduceIte, h2302]
    repeat with_reducible refine ⟨by first | kernel_rfl | decide, ?_⟩
    obtain rfl := Option.some.inj h
    exact finD (e2 := [(0, .dead), (1, .dead), (2, .dead), (3, .dead), (4, .dead), (6, .dead), (7, .dead), (9, .dead), (13, .dead), (18, .dead), (19, .dead), (20, .dead), (25, .dead), (26, .dead), (27, .dead), (28, .dead), (43, .dead)]) (ob2 := [(0, .p [(.int .i64 x2299)]), (1, .r [.sl false 24 0 1 1]), (3, .r [.sl false 4 0 n2300 1]), (4, .p c2301), (5, .r [.fn 79 [.ptr 0 0, .ptr 1 0, .ptr 3 0, .ptr 5 0]]), (23, .p [.nl]), (24, .p [(.lst false 0 [])])]) (st' := ⟨[], [(0, .dead), (1, .dead), (2, .dead), (3, .dead), (4, .dead), (6, .dead), (7, .dead), (9, .dead), (13, .dead), (18, .dead), (19, .dead), (20, .dead), (25, .dead), (26, .dead), (27, .dead), (28, .dead), (43, .dead)], [(0, .p [(.int .i64 x2299)]), (1, .r [.sl false 6 0 1 1]), (3, .r [.sl false 4 0 n2300 1]), (4, .p c2301), (5, .r [.fn 79 [.ptr 0 0, .ptr 1 0, .ptr 3 0, .ptr 5 0]]), (6, .p [(.lst false 0 [])])], 7, []⟩) (.k (.k (.k (.k (.k (.r (.r (.r (.k (.r (.r (.r (.r (.r (.r (.r (.r .nil))))))))))))))))) (.cons _ _ _ _ _ (DLes.refl _) (.cons _ _ _ _ _ (DLes.refl _) (.cons _ _ _ _ _ (DLes.refl _) (.cons _ _ _ _ _ (DLes.refl _) (.cons _ _ _ _ _ (DLes.refl _) (.cons _ _ _ _ _ (DLes.refl _) (.cons _ _ _ _ _ (DLes.of_p (.cons _ _ _ _ (.nl false) .nil)) .nil))))))) (by kernel_rfl) (by simp only [go_sem, qa, qb, qc, qd, qe, qf, qg, qh, qi, qj, qk, ↓reduceIte, resQ_tmp, resQ_cell, resQ_nil, retD_one, retD_two, retD_three, retD_none] <;> first | rfl | exact ⟨rfl, rfl⟩ | (try simp [R.val, retD_one, retD_two, retD_three, retD_none]))
  · refine W_sound tab_ok mixed 15 _ _ _ ?_
    simp -implicitDefEqProofs only [go_sem, qa, qb, qc, qd, qe, qf, qg, qh, qi, qj, qk, ↓reduceIte, h2302]
    repeat with_reducible refine ⟨by first | kernel_rfl | decide, ?_⟩
    have hh := bnd'_some h; clear h; obtain ⟨o2785, h2786, h2787⟩ := hh
    refine Wp_cut (fun s => ∃ c2775, ∃ n2776, ∃ n2777, ∃ c2778, ∃ c2779, (c2775, n2776, n2777, c2778, c2779) = o2785 ∧ s = ⟨[], [(0, .dead), (1, .dead), (2, .dead), (3, .dead), (4, .dead), (6, .dead), (7, .dead), (9, .dead), (13, .dead), (18, .dead), (19, .dead), (20, .dead), (25, .dead), (26, .dead), (27, .dead), (28, .dead), (43, .dead)], [(0, .p c2775), (1, .r [.sl false 6 0 n2776 1]), (3, .r [.sl false 4 0 n2777 1]), (4, .p c2778), (5, .r [.fn 79 [.ptr 0 0, .ptr 1 0, .ptr 3 0, .ptr 5 0]]), (6, .p c2779)], 7, []⟩) ?_ ?_
    · refine Wp_block ?_
      refine Wp_loopG (fun n s => ∃ x2742, ∃ c2743, ∃ n2744, ∃ n2745, ∃ c2746, ∃ c2747, m79_7_L0 N x2299 n x2742 c2743 n2744 n2745 c2746 c2747 = some o2785 ∧ s = ⟨[], [(0, .v .nl), (1, .dead), (2, .dead), (3, .ptr 3 0), (4, .ptr 5 0), (6, .dead), (7, .dead), (9, .dead), (13, .dead), (18, .v (.int .i64 x2299)), (19, .v (.int .i64 x2742)), (20, .dead), (25, .dead), (26, .dead), (27, .dead), (28, .dead), (43, .dead)], [(0, .p c2743), (1, .r [.sl false 6 0 n2744 1]), (3, .r [.sl false 4 0 n2745 1]), (4, .p c2746), (5, .r [.fn 79 [.ptr 0 0, .ptr 1 0, .ptr 3 0, .ptr 5 0]]), (6, .p c2747)], 7, []⟩) N _ ((Wk_le (.r (.k (.k (.r (.r (.r (.r (.r (.k (.r (.r (.r (.r (.r (.r (.r (.r .nil))))))))))))))))) (OLe.refl _)).trans (cmpS_ok (st' := ⟨[], [(0, .v .nl), (1, .dead), (2, .dead), (3, .ptr 3 0), (4, .ptr 5 0), (6, .dead), (7, .dead), (9, .dead), (13, .dead), (18, .v (.int .i64 x2299)), (19, .v (.int .i64 0)), (20, .dead), (25, .dead), (26, .dead), (27, .dead), (28, .dead), (43, .dead)], [(0, .p [(.int .i64 x2299)]), (1, .r [.sl false 6 0 0 1]), (3, .r [.sl false 4 0 n2300 1]), (4, .p c2301), (5, .r [.fn 79 [.ptr 0 0, .ptr 1 0, .ptr 3 0, .ptr 5 0]]), (6, .p [])], 7, []⟩) (by kernel_rfl))) ⟨_, _, _, _, _, _, h2786, rfl⟩ ?_
      clear h2786
      rintro n _ ⟨x2742, c2743, n2744, n2745, c2746, c2747, h2786, rfl⟩
      cases n with
      | zero => cases h2786
      | succ n =>
        rw [m79_7_L0] at h2786
        have hh := brn_some h2786; clear h2786; rcases hh with ⟨h2748, h2786⟩ | ⟨h2748, h2786⟩
        · have hh := bnd'_some h2786; clear h2786; obtain ⟨p2749, h2750, h2786⟩ := hh
          refine W_sound tab_ok mixed 18 _ _ _ ?_
          simp -implicitDefEqProofs only [go_sem, qa, qb, qc, qd, qe, qf, qg, qh, qi, qj, qk, ↓reduceIte, h2302, h2748]
          repeat with_reducible refine ⟨by first | kernel_rfl | decide, ?_⟩
          refine Wp_callP (FnP_le (c57 N _ _ _ h2750) (.cons _ _ _ _ (.nl false) (.cons _ _ _ _ (.refl _) .nil)) (.refl _)) (by kernel_rfl) rfl rfl rfl rfl (by decide) ?_
          have hh := getB_some h2786; clear h2786; obtain ⟨b2752, h2751, h2786⟩ := hh
          refine W_sound tab_ok mixed 9 _ _ _ ?_
          simp -implicitDefEqProofs only [go_sem, qa, qb, qc, qd, qe, qf, qg, qh, qi, qj, qk, ↓reduceIte, h2302, h2748, h2751]
          repeat with_reducible refine ⟨by first | kernel_rfl | decide, ?_⟩
          have hh := bnd'_some h2786; clear h2786; obtain ⟨o2788, h2789, h2790⟩ := hh
          refine Wp_cut (fun s => ∃ b2767, b2767 = o2788 ∧ s = ⟨[], [(0, .v .nl), (1, .dead), (2, .dead), (3, .ptr 3 0), (4, .ptr 5 0), (6, .v (.int .i64 x2742)), (7, .v (.bool b2767)), (9, .dead), (13, .dead), (18, .v (.int .i64 x2299)), (19, .v (.int .i64 x2742)), (20, .dead), (25, .dead), (26, .dead), (27, .dead), (28, .dead), (43, .dead)], [(0, .p c2743), (1, .r [.sl false 6 0 n2744 1]), (3, .r [.sl false 4 0 n2745 1]), (4, .p c2746), (5, .r [.fn 79 [.ptr 0 0, .ptr 1 0, .ptr 3 0, .ptr 5 0]]), (6, .p c2747)], 7, []⟩) ?_ ?_
          · refine Wp_block ?_
            refine Wp_loopG (fun n s => ∃ b2753, ∃ x2754, m79_7_L1 N x2299 x2742 c2743 n2744 n2745 c2746 c2747 n b2753 x2754 = some o2788 ∧ s = ⟨[], [(0, .v .nl), (1, .dead), (2, .dead), (3, .ptr 3 0), (4, .ptr 5 0), (6, .v (.int .i64 x2742)), (7, .v (.bool b2753)), (9, .dead), (13, .dead), (18, .v (.int .i64 x2299)), (19, .v (.int .i64 x2742)), (20, .dead), (25, .sl false 4 0 n2745 1), (26, .v (.int .i64 ((n2745 : Nat) : Int))), (27, .v (.int .i64 x2754)), (28, .dead), (43, .dead)], [(0, .p c2743), (1, .r [.sl false 6 0 n2744 1]), (3, .r [.sl false 4 0 n2745 1]), (4, .p c2746), (5, .r [.fn 79 [.ptr 0 0, .ptr 1 0, .ptr 3 0, .ptr 5 0]]), (6, .p c2747)], 7, []⟩) N _ ((Wk_le (.r (.r (.r (.r (.r (.r (.r (.r (.r (.r (.r (.k (.r (.r (.r (.r (.r .nil))))))))))))))))) (OLe.refl _)).trans (cmpS_ok (st' := ⟨[], [(0, .v .nl), (1, .dead), (2, .dead), (3, .ptr 3 0), (4, .ptr 5 0), (6, .v (.int .i64 x2742)), (7, .v (.bool b2752)), (9, .dead), (13, .dead), (18, .v (.int .i64 x2299)), (19, .v (.int .i64 x2742)), (20, .dead), (25, .sl false 4 0 n2745 1), (26, .v (.int .i64 ((n2745 : Nat) : Int))), (27, .v (.int .i64 0)), (28, .dead), (43, .dead)], [(0, .p c2743), (1, .r [.sl false 6 0 n2744 1]), (3, .r [.sl false 4 0 n2745 1]), (4, .p c2746), (5, .r [.fn 79 [.ptr 0 0, .ptr 1 0, .ptr 3 0, .ptr 5 0]]), (6, .p c2747)], 7, []⟩) (by kernel_rfl))) ⟨_, _, h2789, rfl⟩ ?_
            clear h2789
            rintro n _ ⟨b2753, x2754, h2789, rfl⟩
            cases n with
            | zero => cases h2789
            | succ n =>
              rw [m79_7_L1] at h2789
              have hh := brn_some h2789; clear h2789; rcases hh with ⟨h2755, h2789⟩ | ⟨h2755, h2789⟩
              · have hh := grd_some h2789; clear h2789; obtain ⟨⟨g2756, g2757⟩, h2789⟩ := hh
                have hh := grd_some h2789; clear h2789; obtain ⟨g2758, h2789⟩ := hh
                have hh := getL_some h2789; clear h2789; obtain ⟨n2760, c2761, h2759, h2789⟩ := hh
                have hh := brn_some h2789; clear h2789; rcases hh with ⟨h2762, h2789⟩ | ⟨h2762, h2789⟩
                · refine W_sound tab_ok mixed 33 _ _ _ ?_
                  simp -implicitDefEqProofs only [go_sem, qa, qb, qc, qd, qe, qf, qg, qh, qi, qj, qk, ↓reduceIte, h2302, h2748, h2751, h2755, g2756, g2757, g2758, h2759, h2762]
                  repeat with_reducible refine ⟨by first | kernel_rfl | decide, ?_⟩
                  exact cutQ _ ((Wk_le (.r (.r (.r (.r (.r (.r (.r (.k (.r (.r (.r (.r (.r (.r (.r (.k (.r .nil))))))))))))))))) (OLe.refl _)).trans (cmpS_ok (st' := ⟨[], [(0, .v .nl), (1, .dead), (2, .dead), (3, .ptr 3 0), (4, .ptr 5 0), (6, .v (.int .i64 x2742)), (7, .v (.bool true)), (9, .dead), (13, .dead), (18, .v (.int .i64 x2299)), (19, .v (.int .i64 x2742)), (20, .dead), (25, .sl false 4 0 n2745 1), (26, .v (.int .i64 ((n2745 : Nat) : Int))), (27, .v (.int .i64 (IntKind.i64.wrap (x2754 + 1)))), (28, .dead), (43, .dead)], [(0, .p c2743), (1, .r [.sl false 6 0 n2744 1]), (3, .r [.sl false 4 0 n2745 1]), (4, .p c2746), (5, .r [.fn 79 [.ptr 0 0, .ptr 1 0, .ptr 3 0, .ptr 5 0]]), (6, .p c2747)], 7, []⟩) (by kernel_rfl))) ⟨n, Nat.lt_succ_self n, _, _, h2789, rfl⟩
                · have hh := grd_some h2789; clear h2789; obtain ⟨g2763, h2789⟩ := hh
                  have hh := grd_some h2789; clear h2789; obtain ⟨g2764, h2789⟩ := hh
                  have hh := getI_some h2789; clear h2789; obtain ⟨x2766, h2765, h2789⟩ := hh
                  refine W_sound tab_ok mixed 33 _ _ _ ?_
                  simp -implicitDefEqProofs only [go_sem, qa, qb, qc, qd, qe, qf, qg, qh, qi, qj, qk, ↓reduceIte, h2302, h2748, h2751, h2755, g2756, g2757, g2758, h2759, h2762, g2763, g2764, h2765]
                  repeat with_reducible refine ⟨by first | kernel_rfl | decide, ?_⟩
                  exact cutQ _ ((Wk_le (.r (.r (.r (.r (.r (.r (.r (.k (.r (.r (.r (.r (.r (.r (.r (.k (.r .nil))))))))))))))))) (OLe.refl _)).trans (cmpS_ok (st' := ⟨[], [(0, .v .nl), (1, .dead), (2, .dead), (3, .ptr 3 0), (4, .ptr 5 0), (6, .v (.int .i64 x2742)), (7, .v (.bool (x2766 == x2742))), (9, .dead), (13, .dead), (18, .v (.int .i64 x2299)), (19, .v (.int .i64 x2742)), (20, .dead), (25, .sl false 4 0 n2745 1), (26, .v (.int .i64 ((n2745 : Nat) : Int))), (27, .v (.int .i64 (IntKind.i64.wrap (x2754 + 1)))), (28, .dead), (43, .dead)], [(0, .p c2743), (1, .r [.sl false 6 0 n2744 1]), (3, .r [.sl false 4 0 n2745 1]), (4, .p c2746), (5, .r [.fn 79 [.ptr 0 0, .ptr 1 0, .ptr 3 0, .ptr 5 0]]), (6, .p c2747)], 7, []⟩) (by kernel_rfl))) ⟨n, Nat.lt_succ_self n, _, _, h2789, rfl⟩
              · refine W_sound tab_ok mixed 7 _ _ _ ?_
                simp -implicitDefEqProofs only [go_sem, qa, qb, qc, qd, qe, qf, qg, qh, qi, qj, qk, ↓reduceIte, h2302, h2748, h2751, h2755]
                repeat with_reducible refine ⟨by first | kernel_rfl | decide, ?_⟩
                obtain rfl := Option.some.inj h2789
                exact cutQ _ ((Wk_le (.r (.r (.r (.r (.r (.r (.r (.r (.r (.r (.r (.r (.k (.k (.k (.k (.r .nil))))))))))))))))) (OLe.refl _)).trans (cmpS_ok (st' := ⟨[], [(0, .v .nl), (1, .dead), (2, .dead), (3, .ptr 3 0), (4, .ptr 5 0), (6, .v (.int .i64 x2742)), (7, .v (.bool b2753)), (9, .dead), (13, .dead), (18, .v (.int .i64 x2299)), (19, .v (.int .i64 x2742)), (20, .dead), (25, .dead), (26, .dead), (27, .dead), (28, .dead), (43, .dead)], [(0, .p c2743), (1, .r [.sl false 6 0 n2744 1]), (3, .r [.sl false 4 0 n2745 1]), (4, .p c2746), (5, .r [.fn 79 [.ptr 0 0, .ptr 1 0, .ptr 3 0, .ptr 5 0]]), (6, .p c2747)], 7, []⟩) (by kernel_rfl))) ⟨_, rfl, rfl⟩
          · rintro _ ⟨b2767, rfl, rfl⟩
            have hh := brn_some h2790; clear h2790; rcases hh with ⟨h2768, h2790⟩ | ⟨h2768, h2790⟩
            · refine W_sound tab_ok mixed 12 _ _ _ ?_
              simp -implicitDefEqProofs only [go_sem, qa, qb, qc, qd, qe, qf, qg, qh, qi, qj, qk, ↓reduceIte, h2302, h2748, h2751, h2768]
              repeat with_reducible refine ⟨by first | kernel_rfl | decide, ?_⟩
              exact cutQ _ ((Wk_le (.r (.r (.r (.r (.r (.k (.k (.r (.r (.r (.r (.r (.r (.r (.r (.r (.k .nil))))))))))))))))) (OLe.refl _)).trans (cmpS_ok (st' := ⟨[], [(0, .v .nl), (1, .dead), (2, .dead), (3, .ptr 3 0), (4, .ptr 5 0), (6, .dead), (7, .dead), (9, .dead), (13, .dead), (18, .v (.int .i64 x2299)), (19, .v (.int .i64 (IntKind.i64.wrap (x2742 + 1)))), (20, .dead), (25, .dead), (26, .dead), (27, .dead), (28, .dead), (43, .dead)], [(0, .p c2743), (1, .r [.sl false 6 0 n2744 1]), (3, .r [.sl false 4 0 n2745 1]), (4, .p c2746), (5, .r [.fn 79 [.ptr 0 0, .ptr 1 0, .ptr 3 0, .ptr 5 0]]), (6, .p c2747)], 7, []⟩) (by kernel_rfl))) ⟨n, Nat.lt_succ_self n, _, _, _, _, _, _, h2790, rfl⟩
            · have hh := bnd'_some h2790; clear h2790; obtain ⟨⟨c2770, n2771, n2772, c2773, c2774⟩, h2769, h2790⟩ := hh
              (try dsimp only at h2790)
              refine W_sound tab_ok mixed 17 _ _ _ ?_
              simp -implicitDefEqProofs only [go_sem, qa, qb, qc, qd, qe, qf, qg, qh, qi, qj, qk, ↓reduceIte, h2302, h2748, h2751, h2768]
              repeat with_reducible refine ⟨by first | kernel_rfl | decide, ?_⟩
              refine Wp_callDF [(60, [(.int .i64 x2742)])] [0, 1, 6, 3, 4, 5] (c79_9_a N N _ _ _ _ _ _ _ _ _ _ _ h2769) rfl rfl rfl (by first | rfl | (simp only [go_sem, qa, qb, qc, qd, qe, qf, qg, qh, qi, qj, qk, ↓reduceIte, h2302, h2748, h2751, h2768] <;> rfl)) rfl (by kernel_rfl) rfl rfl (by simp [roF, obL]) ?_
              refine W_sound tab_ok mixed 6 _ _ _ ?_
              simp -implicitDefEqProofs only [go_sem, qa, qb, qc, qd, qe, qf, qg, qh, qi, qj, qk, ↓reduceIte, h2302, h2748, h2751, h2768]
              repeat with_reducible refine ⟨by first | kernel_rfl | decide, ?_⟩
              exact cutQ _ ((Wk_le (.r (.r (.r (.r (.r (.k (.k (.r (.r (.r (.r (.r (.r (.r (.r (.r (.k .nil))))))))))))))))) (OLe.refl _)).trans (cmpS_ok (st' := ⟨[], [(0, .v .nl), (1, .dead), (2, .dead), (3, .ptr 3 0), (4, .ptr 5 0), (6, .dead), (7, .dead), (9, .dead), (13, .dead), (18, .v (.int .i64 x2299)), (19, .v (.int .i64 (IntKind.i64.wrap (x2742 + 1)))), (20, .dead), (25, .dead), (26, .dead), (27, .dead), (28, .dead), (43, .dead)], [(0, .p c2770), (1, .r [.sl false 6 0 n2771 1]), (3, .r [.sl false 4 0 n2772 1]), (4, .p c2773), (5, .r [.fn 79 [.ptr 0 0, .ptr 1 0, .ptr 3 0, .ptr 5 0]]), (6, .p c2774)], 7, []⟩) (by kernel_rfl))) ⟨n, Nat.lt_succ_self n, _, _, _, _, _, _, h2790, rfl⟩
        · refine W_sound tab_ok mixed 7 _ _ _ ?_
          simp -implicitDefEqProofs only [go_sem, qa, qb, qc, qd, qe, qf, qg, qh, qi, qj, qk, ↓reduceIte, h2302, h2748]
          repeat with_reducible refine ⟨by first | kernel_rfl | decide, ?_⟩
          obtain rfl := Option.some.inj h2786
          exact cutQ _ ((Wk_le (.k (.r (.r (.k (.k (.r (.r (.r (.r (.k (.k (.k (.r (.r (.r (.r (.r .nil))))))))))))))))) (OLe.refl _)).trans (cmpS_ok (st' := ⟨[], [(0, .dead), (1, .dead), (2, .dead), (3, .dead), (4, .dead), (6, .dead), (7, .dead), (9, .dead), (13, .dead), (18, .dead), (19, .dead), (20, .dead), (25, .dead), (26, .dead), (27, .dead), (28, .dead), (43, .dead)], [(0, .p c2743), (1, .r [.sl false 6 0 n2744 1]), (3, .r [.sl false 4 0 n2745 1]), (4, .p c2746), (5, .r [.fn 79 [.ptr 0 0, .ptr 1 0, .ptr 3 0, .ptr 5 0]]), (6, .p c2747)], 7, []⟩) (by kernel_rfl))) ⟨_, _, _, _, _, rfl, rfl⟩
    · rintro _ ⟨c2775, n2776, n2777, c2778, c2779, rfl, rfl⟩
      (try dsimp only at h2787)
      refine W_sound tab_ok mixed 1 _ _ _ ?_
      simp -implicitDefEqProofs only [go_sem, qa, qb, qc, qd, qe, qf, qg, qh, qi, qj, qk, ↓reduceIte, h2302]
      repeat with_reducible refine ⟨by first | kernel_rfl | decide, ?_⟩
      obtain rfl := Option.some.inj h2787
      exact finD (e2 := [(0, .dead), (1, .dead), (2, .dead), (3, .dead), (4, .dead), (6, .dead), (7, .dead), (9, .dead), (13, .dead), (18, .dead), (19, .dead), (20, .dead), (25, .dead), (26, .dead), (27, .dead), (28, .dead), (43, .dead)]) (ob2 := [(0, .p c2775), (1, .r [.sl false 6 0 n2776 1]), (3, .r [.sl false 4 0 n2777 1]), (4, .p c2778), (5, .r [.fn 79 [.ptr 0 0, .ptr 1 0, .ptr 3 0, .ptr 5 0]]), (6, .p c2779)]) (st' := ⟨[], [(0, .dead), (1, .dead), (2, .dead), (3, .dead), (4, .dead), (6, .dead), (7, .dead), (9, .dead), (13, .dead), (18, .dead), (19, .dead), (20, .dead), (25, .dead), (26, .dead), (27, .dead), (28, .dead), (43, .dead)], [(0, .p c2775), (1, .r [.sl false 6 0 n2776 1]), (3, .r [.sl false 4 0 n2777 1]), (4, .p c2778), (5, .r [.fn 79 [.ptr 0 0, .ptr 1 0, .ptr 3 0, .ptr 5 0]]), (6, .p c2779)], 7, []⟩) (.r (.r (.r (.r (.r (.r (.r (.r (.r (.r (.r (.r (.r (.r (.r (.r (.r .nil))))))))))))))))) (.cons _ _ _ _ _ (DLes.refl _) (.cons _ _ _ _ _ (DLes.refl _) (.cons _ _ _ _ _ (DLes.refl _) (.cons _ _ _ _ _ (DLes.refl _) (.cons _ _ _ _ _ (DLes.refl _) (.cons _ _ _ _ _ (DLes.refl _) .nil)))))) (by kernel_rfl) (by simp only [go_sem, qa, qb, qc, qd, qe, qf, qg, qh, qi, qj, qk, ↓reduceIte, resQ_tmp, resQ_cell, resQ_nil, retD_one, retD_two, retD_three, retD_none] <;> first | rfl | exact ⟨rfl, rfl⟩ | (try simp [R.val, retD_one, retD_two, retD_three, retD_none]))
theorem c79_7_a (N : Nat) (x2299 : Int) (n2300 : Nat) (c2301 : List PV) (c2303 : List PV) (n2304 : Nat) (c2305 : List PV) (c2306 : List PV) (h : m79_7 N x2299 n2300 c2301 = some (.inl (c2303, n2304, c2305, c2306))) : V.Fn Tryd.prog 79 6 [.v .nl, .ptr 0 0, .ptr 1 0, .ptr 3 0, .ptr 5 0] [(0, .p [(.int .i64 x2299)]), (1, .r [.sl false 2 0 0 1]), (2, .p []), (3, .r [.sl false 4 0 n2300 1]), (4, .p c2301), (5, .r [.fn 79 [.ptr 0 0, .ptr 1 0, .ptr 3 0, .ptr 5 0]])] (fun d ob' => d = .v (.tup []) ∧ ob' = [(0, .p c2303), (1, .r [.sl false 6 0 1 1]), (3, .r [.sl false 4 0 n2304 1]), (4, .p c2305), (5, .r [.fn 79 [.ptr 0 0, .ptr 1 0, .ptr 3 0, .ptr 5 0]]), (6, .p c2306)]) := c79_7 N x2299 n2300 c2301 _ h
theorem c79_7_b (N : Nat) (x2299 : Int) (n2300 : Nat) (c2301 : List PV) (c2780 : List PV) (n2781 : Nat) (n2782 : Nat) (c2783 : List PV) (c2784 : List PV) (h : m79_7 N x2299 n2300 c2301 = some (.inr (c2780, n2781, n2782, c2783, c2784))) : V.Fn Tryd.prog 79 6 [.v .nl, .ptr 0 0, .ptr 1 0, .ptr 3 0, .ptr 5 0] [(0, .p [(.int .i64 x2299)]), (1, .r [.sl false 2 0 0 1]), (2, .p []), (3, .r [.sl false 4 0 n2300 1]), (4, .p c2301), (5, .r [.fn 79 [.ptr 0 0, .ptr 1 0, .ptr 3 0, .ptr 5 0]])] (fun d ob' => d = .v (.tup []) ∧ ob' = [(0, .p c2780), (1, .r [.sl false 6 0 n2781 1]), (3, .r [.sl false 4 0 n2782 1]), (4, .p c2783), (5, .r [.fn 79 [.ptr 0 0, .ptr 1 0, .ptr 3 0, .ptr 5 0]]), (6, .p c2784)]) := c79_7 N x2299 n2300 c2301 _ h
def m38_3 (N : Nat) (x2804 : Int) (n2805 : Nat) (c2806 : List PV) : Option ((PV × List PV)) :=
  bnd' (m79_7 N x2804 n2805 c2806) fun o =>
  match o with
  | .inl (c2809, n2810, c2811, c2812) =>
    grd (List.length c2812 = 1) <|
    some ((.lst false 1 c2812), c2811)
  | .inr (c2814, n2815, n2816, c2817, c2818) =>
    grd (List.length c2818 = n2815) <|
    some ((.lst false n2815 c2818), c2817)
theorem c38_3 (N : Nat) (x2804 : Int) (n2805 : Nat) (c2806 : List PV) (r : PV) (c2821 : List PV) (h : m38_3 N x2804 n2805 c2806 = some (r, c2821)) : V.Fn Tryd.prog 38 1 [.v (.int .i64 x2804), .sl false 0 0 n2805 1] [(0, .p c2806)] (fun d ob' => d = .v r ∧ ob' = [(0, .p c2821)]) := by
  unfold m38_3 at h
  refine Fn_of (sz := 11) tab_ok [0, 1, 2, 3, 4, 5, 6] [.tmp 4] Tryd.func38 rfl rfl rfl (by simp) ?_
  simp only [initSt, initEnv, List.map_cons, List.map_nil, List.getD_cons_zero, List.getD_cons_succ, List.getD_nil]
  refine W_sound tab_ok mixed 20 _ _ _ ?_
  simp -implicitDefEqProofs only [go_sem, qa, qb, qc, qd, qe, qf, qg, qh, qi, qj, qk, ↓reduceIte]
  repeat with_reducible refine ⟨by first | kernel_rfl | decide, ?_⟩
  refine Wp_wkK (Wk_ownC 10 0 1 rfl rfl (by decide) (by decide)) rfl ?_
  simp -implicitDefEqProofs only [go_sem, qa, qb, qc, qd, qe, qf, qg, qh, qi, qj, qk, ↓reduceIte, setO]
  have hh := bnd'_some h; clear h; obtain ⟨oo, h2808, h⟩ := hh
  rcases oo with ⟨c2809, n2810, c2811, c2812⟩ | ⟨c2814, n2815, n2816, c2817, c2818⟩
  · (try dsimp only at h)
    refine W_sound tab_ok mixed 2 _ _ _ ?_
    simp -implicitDefEqProofs only [go_sem, qa, qb, qc, qd, qe, qf, qg, qh, qi, qj, qk, ↓reduceIte]
    repeat with_reducible refine ⟨by first | kernel_rfl | decide, ?_⟩
    refine Wp_callD [3, 10, 18, 4, 0, 17] (c79_7_a N _ _ _ _ _ _ _ h2808) rfl rfl rfl (by first | rfl | (simp only [go_sem, qa, qb, qc, qd, qe, qf, qg, qh, qi, qj, qk, ↓reduceIte] <;> rfl)) rfl (by kernel_rfl) ?_
    refine W_sound tab_ok mixed 8 _ _ _ ?_
    simp -implicitDefEqProofs only [go_sem, qa, qb, qc, qd, qe, qf, qg, qh, qi, qj, qk, ↓reduceIte]
    repeat with_reducible refine ⟨by first | kernel_rfl | decide, ?_⟩
    have hh := grd_some h; clear h; obtain ⟨g2813, h⟩ := hh
    refine FinQ_wk (Wk_freeze 28 c2812 (by rfl) (by decide) (by decide)) ?_
    simp -implicitDefEqProofs only [go_sem, qa, qb, qc, qd, qe, qf, qg, qh, qi, qj, qk, ↓reduceIte, g2813]
    simp only [Option.some.injEq, Prod.mk.injEq] at h; obtain ⟨rfl, rfl⟩ := h
    exact finD (e2 := [(0, .dead), (1, .dead), (2, .dead), (3, .dead), (4, .v (.lst false 1 c2812)), (5, .dead), (6, .dead)]) (ob2 := [(17, .r [.fn 79 [.ptr 3 0, .ptr 10 0, .ptr 4 0, .ptr 17 0]]), (0, .p c2811), (4, .r [.sl false 0 0 n2810 1]), (10, .p [(.lst false 1 c2812)]), (3, .p c2809)]) (st' := ⟨[], [(0, .dead), (1, .dead), (2, .dead), (3, .dead), (4, .v (.lst false 1 c2812)), (5, .dead), (6, .dead)], [(0, .p c2811)], 1, []⟩) (.k (.k (.k (.k (.r (.k (.k .nil))))))) (.cons _ _ _ _ _ (DLes.refl _) (.cons _ _ _ _ _ (DLes.refl _) (.cons _ _ _ _ _ (DLes.refl _) (.cons _ _ _ _ _ (DLes.refl _) (.cons _ _ _ _ _ (DLes.refl _) .nil))))) (by kernel_rfl) (by simp only [go_sem, qa, qb, qc, qd, qe, qf, qg, qh, qi, qj, qk, ↓reduceIte, resQ_tmp, resQ_cell, resQ_nil, retD_one, retD_two, retD_three, retD_none]; try simp [R.val, retD_one, retD_two, retD_three, retD_none])
  · (try dsimp only at h)
    refine W_sound tab_ok mixed 2 _ _ _ ?_
    simp -implicitDefEqProofs only [go_sem, qa, qb, qc, qd, qe, qf, qg, qh, qi, qj, qk, ↓reduceIte]
    repeat with_reducible refine ⟨by first | kernel_rfl | decide, ?_⟩
    refine Wp_callD [3, 10, 18, 4, 0, 17] (c79_7_b N _ _ _ _ _ _ _ _ h2808) rfl rfl rfl (by first | rfl | (simp only [go_sem, qa, qb, qc, qd, qe, qf, qg, qh, qi, qj, qk, ↓reduceIte] <;> rfl)) rfl (by kernel_rfl) ?_
    refine W_sound tab_ok mixed 8 _ _ _ ?_
    simp -implicitDefEqProofs only [go_sem, qa, qb, qc, qd, qe, qf, qg, qh, qi, qj, qk, ↓reduceIte]
    repeat with_reducible refine ⟨by first | kernel_rfl | decide, ?_⟩
    have hh := grd_some h; clear h; obtain ⟨g2819, h⟩ := hh
    refine FinQ_wk (Wk_freeze 28 c2818 (by rfl) (by decide) (by decide)) ?_
    simp -implicitDefEqProofs only [go_sem, qa, qb, qc, qd, qe, qf, qg, qh, qi, qj, qk, ↓reduceIte, g2819]
    simp only [Option.some.injEq, Prod.mk.injEq] at h; obtain ⟨rfl, rfl⟩ := h
    exact finD (e2 := [(0, .dead), (1, .dead), (2, .dead), (3, .dead), (4, .v (.lst false n2815 c2818)), (5, .dead), (6, .dead)]) (ob2 := [(17, .r [.fn 79 [.ptr 3 0, .ptr 10 0, .ptr 4 0, .ptr 17 0]]), (0, .p c2817), (4, .r [.sl false 0 0 n2816 1]), (10, .p [(.lst false n2815 c2818)]), (3, .p c2814)]) (st' := ⟨[], [(0, .dead), (1, .dead), (2, .dead), (3, .dead), (4, .v (.lst false n2815 c2818)), (5, .dead), (6, .dead)], [(0, .p c2817)], 1, []⟩) (.k (.k (.k (.k (.r (.k (.k .nil))))))) (.cons _ _ _ _ _ (DLes.refl _) (.cons _ _ _ _ _ (DLes.refl _) (.cons _ _ _ _ _ (DLes.refl _) (.cons _ _ _ _ _ (DLes.refl _) (.cons _ _ _ _ _ (DLes.refl _) .nil))))) (by kernel_rfl) (by simp only [go_sem, qa, qb, qc, qd, qe, qf, qg, qh, qi, qj, qk, ↓reduceIte, resQ_tmp, resQ_cell, resQ_nil, retD_one, retD_two, retD_three, retD_none]; try simp [R.val, retD_one, retD_two, retD_three, retD_none])
def m37_L0 (N : Nat) (x1759 : Int) (p1763 : PV) (p1764 : PV) (p1765 : PV) (p1766 : PV) (p1767 : PV) (x1769 : Int) (x1772 : Int) : Nat → Nat → Int → List PV → Option ((Nat × List PV))
  | 0, _, _, _ => none
  | n + 1, n2292, x2293, c2294 =>
    brn (decide (x2293 < (Int.tmod (IntKind.i64.wrap x1772) (IntKind.i64.wrap ((IntKind.i64.wrap (1 + (Int.tmod (IntKind.i64.wrap x1769) x1759))) + 1))))) (
      bnd' (m38_3 N (IntKind.i64.wrap (1 + (Int.tmod (IntKind.i64.wrap x1769) x1759))) n2292 c2294) fun (p2822, c2824) =>
      getL p2822 fun n2826 c2827 =>
      grd (0 ≤ x2293 ∧ x2293 < 5) <|
      grd ((2 + (Int.toNat x2293)) < 7) <|
      getI .u8 (gp [(.int .u8 x1769), (.int .u8 x1772), p1763, p1764, p1765, p1766, p1767] (2 + (Int.toNat x2293))) fun x2832 =>
      grd (((n2826 : Nat) : Int) ≠ 0) <|
      grd (0 ≤ (Int.tmod (IntKind.i64.wrap x2832) ((n2826 : Nat) : Int)) ∧ (Int.tmod (IntKind.i64.wrap x2832) ((n2826 : Nat) : Int)) < ((n2826 : Nat) : Int)) <|
      grd (0 < List.length (List.drop (Int.toNat (Int.tmod (IntKind.i64.wrap x2832) ((n2826 : Nat) : Int))) c2827)) <|
      getL (gp c2827 (Int.toNat (Int.tmod (IntKind.i64.wrap x2832) ((n2826 : Nat) : Int)))) fun n2838 c2839 =>
      grd ((n2292 + 1) ≤ 1099511627776) <|
      grd (List.length c2824 = n2292) <|
      m37_L0 N x1759 p1763 p1764 p1765 p1766 p1767 x1769 x1772 n (n2292 + 1) (IntKind.i64.wrap (x2293 + 1)) (c2824 ++ [(.lst false n2838 c2839)])) (
      some (n2292, c2294))
def m37 (N : Nat) (p1758 : PV) (x1759 : Int) : Option (PV) :=
  getA7 p1758 fun p1761 p1762 p1763 p1764 p1765 p1766 p1767 =>
  getI .u8 p1761 fun x1769 =>
  grd (x1759 ≠ 0) <|
  getI .u8 p1762 fun x1772 =>
  grd ((IntKind.i64.wrap ((IntKind.i64.wrap (1 + (Int.tmod (IntKind.i64.wrap x1769) x1759))) + 1)) ≠ 0) <|
  bnd' (m37_L0 N x1759 p1763 p1764 p1765 p1766 p1767 x1769 x1772 N 0 0 []) fun o =>
  match o with
  | (n2842, c2843) =>
    grd (List.length c2843 = n2842) <|
    some (.tup [(.int .i64 (IntKind.i64.wrap (1 + (Int.tmod (IntKind.i64.wrap x1769) x1759)))), (.lst false n2842 c2843)])
theorem c37 (N : Nat) (p1758 : PV) (x1759 : Int) (r : PV)  (h : m37 N p1758 x1759 = some r) : FnP Tryd.prog 37 [p1758, (.int .i64 x1759)] r := by
  unfold m37 at h
  refine Fn_of (sz := 45) tab_ok [0, 1, 2, 4, 5, 6, 7, 8, 9, 21, 22, 23] [.tmp 4, .tmp 5] Tryd.func37 rfl rfl rfl (by simp) ?_
  simp only [initSt, initEnv, List.map_cons, List.map_nil, List.getD_cons_zero, List.getD_cons_succ, List.getD_nil]
  have hh := getA7_some h; clear h; obtain ⟨p1761, p1762, p1763, p1764, p1765, p1766, p1767, h1760, h⟩ := hh
  have hh := getI_some h; clear h; obtain ⟨x1769, h1768, h⟩ := hh
  have hh := grd_some h; clear h; obtain ⟨g1770, h⟩ := hh
  have hh := getI_some h; clear h; obtain ⟨x1772, h1771, h⟩ := hh
  have hh := grd_some h; clear h; obtain ⟨g1773, h⟩ := hh
  refine W_sound tab_ok mixed 31 _ _ _ ?_
  simp -implicitDefEqProofs only [go_sem, qa, qb, qc, qd, qe, qf, qg, qh, qi, qj, qk, ↓reduceIte, h1760, h1768, g1770, h1771, g1773]
  repeat with_reducible refine ⟨by first | kernel_rfl | decide, ?_⟩
  refine Wp_weaken (Wk_ownS 7 1 rfl (by decide) (by decide)) ?_
  simp -implicitDefEqProofs only [go_sem, qa, qb, qc, qd, qe, qf, qg, qh, qi, qj, qk, ↓reduceIte, h1760, h1768, g1770, h1771, g1773]
  have hh := bnd'_some h; clear h; obtain ⟨o2845, h2846, h2847⟩ := hh
  refine Wp_cut (fun s => ∃ n2842, ∃ c2843, (n2842, c2843) = o2845 ∧ s = ⟨[], [(0, .dead), (1, .dead), (2, .dead), (4, .dead), (5, .dead), (6, .v (.int .i64 (IntKind.i64.wrap (1 + (Int.tmod (IntKind.i64.wrap x1769) x1759))))), (7, .sl false 0 0 n2842 1), (8, .dead), (9, .dead), (21, .dead), (22, .dead), (23, .dead)], [(0, .p c2843)], 1, []⟩) ?_ ?_
  · refine Wp_block ?_
    refine Wp_loopG (fun n s => ∃ n2292, ∃ x2293, ∃ c2294, m37_L0 N x1759 p1763 p1764 p1765 p1766 p1767 x1769 x1772 n n2292 x2293 c2294 = some o2845 ∧ s = ⟨[], [(0, .dead), (1, .dead), (2, .ptr 0 0), (4, .dead), (5, .dead), (6, .v (.int .i64 (IntKind.i64.wrap (1 + (Int.tmod (IntKind.i64.wrap x1769) x1759))))), (7, .sl false 1 0 n2292 1), (8, .dead), (9, .dead), (21, .v (.int .i64 (Int.tmod (IntKind.i64.wrap x1772) (IntKind.i64.wrap ((IntKind.i64.wrap (1 + (Int.tmod (IntKind.i64.wrap x1769) x1759))) + 1))))), (22, .v (.int .i64 x2293)), (23, .dead)], [(0, .p [(.int .u8 x1769), (.int .u8 x1772), p1763, p1764, p1765, p1766, p1767]), (1, .p c2294)], 2, []⟩) N _ ((Wk_le (.k (.k (.r (.k (.k (.r (.r (.r (.r (.r (.r (.r .nil)))))))))))) (OLe.refl _)).trans (cmpS_ok (st' := ⟨[], [(0, .dead), (1, .dead), (2, .ptr 0 0), (4, .dead), (5, .dead), (6, .v (.int .i64 (IntKind.i64.wrap (1 + (Int.tmod (IntKind.i64.wrap x1769) x1759))))), (7, .sl false 1 0 0 1), (8, .dead), (9, .dead), (21, .v (.int .i64 (Int.tmod (IntKind.i64.wrap x1772) (IntKind.i64.wrap ((IntKind.i64.wrap (1 + (Int.tmod (IntKind.i64.wrap x1769) x1759))) + 1))))), (22, .v (.int .i64 0)), (23, .dead)], [(0, .p [(.int .u8 x1769), (.int .u8 x1772), p1763, p1764, p1765, p1766, p1767]), (1, .p [])], 2, []⟩) (by kernel_rfl))) ⟨_, _, _, h2846, rfl⟩ ?_
    clear h2846
    rintro n _ ⟨n2292, x2293, c2294, h2846, rfl⟩
    cases n with
    | zero => cases h2846
    | succ n =>
      rw [m37_L0] at h2846
      have hh := brn_some h2846; clear h2846; rcases hh with ⟨h2295, h2846⟩ | ⟨h2295, h2846⟩
      · have hh := bnd'_some h2846; clear h2846; obtain ⟨⟨p2822, c2824⟩, h2823, h2846⟩ := hh
        (try dsimp only at h2846)
        refine W_sound tab_ok mixed 18 _ _ _ ?_
        simp -implicitDefEqProofs only [go_sem, qa, qb, qc, qd, qe, qf, qg, qh, qi, qj, qk, ↓reduceIte, h1760, h1768, g1770, h1771, g1773, h2295]
        repeat with_reducible refine ⟨by first | kernel_rfl | decide, ?_⟩
        refine Wp_callD [1] (c38_3 N _ _ _ _ _ h2823) rfl rfl rfl (by first | rfl | (simp only [go_sem, qa, qb, qc, qd, qe, qf, qg, qh, qi, qj, qk, ↓reduceIte, h1760, h1768, g1770, h1771, g1773, h2295] <;> rfl)) rfl (by kernel_rfl) ?_
        have hh := getL_some h2846; clear h2846; obtain ⟨n2826, c2827, h2825, h2846⟩ := hh
        have hh := grd_some h2846; clear h2846; obtain ⟨⟨g2828, g2829⟩, h2846⟩ := hh
        have hh := grd_some h2846; clear h2846; obtain ⟨g2830, h2846⟩ := hh
        have hh := getI_some h2846; clear h2846; obtain ⟨x2832, h2831, h2846⟩ := hh
        have hh := grd_some h2846; clear h2846; obtain ⟨g2833, h2846⟩ := hh
        have hh := grd_some h2846; clear h2846; obtain ⟨⟨g2834, g2835⟩, h2846⟩ := hh
        have hh := grd_some h2846; clear h2846; obtain ⟨g2836, h2846⟩ := hh
        have hh := getL_some h2846; clear h2846; obtain ⟨n2838, c2839, h2837, h2846⟩ := hh
        have hh := grd_some h2846; clear h2846; obtain ⟨g2840, h2846⟩ := hh
        have hh := grd_some h2846; clear h2846; obtain ⟨g2841, h2846⟩ := hh
        refine W_sound tab_ok mixed 24 _ _ _ ?_
        simp -implicitDefEqProofs only [go_sem, qa, qb, qc, qd, qe, qf, qg, qh, qi, qj, qk, ↓reduceIte, h1760, h1768, g1770, h1771, g1773, h2295, h2825, g2828, g2829, g2830, h2831, g2833, g2834, g2835, g2836, h2837, g2840, g2841]
        repeat with_reducible refine ⟨by first | kernel_rfl | decide, ?_⟩
        exact cutQ _ ((Wk_le (.r (.r (.r (.r (.r (.r (.r (.k (.k (.r (.r (.k .nil)))))))))))) (OLe.refl _)).trans (cmpS_ok (st' := ⟨[], [(0, .dead), (1, .dead), (2, .ptr 0 0), (4, .dead), (5, .dead), (6, .v (.int .i64 (IntKind.i64.wrap (1 + (Int.tmod (IntKind.i64.wrap x1769) x1759))))), (7, .sl false 1 0 (n2292 + 1) 1), (8, .dead), (9, .dead), (21, .v (.int .i64 (Int.tmod (IntKind.i64.wrap x1772) (IntKind.i64.wrap ((IntKind.i64.wrap (1 + (Int.tmod (IntKind.i64.wrap x1769) x1759))) + 1))))), (22, .v (.int .i64 (IntKind.i64.wrap (x2293 + 1)))), (23, .dead)], [(0, .p [(.int .u8 x1769), (.int .u8 x1772), p1763, p1764, p1765, p1766, p1767]), (1, .p (c2824 ++ [(.lst false n2838 c2839)]))], 2, []⟩) (by kernel_rfl))) ⟨n, Nat.lt_succ_self n, _, _, _, h2846, rfl⟩
      · refine W_sound tab_ok mixed 7 _ _ _ ?_
        simp -implicitDefEqProofs only [go_sem, qa, qb, qc, qd, qe, qf, qg, qh, qi, qj, qk, ↓reduceIte, h1760, h1768, g1770, h1771, g1773, h2295]
        repeat with_reducible refine ⟨by first | kernel_rfl | decide, ?_⟩
        obtain rfl := Option.some.inj h2846
        exact cutQ _ ((Wk_le (.r (.r (.k (.r (.r (.r (.r (.r (.r (.k (.k (.k .nil)))))))))))) (OLe.refl _)).trans (cmpS_ok (st' := ⟨[], [(0, .dead), (1, .dead), (2, .dead), (4, .dead), (5, .dead), (6, .v (.int .i64 (IntKind.i64.wrap (1 + (Int.tmod (IntKind.i64.wrap x1769) x1759))))), (7, .sl false 0 0 n2292 1), (8, .dead), (9, .dead), (21, .dead), (22, .dead), (23, .dead)], [(0, .p c2294)], 1, []⟩) (by kernel_rfl))) ⟨_, _, rfl, rfl⟩
  · rintro _ ⟨n2842, c2843, rfl, rfl⟩
    (try dsimp only at h2847)
    refine W_sound tab_ok mixed 9 _ _ _ ?_
    simp -implicitDefEqProofs only [go_sem, qa, qb, qc, qd, qe, qf, qg, qh, qi, qj, qk, ↓reduceIte, h1760, h1768, g1770, h1771, g1773]
    repeat with_reducible refine ⟨by first | kernel_rfl | decide, ?_⟩
    have hh := grd_some h2847; clear h2847; obtain ⟨g2844, h2847⟩ := hh
    refine FinQ_wk (Wk_freeze 0 c2843 (by rfl) (by decide) (by decide)) ?_
    simp -implicitDefEqProofs only [go_sem, qa, qb, qc, qd, qe, qf, qg, qh, qi, qj, qk, ↓reduceIte, h1760, h1768, g1770, h1771, g1773, g2844]
    obtain rfl := Option.some.inj h2847
    exact finC [(4, .v (.int .i64 (IntKind.i64.wrap (1 + (Int.tmod (IntKind.i64.wrap x1769) x1759))))), (5, .v (.lst false n2842 c2843))] [(4, .v (.int .i64 (IntKind.i64.wrap (1 + (Int.tmod (IntKind.i64.wrap x1769) x1759))))), (5, .v (.lst false n2842 c2843))] (by simp [leE, lk_cons]) (.cons _ _ _ _ _ (.v _ _ (.refl _)) (.cons _ _ _ _ _ (.v _ _ (.refl _)) .nil)) (by rfl) (by simp [leE, lk_cons]) (by decide) (by decide) rfl (by simp only [go_sem, qa, qb, qc, qd, qe, qf, qg, qh, qi, qj, qk, ↓reduceIte, resQ_tmp, resQ_cell, resQ_nil, retD_one, retD_two, retD_three, retD_none]; try simp [R.val, retD_one, retD_two, retD_three, retD_none])
def m40_L2 (N : Nat) (x2848 : Int) (n2851 : Nat) (c2852 : List PV) (x2854 : Int) (n2860 : Nat) (c2861 : List PV) (x2863 : Int) (x2869 : Int) : Nat → Int → Option ((PV ⊕ Unit))
  | 0, _ => none
  | n + 1, x2881 =>
    brn (decide (x2881 < (((Int.toNat x2854) : Nat) : Int))) (
      grd (0 ≤ x2881 ∧ x2881 < (((Int.toNat x2854) : Nat) : Int)) <|
      grd (0 < List.length (List.drop (Int.toNat x2881) (List.take (Int.toNat x2854) c2852)) ∧ (Int.toNat x2881) < (Int.toNat x2854)) <|
      getL (gp c2852 (Int.toNat x2881)) fun n2888 c2889 =>
      grd (x2863 < ((n2888 : Nat) : Int)) <|
      grd (0 < List.length (List.drop (Int.toNat x2863) c2889)) <|
      getI .i64 (gp c2889 (Int.toNat x2863)) fun x2893 =>
      brn (x2893 == x2869) (
        some (.inl (.bool false))) (
        m40_L2 N x2848 n2851 c2852 x2854 n2860 c2861 x2863 x2869 n (IntKind.i64.wrap (x2881 + 1)))) (
      some (.inr ()))
def m40_L1 (N : Nat) (x2848 : Int) (n2851 : Nat) (c2852 : List PV) (x2854 : Int) (n2860 : Nat) (c2861 : List PV) : Nat → Int → Option ((PV ⊕ Unit))
  | 0, _ => none
  | n + 1, x2863 =>
    brn (decide (x2863 < ((n2860 : Nat) : Int))) (
      grd (0 ≤ x2863 ∧ x2863 < ((n2860 : Nat) : Int)) <|
      grd (0 < List.length (List.drop (Int.toNat x2863) c2861)) <|
      getI .i64 (gp c2861 (Int.toNat x2863)) fun x2869 =>
      brn (decide (x2869 < 0)) (
        some (.inl (.bool false))) (
        brn (decide (x2869 ≥ x2848)) (
          some (.inl (.bool false))) (
          grd (x2863 ≤ ((n2860 : Nat) : Int)) <|
          grd (List.length c2861 = n2860) <|
          bnd' (m57 N (.lst false (Int.toNat x2863) (List.take (Int.toNat x2863) c2861)) x2869) fun p2874 =>
          getB p2874 fun b2877 =>
          brn b2877 (
            some (.inl (.bool false))) (
            grd (x2854 ≤ ((n2851 : Nat) : Int)) <|
            grd (List.length c2852 = n2851) <|
            bnd' (m40_L2 N x2848 n2851 c2852 x2854 n2860 c2861 x2863 x2869 N 0) fun o =>
            match o with
            | .inl p2895 =>
              some (.inl p2895)
            | .inr () =>
              m40_L1 N x2848 n2851 c2852 x2854 n2860 c2861 n (IntKind.i64.wrap (x2863 + 1)))))) (
      some (.inr ()))
def m40_L0 (N : Nat) (x2848 : Int) (n2851 : Nat) (c2852 : List PV) : Nat → Int → Option ((PV ⊕ Unit))
  | 0, _ => none
  | n + 1, x2854 =>
    brn (decide (x2854 < ((n2851 : Nat) : Int))) (
      grd (0 ≤ x2854 ∧ x2854 < ((n2851 : Nat) : Int)) <|
      grd (0 < List.length (List.drop (Int.toNat x2854) c2852)) <|
      getL (gp c2852 (Int.toNat x2854)) fun n2860 c2861 =>
      brn (((n2860 : Nat) : Int) != x2848) (
        some (.inl (.bool false))) (
        bnd' (m40_L1 N x2848 n2851 c2852 x2854 n2860 c2861 N 0) fun o =>
        match o with
        | .inl p2896 =>
          some (.inl p2896)
        | .inr () =>
          m40_L0 N x2848 n2851 c2852 n (IntKind.i64.wrap (x2854 + 1)))) (
      some (.inr ()))
def m40 (N : Nat) (x2848 : Int) (p2849 : PV) : Option (PV) :=
  getL p2849 fun n2851 c2852 =>
  brn (decide (((n2851 : Nat) : Int) > x2848)) (
    some (.bool false)) (
    bnd' (m40_L0 N x2848 n2851 c2852 N 0) fun o =>
    match o with
    | .inl p2897 =>
      some p2897
    | .inr () =>
      some (.bool true))
theorem c40 (N : Nat) (x2848 : Int) (p2849 : PV) (r : PV)  (h : m40 N x2848 p2849 = some r) : FnP Tryd.prog 40 [(.int .i64 x2848), p2849] r := by
  unfold m40 at h
  refine Fn_of (sz := 64) tab_ok [0, 1, 4, 5, 6, 7, 8, 10, 14, 15, 16, 17, 18, 25, 26, 27, 28, 29, 46, 49, 50, 51, 52, 60] [.tmp 4] Tryd.func40 rfl rfl rfl (by simp) ?_
  simp only [initSt, initEnv, List.map_cons, List.map_nil, List.getD_cons_zero, List.getD_cons_succ, List.getD_nil]
  have hh := getL_some h; clear h; obtain ⟨n2851, c2852, h2850, h⟩ := hh
  have hh := brn_some h; clear h; rcases hh with ⟨h2853, h⟩ | ⟨h2853, h⟩
  · refine W_sound tab_ok mixed 19 _ _ _ ?_
    simp -implicitDefEqProofs only [go_sem, qa, qb, qc, qd, qe, qf, qg, qh, qi, qj, qk, ↓reduceIte, h2850, h2853]
    repeat with_reducible refine ⟨by first | kernel_rfl | decide, ?_⟩
    obtain rfl := Option.some.inj h
    exact finC [(4, .v (.bool false))] [(4, .v (.bool false))] (by simp [leE, lk_cons]) (.cons _ _ _ _ _ (.v _ _ (.refl _)) .nil) (by rfl) (by simp [leE, lk_cons]) (by decide) (by decide) rfl (by simp only [go_sem, qa, qb, qc, qd, qe, qf, qg, qh, qi, qj, qk, ↓reduceIte, resQ_tmp, resQ_cell, resQ_nil, retD_one, retD_two, retD_three, retD_none]; try simp [R.val, retD_one, retD_two, retD_three, retD_none])
  · refine W_sound tab_ok mixed 21 _ _ _ ?_
    simp -implicitDefEqProofs only [go_sem, qa, qb, qc, qd, qe, qf, qg, qh, qi, qj, qk, ↓reduceIte, h2850, h2853]
    repeat with_reducible refine ⟨by first | kernel_rfl | decide, ?_⟩
    have hh := bnd'_some h; clear h; obtain ⟨o2898, h2899, h2900⟩ := hh
    refine Wp_cut (fun s => (.inr ()) = o2898 ∧ s = ⟨[], [(0, .dead), (1, .dead), (4, .dead), (5, .dead), (6, .dead), (7, .dead), (8, .dead), (10, .dead), (14, .dead), (15, .dead), (16, .dead), (17, .dead), (18, .dead), (25, .dead), (26, .dead), (27, .dead), (28, .dead), (29, .dead), (46, .dead), (49, .dead), (50, .dead), (51, .dead), (52, .dead), (60, .dead)], [], 0, []⟩) ?_ ?_
    · refine Wp_block ?_
      refine Wp_loopG (fun n s => ∃ x2854, m40_L0 N x2848 n2851 c2852 n x2854 = some o2898 ∧ s = ⟨[], [(0, .v (.int .i64 x2848)), (1, .v (.lst false n2851 c2852)), (4, .dead), (5, .dead), (6, .dead), (7, .dead), (8, .dead), (10, .dead), (14, .dead), (15, .v (.lst false n2851 c2852)), (16, .v (.int .i64 ((n2851 : Nat) : Int))), (17, .v (.int .i64 x2854)), (18, .dead), (25, .dead), (26, .dead), (27, .dead), (28, .dead), (29, .dead), (46, .dead), (49, .dead), (50, .dead), (51, .dead), (52, .dead), (60, .dead)], [], 0, []⟩) N _ ((Wk_le (.r (.r (.k (.r (.r (.r (.r (.r (.k (.r (.r (.r (.r (.r (.r (.r (.r (.r (.r (.r (.r (.r (.r (.r .nil)))))))))))))))))))))))) (OLe.refl _)).trans (cmpS_ok (st' := ⟨[], [(0, .v (.int .i64 x2848)), (1, .v (.lst false n2851 c2852)), (4, .dead), (5, .dead), (6, .dead), (7, .dead), (8, .dead), (10, .dead), (14, .dead), (15, .v (.lst false n2851 c2852)), (16, .v (.int .i64 ((n2851 : Nat) : Int))), (17, .v (.int .i64 0)), (18, .dead), (25, .dead), (26, .dead), (27, .dead), (28, .dead), (29, .dead), (46, .dead), (49, .dead), (50, .dead), (51, .dead), (52, .dead), (60, .dead)], [], 0, []⟩) (by kernel_rfl))) ⟨_, h2899, rfl⟩ ?_
      clear h2899
      rintro n _ ⟨x2854, h2899, rfl⟩
      cases n with
      | zero => cases h2899
      | succ n =>
        rw [m40_L0] at h2899
        have hh := brn_some h2899; clear h2899; rcases hh with ⟨h2855, h2899⟩ | ⟨h2855, h2899⟩
        · have hh := grd_some h2899; clear h2899; obtain ⟨⟨g2856, g2857⟩, h2899⟩ := hh
          have hh := grd_some h2899; clear h2899; obtain ⟨g2858, h2899⟩ := hh
          have hh := getL_some h2899; clear h2899; obtain ⟨n2860, c2861, h2859, h2899⟩ := hh
          have hh := brn_some h2899; clear h2899; rcases hh with ⟨h2862, h2899⟩ | ⟨h2862, h2899⟩
          · refine W_sound tab_ok mixed 32 _ _ _ ?_
            simp -implicitDefEqProofs only [go_sem, qa, qb, qc, qd, qe, qf, qg, qh, qi, qj, qk, ↓reduceIte, h2850, h2853, h2855, g2856, g2857, g2858, h2859, h2862]
            repeat with_reducible refine ⟨by first | kernel_rfl | decide, ?_⟩
            obtain rfl := Option.some.inj h2899
            (try dsimp only at h2900)
            obtain rfl := Option.some.inj h2900
            exact finC [(4, .v (.bool false))] [(4, .v (.bool false))] (by simp [leE, lk_cons]) (.cons _ _ _ _ _ (.v _ _ (.refl _)) .nil) (by rfl) (by simp [leE, lk_cons]) (by decide) (by decide) rfl (by simp only [go_sem, qa, qb, qc, qd, qe, qf, qg, qh, qi, qj, qk, ↓reduceIte, resQ_tmp, resQ_cell, resQ_nil, retD_one, retD_two, retD_three, retD_none]; try simp [R.val, retD_one, retD_two, retD_three, retD_none])
          · refine W_sound tab_ok mixed 33 _ _ _ ?_
            simp -implicitDefEqProofs only [go_sem, qa, qb, qc, qd, qe, qf, qg, qh, qi, qj, qk, ↓reduceIte, h2850, h2853, h2855, g2856, g2857, g2858, h2859, h2862]
            repeat with_reducible refine ⟨by first | kernel_rfl | decide, ?_⟩
            have hh := bnd'_some h2899; clear h2899; obtain ⟨o2901, h2902, h2903⟩ := hh
            refine Wp_cut (fun s => (.inr ()) = o2901 ∧ s = ⟨[], [(0, .v (.int .i64 x2848)), (1, .v (.lst false n2851 c2852)), (4, .dead), (5, .dead), (6, .dead), (7, .dead), (8, .dead), (10, .dead), (14, .dead), (15, .v (.lst false n2851 c2852)), (16, .v (.int .i64 ((n2851 : Nat) : Int))), (17, .v (.int .i64 x2854)), (18, .dead), (25, .dead), (26, .dead), (27, .dead), (28, .dead), (29, .dead), (46, .dead), (49, .dead), (50, .dead), (51, .dead), (52, .dead), (60, .dead)], [], 0, []⟩) ?_ ?_
            · refine Wp_block ?_
              refine Wp_loopG (fun n s => ∃ x2863, m40_L1 N x2848 n2851 c2852 x2854 n2860 c2861 n x2863 = some o2901 ∧ s = ⟨[], [(0, .v (.int .i64 x2848)), (1, .v (.lst false n2851 c2852)), (4, .dead), (5, .v (.int .i64 x2854)), (6, .v (.lst false n2860 c2861)), (7, .dead), (8, .dead), (10, .dead), (14, .dead), (15, .v (.lst false n2851 c2852)), (16, .v (.int .i64 ((n2851 : Nat) : Int))), (17, .v (.int .i64 x2854)), (18, .dead), (25, .dead), (26, .v (.lst false n2860 c2861)), (27, .v (.int .i64 ((n2860 : Nat) : Int))), (28, .v (.int .i64 x2863)), (29, .dead), (46, .dead), (49, .dead), (50, .dead), (51, .dead), (52, .dead), (60, .dead)], [], 0, []⟩) N _ ((Wk_le (.r (.r (.r (.r (.r (.r (.r (.r (.r (.r (.r (.r (.k (.k (.r (.r (.r (.r (.r (.r (.r (.r (.r (.r .nil)))))))))))))))))))))))) (OLe.refl _)).trans (cmpS_ok (st' := ⟨[], [(0, .v (.int .i64 x2848)), (1, .v (.lst false n2851 c2852)), (4, .dead), (5, .v (.int .i64 x2854)), (6, .v (.lst false n2860 c2861)), (7, .dead), (8, .dead), (10, .dead), (14, .dead), (15, .v (.lst false n2851 c2852)), (16, .v (.int .i64 ((n2851 : Nat) : Int))), (17, .v (.int .i64 x2854)), (18, .dead), (25, .dead), (26, .v (.lst false n2860 c2861)), (27, .v (.int .i64 ((n2860 : Nat) : Int))), (28, .v (.int .i64 0)), (29, .dead), (46, .dead), (49, .dead), (50, .dead), (51, .dead), (52, .dead), (60, .dead)], [], 0, []⟩) (by kernel_rfl))) ⟨_, h2902, rfl⟩ ?_
              clear h2902
              rintro n _ ⟨x2863, h2902, rfl⟩
              cases n with
              | zero => cases h2902
              | succ n =>
                rw [m40_L1] at h2902
                have hh := brn_some h2902; clear h2902; rcases hh with ⟨h2864, h2902⟩ | ⟨h2864, h2902⟩
                · have hh := grd_some h2902; clear h2902; obtain ⟨⟨g2865, g2866⟩, h2902⟩ := hh
                  have hh := grd_some h2902; clear h2902; obtain ⟨g2867, h2902⟩ := hh
                  have hh := getI_some h2902; clear h2902; obtain ⟨x2869, h2868, h2902⟩ := hh
                  have hh := brn_some h2902; clear h2902; rcases hh with ⟨h2870, h2902⟩ | ⟨h2870, h2902⟩
                  · refine W_sound tab_ok mixed 42 _ _ _ ?_
                    simp -implicitDefEqProofs only [go_sem, qa, qb, qc, qd, qe, qf, qg, qh, qi, qj, qk, ↓reduceIte, h2850, h2853, h2855, g2856, g2857, g2858, h2859, h2862, h2864, g2865, g2866, g2867, h2868, h2870]
                    repeat with_reducible refine ⟨by first | kernel_rfl | decide, ?_⟩
                    obtain rfl := Option.some.inj h2902
                    (try dsimp only at h2903)
                    obtain rfl := Option.some.inj h2903
                    (try dsimp only at h2900)
                    obtain rfl := Option.some.inj h2900
                    exact finC [(4, .v (.bool false))] [(4, .v (.bool false))] (by simp [leE, lk_cons]) (.cons _ _ _ _ _ (.v _ _ (.refl _)) .nil) (by rfl) (by simp [leE, lk_cons]) (by decide) (by decide) rfl (by simp only [go_sem, qa, qb, qc, qd, qe, qf, qg, qh, qi, qj, qk, ↓reduceIte, resQ_tmp, resQ_cell, resQ_nil, retD_one, retD_two, retD_three, retD_none]; try simp [R.val, retD_one, retD_two, retD_three, retD_none])
                  · have hh := brn_some h2902; clear h2902; rcases hh with ⟨h2871, h2902⟩ | ⟨h2871, h2902⟩
                    · refine W_sound tab_ok mixed 42 _ _ _ ?_
                      simp -implicitDefEqProofs only [go_sem, qa, qb, qc, qd, qe, qf, qg, qh, qi, qj, qk, ↓reduceIte, h2850, h2853, h2855, g2856, g2857, g2858, h2859, h2862, h2864, g2865, g2866, g2867, h2868, h2870, h2871]
                      repeat with_reducible refine ⟨by first | kernel_rfl | decide, ?_⟩
                      obtain rfl := Option.some.inj h2902
                      (try dsimp only at h2903)
                      obtain rfl := Option.some.inj h2903
                      (try dsimp only at h2900)
                      obtain rfl := Option.some.inj h2900
                      exact finC [(4, .v (.bool false))] [(4, .v (.bool false))] (by simp [leE, lk_cons]) (.cons _ _ _ _ _ (.v _ _ (.refl _)) .nil) (by rfl) (by simp [leE, lk_cons]) (by decide) (by decide) rfl (by simp only [go_sem, qa, qb, qc, qd, qe, qf, qg, qh, qi, qj, qk, ↓reduceIte, resQ_tmp, resQ_cell, resQ_nil, retD_one, retD_two, retD_three, retD_none]; try simp [R.val, retD_one, retD_two, retD_three, retD_none])
                    · have hh := grd_some h2902; clear h2902; obtain ⟨g2872, h2902⟩ := hh
                      have hh := grd_some h2902; clear h2902; obtain ⟨g2873, h2902⟩ := hh
                      have hh := bnd'_some h2902; clear h2902; obtain ⟨p2874, h2875, h2902⟩ := hh
                      refine W_sound tab_ok mixed 32 _ _ _ ?_
                      simp -implicitDefEqProofs only [go_sem, qa, qb, qc, qd, qe, qf, qg, qh, qi, qj, qk, ↓reduceIte, h2850, h2853, h2855, g2856, g2857, g2858, h2859, h2862, h2864, g2865, g2866, g2867, h2868, h2870, h2871, g2872, g2873]
                      repeat with_reducible refine ⟨by first | kernel_rfl | decide, ?_⟩
                      refine Wp_callP (c57 N _ _ _ h2875) (by kernel_rfl) rfl rfl rfl rfl (by decide) ?_
                      have hh := getB_some h2902; clear h2902; obtain ⟨b2877, h2876, h2902⟩ := hh
                      have hh := brn_some h2902; clear h2902; rcases hh with ⟨h2878, h2902⟩ | ⟨h2878, h2902⟩
                      · refine W_sound tab_ok mixed 9 _ _ _ ?_
                        simp -implicitDefEqProofs only [go_sem, qa, qb, qc, qd, qe, qf, qg, qh, qi, qj, qk, ↓reduceIte, h2850, h2853, h2855, g2856, g2857, g2858, h2859, h2862, h2864, g2865, g2866, g2867, h2868, h2870, h2871, g2872, g2873, h2876, h2878]
                        repeat with_reducible refine ⟨by first | kernel_rfl | decide, ?_⟩
                        obtain rfl := Option.some.inj h2902
                        (try dsimp only at h2903)
                        obtain rfl := Option.some.inj h2903
                        (try dsimp only at h2900)
                        obtain rfl := Option.some.inj h2900
                        exact finC [(4, .v (.bool false))] [(4, .v (.bool false))] (by simp [leE, lk_cons]) (.cons _ _ _ _ _ (.v _ _ (.refl _)) .nil) (by rfl) (by simp [leE, lk_cons]) (by decide) (by decide) rfl (by simp only [go_sem, qa, qb, qc, qd, qe, qf, qg, qh, qi, qj, qk, ↓reduceIte, resQ_tmp, resQ_cell, resQ_nil, retD_one, retD_two, retD_three, retD_none]; try simp [R.val, retD_one, retD_two, retD_three, retD_none])
                      · have hh := grd_some h2902; clear h2902; obtain ⟨g2879, h2902⟩ := hh
                        have hh := grd_some h2902; clear h2902; obtain ⟨g2880, h2902⟩ := hh
                        refine W_sound tab_ok mixed 12 _ _ _ ?_
                        simp -implicitDefEqProofs only [go_sem, qa, qb, qc, qd, qe, qf, qg, qh, qi, qj, qk, ↓reduceIte, h2850, h2853, h2855, g2856, g2857, g2858, h2859, h2862, h2864, g2865, g2866, g2867, h2868, h2870, h2871, g2872, g2873, h2876, h2878, g2879, g2880]
                        repeat with_reducible refine ⟨by first | kernel_rfl | decide, ?_⟩
                        have hh := bnd'_some h2902; clear h2902; obtain ⟨o2904, h2905, h2906⟩ := hh
                        refine Wp_cut (fun s => (.inr ()) = o2904 ∧ s = ⟨[], [(0, .v (.int .i64 x2848)), (1, .v (.lst false n2851 c2852)), (4, .dead), (5, .v (.int .i64 x2854)), (6, .v (.lst false n2860 c2861)), (7, .dead), (8, .dead), (10, .dead), (14, .dead), (15, .v (.lst false n2851 c2852)), (16, .v (.int .i64 ((n2851 : Nat) : Int))), (17, .v (.int .i64 x2854)), (18, .dead), (25, .dead), (26, .v (.lst false n2860 c2861)), (27, .v (.int .i64 ((n2860 : Nat) : Int))), (28, .v (.int .i64 x2863)), (29, .dead), (46, .dead), (49, .dead), (50, .dead), (51, .dead), (52, .dead), (60, .dead)], [], 0, []⟩) ?_ ?_
                        · refine Wp_block ?_
                          refine Wp_loopG (fun n s => ∃ x2881, m40_L2 N x2848 n2851 c2852 x2854 n2860 c2861 x2863 x2869 n x2881 = some o2904 ∧ s = ⟨[], [(0, .v (.int .i64 x2848)), (1, .v (.lst false n2851 c2852)), (4, .dead), (5, .v (.int .i64 x2854)), (6, .v (.lst false n2860 c2861)), (7, .v (.int .i64 x2863)), (8, .v (.int .i64 x2869)), (10, .dead), (14, .dead), (15, .v (.lst false n2851 c2852)), (16, .v (.int .i64 ((n2851 : Nat) : Int))), (17, .v (.int .i64 x2854)), (18, .dead), (25, .dead), (26, .v (.lst false n2860 c2861)), (27, .v (.int .i64 ((n2860 : Nat) : Int))), (28, .v (.int .i64 x2863)), (29, .dead), (46, .dead), (49, .v (.lst false (Int.toNat x2854) (List.take (Int.toNat x2854) c2852))), (50, .v (.int .i64 (((Int.toNat x2854) : Nat) : Int))), (51, .v (.int .i64 x2881)), (52, .dead), (60, .dead)], [], 0, []⟩) N _ ((Wk_le (.r (.r (.r (.r (.r (.r (.r (.r (.r (.r (.r (.r (.r (.r (.r (.r (.r (.k (.k (.r (.r (.r (.r (.r .nil)))))))))))))))))))))))) (OLe.refl _)).trans (cmpS_ok (st' := ⟨[], [(0, .v (.int .i64 x2848)), (1, .v (.lst false n2851 c2852)), (4, .dead), (5, .v (.int .i64 x2854)), (6, .v (.lst false n2860 c2861)), (7, .v (.int .i64 x2863)), (8, .v (.int .i64 x2869)), (10, .dead), (14, .dead), (15, .v (.lst false n2851 c2852)), (16, .v (.int .i64 ((n2851 : Nat) : Int))), (17, .v (.int .i64 x2854)), (18, .dead), (25, .dead), (26, .v (.lst false n2860 c2861)), (27, .v (.int .i64 ((n2860 : Nat) : Int))), (28, .v (.int .i64 x2863)), (29, .dead), (46, .dead), (49, .v (.lst false (Int.toNat x2854) (List.take (Int.toNat x2854) c2852))), (50, .v (.int .i64 (((Int.toNat x2854) : Nat) : Int))), (51, .v (.int .i64 0)), (52, .dead), (60, .dead)], [], 0, []⟩) (by kernel_rfl))) ⟨_, h2905, rfl⟩ ?_
                          clear h2905
                          rintro n _ ⟨x2881, h2905, rfl⟩
                          cases n with
                          | zero => cases h2905
                          | succ n =>
                            rw [m40_L2] at h2905
                            have hh := brn_some h2905; clear h2905; rcases hh with ⟨h2882, h2905⟩ | ⟨h2882, h2905⟩
                            · have hh := grd_some h2905; clear h2905; obtain ⟨⟨g2883, g2884⟩, h2905⟩ := hh
                              have hh := grd_some h2905; clear h2905; obtain ⟨⟨g2885, g2886⟩, h2905⟩ := hh
                              have hh := getL_some h2905; clear h2905; obtain ⟨n2888, c2889, h2887, h2905⟩ := hh
                              have hh := grd_some h2905; clear h2905; obtain ⟨g2890, h2905⟩ := hh
                              have hh := grd_some h2905; clear h2905; obtain ⟨g2891, h2905⟩ := hh
                              have hh := getI_some h2905; clear h2905; obtain ⟨x2893, h2892, h2905⟩ := hh
                              have hh := brn_some h2905; clear h2905; rcases hh with ⟨h2894, h2905⟩ | ⟨h2894, h2905⟩
                              · refine W_sound tab_ok mixed 31 _ _ _ ?_
                                simp -implicitDefEqProofs only [go_sem, qa, qb, qc, qd, qe, qf, qg, qh, qi, qj, qk, ↓reduceIte, h2850, h2853, h2855, g2856, g2857, g2858, h2859, h2862, h2864, g2865, g2866, g2867, h2868, h2870, h2871, g2872, g2873, h2876, h2878, g2879, g2880, h2882, g2883, g2884, g2885, g2886, h2887, g2890, g2891, h2892, h2894]
                                repeat with_reducible refine ⟨by first | kernel_rfl | decide, ?_⟩
                                obtain rfl := Option.some.inj h2905
                                (try dsimp only at h2906)
                                obtain rfl := Option.some.inj h2906
                                (try dsimp only at h2903)
                                obtain rfl := Option.some.inj h2903
                                (try dsimp only at h2900)
                                obtain rfl := Option.some.inj h2900
                                exact finC [(4, .v (.bool false))] [(4, .v (.bool false))] (by simp [leE, lk_cons]) (.cons _ _ _ _ _ (.v _ _ (.refl _)) .nil) (by rfl) (by simp [leE, lk_cons]) (by decide) (by decide) rfl (by simp only [go_sem, qa, qb, qc, qd, qe, qf, qg, qh, qi, qj, qk, ↓reduceIte, resQ_tmp, resQ_cell, resQ_nil, retD_one, retD_two, retD_three, retD_none]; try simp [R.val, retD_one, retD_two, retD_three, retD_none])
                              · refine W_sound tab_ok mixed 31 _ _ _ ?_
                                simp -implicitDefEqProofs only [go_sem, qa, qb, qc, qd, qe, qf, qg, qh, qi, qj, qk, ↓reduceIte, h2850, h2853, h2855, g2856, g2857, g2858, h2859, h2862, h2864, g2865, g2866, g2867, h2868, h2870, h2871, g2872, g2873, h2876, h2878, g2879, g2880, h2882, g2883, g2884, g2885, g2886, h2887, g2890, g2891, h2892, h2894]
                                repeat with_reducible refine ⟨by first | kernel_rfl | decide, ?_⟩
                                exact cutQ _ ((Wk_le (.r (.r (.r (.r (.r (.r (.r (.k (.r (.r (.r (.r (.r (.r (.r (.r (.r (.r (.r (.r (.r (.r (.k (.k .nil)))))))))))))))))))))))) (OLe.refl _)).trans (cmpS_ok (st' := ⟨[], [(0, .v (.int .i64 x2848)), (1, .v (.lst false n2851 c2852)), (4, .dead), (5, .v (.int .i64 x2854)), (6, .v (.lst false n2860 c2861)), (7, .v (.int .i64 x2863)), (8, .v (.int .i64 x2869)), (10, .dead), (14, .dead), (15, .v (.lst false n2851 c2852)), (16, .v (.int .i64 ((n2851 : Nat) : Int))), (17, .v (.int .i64 x2854)), (18, .dead), (25, .dead), (26, .v (.lst false n2860 c2861)), (27, .v (.int .i64 ((n2860 : Nat) : Int))), (28, .v (.int .i64 x2863)), (29, .dead), (46, .dead), (49, .v (.lst false (Int.toNat x2854) (List.take (Int.toNat x2854) c2852))), (50, .v (.int .i64 (((Int.toNat x2854) : Nat) : Int))), (51, .v (.int .i64 (IntKind.i64.wrap (x2881 + 1)))), (52, .dead), (60, .dead)], [], 0, []⟩) (by kernel_rfl))) ⟨n, Nat.lt_succ_self n, _, h2905, rfl⟩
                            · refine W_sound tab_ok mixed 7 _ _ _ ?_
                              simp -implicitDefEqProofs only [go_sem, qa, qb, qc, qd, qe, qf, qg, qh, qi, qj, qk, ↓reduceIte, h2850, h2853, h2855, g2856, g2857, g2858, h2859, h2862, h2864, g2865, g2866, g2867, h2868, h2870, h2871, g2872, g2873, h2876, h2878, g2879, g2880, h2882]
                              repeat with_reducible refine ⟨by first | kernel_rfl | decide, ?_⟩
                              obtain rfl := Option.some.inj h2905
                              exact cutQ _ ((Wk_le (.r (.r (.r (.r (.r (.k (.k (.r (.r (.r (.r (.r (.r (.r (.r (.r (.r (.r (.r (.k (.k (.k (.k (.r .nil)))))))))))))))))))))))) (OLe.refl _)).trans (cmpS_ok (st' := ⟨[], [(0, .v (.int .i64 x2848)), (1, .v (.lst false n2851 c2852)), (4, .dead), (5, .v (.int .i64 x2854)), (6, .v (.lst false n2860 c2861)), (7, .dead), (8, .dead), (10, .dead), (14, .dead), (15, .v (.lst false n2851 c2852)), (16, .v (.int .i64 ((n2851 : Nat) : Int))), (17, .v (.int .i64 x2854)), (18, .dead), (25, .dead), (26, .v (.lst false n2860 c2861)), (27, .v (.int .i64 ((n2860 : Nat) : Int))), (28, .v (.int .i64 x2863)), (29, .dead), (46, .dead), (49, .dead), (50, .dead), (51, .dead), (52, .dead), (60, .dead)], [], 0, []⟩) (by kernel_rfl))) ⟨rfl, rfl⟩
                        · rintro _ ⟨rfl, rfl⟩
                          (try dsimp only at h2906)
                          refine W_sound tab_ok mixed 5 _ _ _ ?_
                          simp -implicitDefEqProofs only [go_sem, qa, qb, qc, qd, qe, qf, qg, qh, qi, qj, qk, ↓reduceIte, h2850, h2853, h2855, g2856, g2857, g2858, h2859, h2862, h2864, g2865, g2866, g2867, h2868, h2870, h2871, g2872, g2873, h2876, h2878, g2879, g2880]
                          repeat with_reducible refine ⟨by first | kernel_rfl | decide, ?_⟩
                          exact cutQ _ ((Wk_le (.r (.r (.r (.r (.r (.r (.r (.r (.r (.r (.r (.r (.r (.r (.r (.r (.r (.r (.r (.r (.r (.r (.r (.r .nil)))))))))))))))))))))))) (OLe.refl _)).trans (cmpS_ok (st' := ⟨[], [(0, .v (.int .i64 x2848)), (1, .v (.lst false n2851 c2852)), (4, .dead), (5, .v (.int .i64 x2854)), (6, .v (.lst false n2860 c2861)), (7, .dead), (8, .dead), (10, .dead), (14, .dead), (15, .v (.lst false n2851 c2852)), (16, .v (.int .i64 ((n2851 : Nat) : Int))), (17, .v (.int .i64 x2854)), (18, .dead), (25, .dead), (26, .v (.lst false n2860 c2861)), (27, .v (.int .i64 ((n2860 : Nat) : Int))), (28, .v (.int .i64 (IntKind.i64.wrap (x2863 + 1)))), (29, .dead), (46, .dead), (49, .dead), (50, .dead), (51, .dead), (52, .dead), (60, .dead)], [], 0, []⟩) (by kernel_rfl))) ⟨n, Nat.lt_succ_self n, _, h2906, rfl⟩
                · refine W_sound tab_ok mixed 7 _ _ _ ?_
                  simp -implicitDefEqProofs only [go_sem, qa, qb, qc, qd, qe, qf, qg, qh, qi, qj, qk, ↓reduceIte, h2850, h2853, h2855, g2856, g2857, g2858, h2859, h2862, h2864]
                  repeat with_reducible refine ⟨by first | kernel_rfl | decide, ?_⟩
                  obtain rfl := Option.some.inj h2902
                  exact cutQ _ ((Wk_le (.r (.r (.r (.k (.k (.r (.r (.r (.r (.r (.r (.r (.r (.r (.k (.k (.k (.k (.r (.r (.r (.r (.r (.r .nil)))))))))))))))))))))))) (OLe.refl _)).trans (cmpS_ok (st' := ⟨[], [(0, .v (.int .i64 x2848)), (1, .v (.lst false n2851 c2852)), (4, .dead), (5, .dead), (6, .dead), (7, .dead), (8, .dead), (10, .dead), (14, .dead), (15, .v (.lst false n2851 c2852)), (16, .v (.int .i64 ((n2851 : Nat) : Int))), (17, .v (.int .i64 x2854)), (18, .dead), (25, .dead), (26, .dead), (27, .dead), (28, .dead), (29, .dead), (46, .dead), (49, .dead), (50, .dead), (51, .dead), (52, .dead), (60, .dead)], [], 0, []⟩) (by kernel_rfl))) ⟨rfl, rfl⟩
            · rintro _ ⟨rfl, rfl⟩
              (try dsimp only at h2903)
              refine W_sound tab_ok mixed 5 _ _ _ ?_
              simp -implicitDefEqProofs only [go_sem, qa, qb, qc, qd, qe, qf, qg, qh, qi, qj, qk, ↓reduceIte, h2850, h2853, h2855, g2856, g2857, g2858, h2859, h2862]
              repeat with_reducible refine ⟨by first | kernel_rfl | decide, ?_⟩
              exact cutQ _ ((Wk_le (.r (.r (.r (.r (.r (.r (.r (.r (.r (.r (.r (.r (.r (.r (.r (.r (.r (.r (.r (.r (.r (.r (.r (.r .nil)))))))))))))))))))))))) (OLe.refl _)).trans (cmpS_ok (st' := ⟨[], [(0, .v (.int .i64 x2848)), (1, .v (.lst false n2851 c2852)), (4, .dead), (5, .dead), (6, .dead), (7, .dead), (8, .dead), (10, .dead), (14, .dead), (15, .v (.lst false n2851 c2852)), (16, .v (.int .i64 ((n2851 : Nat) : Int))), (17, .v (.int .i64 (IntKind.i64.wrap (x2854 + 1)))), (18, .dead), (25, .dead), (26, .dead), (27, .dead), (28, .dead), (29, .dead), (46, .dead), (49, .dead), (50, .dead), (51, .dead), (52, .dead), (60, .dead)], [], 0, []⟩) (by kernel_rfl))) ⟨n, Nat.lt_succ_self n, _, h2903, rfl⟩
        · refine W_sound tab_ok mixed 7 _ _ _ ?_
          simp -implicitDefEqProofs only [go_sem, qa, qb, qc, qd, qe, qf, qg, qh, qi, qj, qk, ↓reduceIte, h2850, h2853, h2855]
          repeat with_reducible refine ⟨by first | kernel_rfl | decide, ?_⟩
          obtain rfl := Option.some.inj h2899
          exact cutQ _ ((Wk_le (.k (.k (.r (.r (.r (.r (.r (.r (.r (.k (.k (.k (.k (.r (.r (.r (.r (.r (.r (.r (.r (.r (.r (.r .nil)))))))))))))))))))))))) (OLe.refl _)).trans (cmpS_ok (st' := ⟨[], [(0, .dead), (1, .dead), (4, .dead), (5, .dead), (6, .dead), (7, .dead), (8, .dead), (10, .dead), (14, .dead), (15, .dead), (16, .dead), (17, .dead), (18, .dead), (25, .dead), (26, .dead), (27, .dead), (28, .dead), (29, .dead), (46, .dead), (49, .dead), (50, .dead), (51, .dead), (52, .dead), (60, .dead)], [], 0, []⟩) (by kernel_rfl))) ⟨rfl, rfl⟩
    · rintro _ ⟨rfl, rfl⟩
      (try dsimp only at h2900)
      refine W_sound tab_ok mixed 6 _ _ _ ?_
      simp -implicitDefEqProofs only [go_sem, qa, qb, qc, qd, qe, qf, qg, qh, qi, qj, qk, ↓reduceIte, h2850, h2853]
      repeat with_reducible refine ⟨by first | kernel_rfl | decide, ?_⟩
      obtain rfl := Option.some.inj h2900
      exact finC [(4, .v (.bool true))] [(4, .v (.bool true))] (by simp [leE, lk_cons]) (.cons _ _ _ _ _ (.v _ _ (.refl _)) .nil) (by rfl) (by simp [leE, lk_cons]) (by decide) (by decide) rfl (by simp only [go_sem, qa, qb, qc, qd, qe, qf, qg, qh, qi, qj, qk, ↓reduceIte, resQ_tmp, resQ_cell, resQ_nil, retD_one, retD_two, retD_three, retD_none]; try simp [R.val, retD_one, retD_two, retD_three, retD_none])
def m16 (N : Nat) : Option PV := some (.bool true)
theorem c16 (N : Nat) (r : PV) (h : m16 N = some r) : FnP Tryd.prog 16 [] r := by
  obtain rfl := Option.some.inj h
  exact k92
def m7_L1 (N : Nat) (x2922 : Int) (n2924 : Nat) (c2925 : List PV) (n2932 : Nat) (c2933 : List PV) (x2943 : Int) (n2949 : Nat) (c2950 : List PV) : Nat → Int → Option ((PV ⊕ Unit))
  | 0, _ => none
  | n + 1, x2951 =>
    brn (decide (x2951 < ((n2949 : Nat) : Int))) (
      grd (0 ≤ x2951 ∧ x2951 < ((n2949 : Nat) : Int)) <|
      grd (0 < List.length (List.drop (Int.toNat x2951) c2950)) <|
      getI .i64 (gp c2950 (Int.toNat x2951)) fun x2957 =>
      grd (x2943 < ((n2932 : Nat) : Int)) <|
      grd (0 < List.length (List.drop (Int.toNat x2943) c2933)) <|
      getL (gp c2933 (Int.toNat x2943)) fun n2961 c2962 =>
      grd (0 ≤ x2957 ∧ x2957 < ((n2961 : Nat) : Int)) <|
      grd (0 < List.length (List.drop (Int.toNat x2957) c2962)) <|
      getI .i64 (gp c2962 (Int.toNat x2957)) fun x2967 =>
      brn (x2967 != x2951) (
        some (.inl (.bool false))) (
        m7_L1 N x2922 n2924 c2925 n2932 c2933 x2943 n2949 c2950 n (IntKind.i64.wrap (x2951 + 1)))) (
      some (.inr ()))
def m7_L0 (N : Nat) (x2922 : Int) (n2924 : Nat) (c2925 : List PV) (n2932 : Nat) (c2933 : List PV) : Nat → Int → Option ((PV ⊕ Unit))
  | 0, _ => none
  | n + 1, x2943 =>
    brn (decide (x2943 < ((n2924 : Nat) : Int))) (
      grd (0 ≤ x2943 ∧ x2943 < ((n2924 : Nat) : Int)) <|
      grd (0 < List.length (List.drop (Int.toNat x2943) c2925)) <|
      getL (gp c2925 (Int.toNat x2943)) fun n2949 c2950 =>
      bnd' (m7_L1 N x2922 n2924 c2925 n2932 c2933 x2943 n2949 c2950 N 0) fun o =>
      match o with
      | .inl p2969 =>
        some (.inl p2969)
      | .inr () =>
        m7_L0 N x2922 n2924 c2925 n2932 c2933 n (IntKind.i64.wrap (x2943 + 1))) (
      some (.inr ()))
def m7 (N : Nat) (p2907 : PV) : Option (PV) :=
  getA7 p2907 fun p2909 p2910 p2911 p2912 p2913 p2914 p2915 =>
  bnd' (m37 N (.agg [p2909, p2910, p2911, p2912, p2913, p2914, p2915]) 5) fun p2916 =>
  getT2 p2916 fun p2919 p2920 =>
  getI .i64 p2919 fun x2922 =>
  getL p2920 fun n2924 c2925 =>
  bnd' (m27 N x2922 (.lst false n2924 c2925)) fun p2926 =>
  getT2 p2926 fun p2929 p2930 =>
  getL p2929 fun n2932 c2933 =>
  getI .i64 p2930 fun x2935 =>
  brn (x2935 != 0) (
    some (.bool false)) (
    brn (((n2932 : Nat) : Int) != ((n2924 : Nat) : Int)) (
      some (.bool false)) (
      bnd' (m40 N x2922 (.lst false n2932 c2933)) fun p2938 =>
      getB p2938 fun b2941 =>
      brn b2941 (
        bnd' (m7_L0 N x2922 n2924 c2925 n2932 c2933 N 0) fun o =>
        match o with
        | .inl p2970 =>
          some p2970
        | .inr () =>
          bnd' (m27 N x2922 (.lst false n2932 c2933)) fun p2971 =>
          getT2 p2971 fun p2974 p2975 =>
          getL p2974 fun n2977 c2978 =>
          getI .i64 p2975 fun x2980 =>
          brn (x2980 != 0) (
            some (.bool false)) (
            bnd' (m21 N (.lst false n2977 c2978) (.lst false n2924 c2925)) fun p2982 =>
            getB p2982 fun b2985 =>
            brn b2985 (
              bnd' (m25 N x2922 (.lst false n2924 c2925)) fun p2987 =>
              getT2 p2987 fun p2990 p2991 =>
              getI .i64 p2990 fun x2993 =>
              getI .i64 p2991 fun x2995 =>
              bnd' (m25 N x2922 (.lst false n2932 c2933)) fun p2996 =>
              getT2 p2996 fun p2999 p3000 =>
              getI .i64 p2999 fun x3002 =>
              getI .i64 p3000 fun x3004 =>
              brn (x2995 == x3004) (
                brn (x2993 == x3002) (
                  bnd' (m16 N ) fun p3007 =>
                  getB p3007 fun b3010 =>
                  some (.bool b3010)) (
                  some (.bool false))) (
                some (.bool false))) (
              some (.bool false)))) (
        some (.bool false))))
theorem c7 (N : Nat) (p2907 : PV) (r : PV)  (h : m7 N p2907 = some r) : FnP Tryd.prog 7 [p2907] r := by
  unfold m7 at h
  refine Fn_of (sz := 103) tab_ok [0, 1, 2, 3, 4, 5, 6, 7, 8, 9, 10, 11, 12, 13, 14, 40, 41, 42, 43, 44, 48, 49, 50, 51, 63, 79] [.tmp 2] Tryd.func7 rfl rfl rfl (by simp) ?_
  simp only [initSt, initEnv, List.map_cons, List.map_nil, List.getD_cons_zero, List.getD_cons_succ, List.getD_nil]
  have hh := getA7_some h; clear h; obtain ⟨p2909, p2910, p2911, p2912, p2913, p2914, p2915, h2908, h⟩ := hh
  have hh := bnd'_some h; clear h; obtain ⟨p2916, h2917, h⟩ := hh
  refine W_sound tab_ok mixed 8 _ _ _ ?_
  simp -implicitDefEqProofs only [go_sem, qa, qb, qc, qd, qe, qf, qg, qh, qi, qj, qk, ↓reduceIte, h2908]
  repeat with_reducible refine ⟨by first | kernel_rfl | decide, ?_⟩
  refine Wp_callP (c37 N _ _ _ h2917) (by kernel_rfl) rfl rfl rfl rfl (by decide) ?_
  have hh := getT2_some h; clear h; obtain ⟨p2919, p2920, h2918, h⟩ := hh
  have hh := getI_some h; clear h; obtain ⟨x2922, h2921, h⟩ := hh
  have hh := getL_some h; clear h; obtain ⟨n2924, c2925, h2923, h⟩ := hh
  have hh := bnd'_some h; clear h; obtain ⟨p2926, h2927, h⟩ := hh
  refine W_sound tab_ok mixed 10 _ _ _ ?_
  simp -implicitDefEqProofs only [go_sem, qa, qb, qc, qd, qe, qf, qg, qh, qi, qj, qk, ↓reduceIte, h2908, h2918, h2921, h2923]
  repeat with_reducible refine ⟨by first | kernel_rfl | decide, ?_⟩
  refine Wp_callP (c27 N _ _ _ h2927) (by kernel_rfl) rfl rfl rfl rfl (by decide) ?_
  have hh := getT2_some h; clear h; obtain ⟨p2929, p2930, h2928, h⟩ := hh
  have hh := getL_some h; clear h; obtain ⟨n2932, c2933, h2931, h⟩ := hh
  have hh := getI_some h; clear h; obtain ⟨x2935, h2934, h⟩ := hh
  have hh := brn_some h; clear h; rcases hh with ⟨h2936, h⟩ | ⟨h2936, h⟩
  · refine W_sound tab_ok mixed 32 _ _ _ ?_
    simp -implicitDefEqProofs only [go_sem, qa, qb, qc, qd, qe, qf, qg, qh, qi, qj, qk, ↓reduceIte, h2908, h2918, h2921, h2923, h2928, h2931, h2934, h2936]
    repeat with_reducible refine ⟨by first | kernel_rfl | decide, ?_⟩
    obtain rfl := Option.some.inj h
    exact finC [(2, .v (.bool false))] [(2, .v (.bool false))] (by simp [leE, lk_cons]) (.cons _ _ _ _ _ (.v _ _ (.refl _)) .nil) (by rfl) (by simp [leE, lk_cons]) (by decide) (by decide) rfl (by simp only [go_sem, qa, qb, qc, qd, qe, qf, qg, qh, qi, qj, qk, ↓reduceIte, resQ_tmp, resQ_cell, resQ_nil, retD_one, retD_two, retD_three, retD_none]; try simp [R.val, retD_one, retD_two, retD_three, retD_none])
  · have hh := brn_some h; clear h; rcases hh with ⟨h2937, h⟩ | ⟨h2937, h⟩
    · refine W_sound tab_ok mixed 32 _ _ _ ?_
      simp -implicitDefEqProofs only [go_sem, qa, qb, qc, qd, qe, qf, qg, qh, qi, qj, qk, ↓reduceIte, h2908, h2918, h2921, h2923, h2928, h2931, h2934, h2936, h2937]
      repeat with_reducible refine ⟨by first | kernel_rfl | decide, ?_⟩
      obtain rfl := Option.some.inj h
      exact finC [(2, .v (.bool false))] [(2, .v (.bool false))] (by simp [leE, lk_cons]) (.cons _ _ _ _ _ (.v _ _ (.refl _)) .nil) (by rfl) (by simp [leE, lk_cons]) (by decide) (by decide) rfl (by simp only [go_sem, qa, qb, qc, qd, qe, qf, qg, qh, qi, qj, qk, ↓reduceIte, resQ_tmp, resQ_cell, resQ_nil, retD_one, retD_two, retD_three, retD_none]; try simp [R.val, retD_one, retD_two, retD_three, retD_none])
    · have hh := bnd'_some h; clear h; obtain ⟨p2938, h2939, h⟩ := hh
      refine W_sound tab_ok mixed 21 _ _ _ ?_
      simp -implicitDefEqProofs only [go_sem, qa, qb, qc, qd, qe, qf, qg, qh, qi, qj, qk, ↓reduceIte, h2908, h2918, h2921, h2923, h2928, h2931, h2934, h2936, h2937]
      repeat with_reducible refine ⟨by first | kernel_rfl | decide, ?_⟩
      refine Wp_callP (c40 N _ _ _ h2939) (by kernel_rfl) rfl rfl rfl rfl (by decide) ?_
      have hh := getB_some h; clear h; obtain ⟨b2941, h2940, h⟩ := hh
      have hh := brn_some h; clear h; rcases hh with ⟨h2942, h⟩ | ⟨h2942, h⟩
      · refine W_sound tab_ok mixed 12 _ _ _ ?_
        simp -implicitDefEqProofs only [go_sem, qa, qb, qc, qd, qe, qf, qg, qh, qi, qj, qk, ↓reduceIte, h2908, h2918, h2921, h2923, h2928, h2931, h2934, h2936, h2937, h2940, h2942]
        repeat with_reducible refine ⟨by first | kernel_rfl | decide, ?_⟩
        have hh := bnd'_some h; clear h; obtain ⟨o3011, h3012, h3013⟩ := hh
        refine Wp_cut (fun s => (.inr ()) = o3011 ∧ s = ⟨[], [(0, .dead), (1, .dead), (2, .dead), (3, .v (.int .i64 x2922)), (4, .v (.lst false n2924 c2925)), (5, .v (.lst false n2932 c2933)), (6, .dead), (7, .dead), (8, .dead), (9, .dead), (10, .dead), (11, .dead), (12, .dead), (13, .dead), (14, .dead), (40, .dead), (41, .dead), (42, .dead), (43, .dead), (44, .dead), (48, .dead), (49, .dead), (50, .dead), (51, .dead), (63, .dead), (79, .dead)], [], 0, []⟩) ?_ ?_
        · refine Wp_block ?_
          refine Wp_loopG (fun n s => ∃ x2943, m7_L0 N x2922 n2924 c2925 n2932 c2933 n x2943 = some o3011 ∧ s = ⟨[], [(0, .dead), (1, .dead), (2, .dead), (3, .v (.int .i64 x2922)), (4, .v (.lst false n2924 c2925)), (5, .v (.lst false n2932 c2933)), (6, .dead), (7, .dead), (8, .dead), (9, .dead), (10, .dead), (11, .dead), (12, .dead), (13, .dead), (14, .dead), (40, .dead), (41, .v (.lst false n2924 c2925)), (42, .v (.int .i64 ((n2924 : Nat) : Int))), (43, .v (.int .i64 x2943)), (44, .dead), (48, .dead), (49, .dead), (50, .dead), (51, .dead), (63, .dead), (79, .dead)], [], 0, []⟩) N _ ((Wk_le (.k (.k (.k (.r (.r (.r (.k (.r (.r (.r (.r (.r (.r (.r (.r (.k (.r (.r (.r (.r (.r (.r (.r (.r (.r (.r .nil)))))))))))))))))))))))))) (OLe.refl _)).trans (cmpS_ok (st' := ⟨[], [(0, .dead), (1, .dead), (2, .dead), (3, .v (.int .i64 x2922)), (4, .v (.lst false n2924 c2925)), (5, .v (.lst false n2932 c2933)), (6, .dead), (7, .dead), (8, .dead), (9, .dead), (10, .dead), (11, .dead), (12, .dead), (13, .dead), (14, .dead), (40, .dead), (41, .v (.lst false n2924 c2925)), (42, .v (.int .i64 ((n2924 : Nat) : Int))), (43, .v (.int .i64 0)), (44, .dead), (48, .dead), (49, .dead), (50, .dead), (51, .dead), (63, .dead), (79, .dead)], [], 0, []⟩) (by kernel_rfl))) ⟨_, h3012, rfl⟩ ?_
          clear h3012
          rintro n _ ⟨x2943, h3012, rfl⟩
          cases n with
          | zero => cases h3012
          | succ n =>
            rw [m7_L0] at h3012
            have hh := brn_some h3012; clear h3012; rcases hh with ⟨h2944, h3012⟩ | ⟨h2944, h3012⟩
            · have hh := grd_some h3012; clear h3012; obtain ⟨⟨g2945, g2946⟩, h3012⟩ := hh
              have hh := grd_some h3012; clear h3012; obtain ⟨g2947, h3012⟩ := hh
              have hh := getL_some h3012; clear h3012; obtain ⟨n2949, c2950, h2948, h3012⟩ := hh
              refine W_sound tab_ok mixed 23 _ _ _ ?_
              simp -implicitDefEqProofs only [go_sem, qa, qb, qc, qd, qe, qf, qg, qh, qi, qj, qk, ↓reduceIte, h2908, h2918, h2921, h2923, h2928, h2931, h2934, h2936, h2937, h2940, h2942, h2944, g2945, g2946, g2947, h2948]
              repeat with_reducible refine ⟨by first | kernel_rfl | decide, ?_⟩
              have hh := bnd'_some h3012; clear h3012; obtain ⟨o3014, h3015, h3016⟩ := hh
              refine Wp_cut (fun s => (.inr ()) = o3014 ∧ s = ⟨[], [(0, .dead), (1, .dead), (2, .dead), (3, .v (.int .i64 x2922)), (4, .v (.lst false n2924 c2925)), (5, .v (.lst false n2932 c2933)), (6, .dead), (7, .dead), (8, .dead), (9, .dead), (10, .dead), (11, .dead), (12, .dead), (13, .dead), (14, .dead), (40, .dead), (41, .v (.lst false n2924 c2925)), (42, .v (.int .i64 ((n2924 : Nat) : Int))), (43, .v (.int .i64 x2943)), (44, .dead), (48, .dead), (49, .dead), (50, .dead), (51, .dead), (63, .dead), (79, .dead)], [], 0, []⟩) ?_ ?_
              · refine Wp_block ?_
                refine Wp_loopG (fun n s => ∃ x2951, m7_L1 N x2922 n2924 c2925 n2932 c2933 x2943 n2949 c2950 n x2951 = some o3014 ∧ s = ⟨[], [(0, .dead), (1, .dead), (2, .dead), (3, .v (.int .i64 x2922)), (4, .v (.lst false n2924 c2925)), (5, .v (.lst false n2932 c2933)), (6, .dead), (7, .v (.int .i64 x2943)), (8, .dead), (9, .dead), (10, .dead), (11, .dead), (12, .dead), (13, .dead), (14, .dead), (40, .dead), (41, .v (.lst false n2924 c2925)), (42, .v (.int .i64 ((n2924 : Nat) : Int))), (43, .v (.int .i64 x2943)), (44, .dead), (48, .v (.lst false n2949 c2950)), (49, .v (.int .i64 ((n2949 : Nat) : Int))), (50, .v (.int .i64 x2951)), (51, .dead), (63, .dead), (79, .dead)], [], 0, []⟩) N _ ((Wk_le (.r (.r (.r (.r (.r (.r (.r (.r (.k (.r (.r (.r (.r (.r (.r (.r (.r (.r (.r (.k (.r (.r (.r (.r (.r (.r .nil)))))))))))))))))))))))))) (OLe.refl _)).trans (cmpS_ok (st' := ⟨[], [(0, .dead), (1, .dead), (2, .dead), (3, .v (.int .i64 x2922)), (4, .v (.lst false n2924 c2925)), (5, .v (.lst false n2932 c2933)), (6, .dead), (7, .v (.int .i64 x2943)), (8, .dead), (9, .dead), (10, .dead), (11, .dead), (12, .dead), (13, .dead), (14, .dead), (40, .dead), (41, .v (.lst false n2924 c2925)), (42, .v (.int .i64 ((n2924 : Nat) : Int))), (43, .v (.int .i64 x2943)), (44, .dead), (48, .v (.lst false n2949 c2950)), (49, .v (.int .i64 ((n2949 : Nat) : Int))), (50, .v (.int .i64 0)), (51, .dead), (63, .dead), (79, .dead)], [], 0, []⟩) (by kernel_rfl))) ⟨_, h3015, rfl⟩ ?_
                clear h3015
                rintro n _ ⟨x2951, h3015, rfl⟩
                cases n with
                | zero => cases h3015
                | succ n =>
                  rw [m7_L1] at h3015
                  have hh := brn_some h3015; clear h3015; rcases hh with ⟨h2952, h3015⟩ | ⟨h2952, h3015⟩
                  · have hh := grd_some h3015; clear h3015; obtain ⟨⟨g2953, g2954⟩, h3015⟩ := hh
                    have hh := grd_some h3015; clear h3015; obtain ⟨g2955, h3015⟩ := hh
                    have hh := getI_some h3015; clear h3015; obtain ⟨x2957, h2956, h3015⟩ := hh
                    have hh := grd_some h3015; clear h3015; obtain ⟨g2958, h3015⟩ := hh
                    have hh := grd_some h3015; clear h3015; obtain ⟨g2959, h3015⟩ := hh
                    have hh := getL_some h3015; clear h3015; obtain ⟨n2961, c2962, h2960, h3015⟩ := hh
                    have hh := grd_some h3015; clear h3015; obtain ⟨⟨g2963, g2964⟩, h3015⟩ := hh
                    have hh := grd_some h3015; clear h3015; obtain ⟨g2965, h3015⟩ := hh
                    have hh := getI_some h3015; clear h3015; obtain ⟨x2967, h2966, h3015⟩ := hh
                    have hh := brn_some h3015; clear h3015; rcases hh with ⟨h2968, h3015⟩ | ⟨h2968, h3015⟩
                    · refine W_sound tab_ok mixed 36 _ _ _ ?_
                      simp -implicitDefEqProofs only [go_sem, qa, qb, qc, qd, qe, qf, qg, qh, qi, qj, qk, ↓reduceIte, h2908, h2918, h2921, h2923, h2928, h2931, h2934, h2936, h2937, h2940, h2942, h2944, g2945, g2946, g2947, h2948, h2952, g2953, g2954, g2955, h2956, g2958, g2959, h2960, g2963, g2964, g2965, h2966, h2968]
                      repeat with_reducible refine ⟨by first | kernel_rfl | decide, ?_⟩
                      obtain rfl := Option.some.inj h3015
                      (try dsimp only at h3016)
                      obtain rfl := Option.some.inj h3016
                      (try dsimp only at h3013)
                      obtain rfl := Option.some.inj h3013
                      exact finC [(2, .v (.bool false))] [(2, .v (.bool false))] (by simp [leE, lk_cons]) (.cons _ _ _ _ _ (.v _ _ (.refl _)) .nil) (by rfl) (by simp [leE, lk_cons]) (by decide) (by decide) rfl (by simp only [go_sem, qa, qb, qc, qd, qe, qf, qg, qh, qi, qj, qk, ↓reduceIte, resQ_tmp, resQ_cell, resQ_nil, retD_one, retD_two, retD_three, retD_none]; try simp [R.val, retD_one, retD_two, retD_three, retD_none])
                    · refine W_sound tab_ok mixed 36 _ _ _ ?_
                      simp -implicitDefEqProofs only [go_sem, qa, qb, qc, qd, qe, qf, qg, qh, qi, qj, qk, ↓reduceIte, h2908, h2918, h2921, h2923, h2928, h2931, h2934, h2936, h2937, h2940, h2942, h2944, g2945, g2946, g2947, h2948, h2952, g2953, g2954, g2955, h2956, g2958, g2959, h2960, g2963, g2964, g2965, h2966, h2968]
                      repeat with_reducible refine ⟨by first | kernel_rfl | decide, ?_⟩
                      exact cutQ _ ((Wk_le (.r (.r (.r (.r (.r (.r (.r (.r (.r (.k (.k (.r (.r (.r (.r (.r (.r (.r (.r (.r (.r (.r (.r (.k (.k (.r .nil)))))))))))))))))))))))))) (OLe.refl _)).trans (cmpS_ok (st' := ⟨[], [(0, .dead), (1, .dead), (2, .dead), (3, .v (.int .i64 x2922)), (4, .v (.lst false n2924 c2925)), (5, .v (.lst false n2932 c2933)), (6, .dead), (7, .v (.int .i64 x2943)), (8, .dead), (9, .dead), (10, .dead), (11, .dead), (12, .dead), (13, .dead), (14, .dead), (40, .dead), (41, .v (.lst false n2924 c2925)), (42, .v (.int .i64 ((n2924 : Nat) : Int))), (43, .v (.int .i64 x2943)), (44, .dead), (48, .v (.lst false n2949 c2950)), (49, .v (.int .i64 ((n2949 : Nat) : Int))), (50, .v (.int .i64 (IntKind.i64.wrap (x2951 + 1)))), (51, .dead), (63, .dead), (79, .dead)], [], 0, []⟩) (by kernel_rfl))) ⟨n, Nat.lt_succ_self n, _, h3015, rfl⟩
                  · refine W_sound tab_ok mixed 7 _ _ _ ?_
                    simp -implicitDefEqProofs only [go_sem, qa, qb, qc, qd, qe, qf, qg, qh, qi, qj, qk, ↓reduceIte, h2908, h2918, h2921, h2923, h2928, h2931, h2934, h2936, h2937, h2940, h2942, h2944, g2945, g2946, g2947, h2948, h2952]
                    repeat with_reducible refine ⟨by first | kernel_rfl | decide, ?_⟩
                    obtain rfl := Option.some.inj h3015
                    exact cutQ _ ((Wk_le (.r (.r (.r (.r (.r (.r (.r (.k (.r (.r (.r (.r (.r (.r (.r (.r (.r (.r (.r (.r (.k (.k (.k (.k (.r (.r .nil)))))))))))))))))))))))))) (OLe.refl _)).trans (cmpS_ok (st' := ⟨[], [(0, .dead), (1, .dead), (2, .dead), (3, .v (.int .i64 x2922)), (4, .v (.lst false n2924 c2925)), (5, .v (.lst false n2932 c2933)), (6, .dead), (7, .dead), (8, .dead), (9, .dead), (10, .dead), (11, .dead), (12, .dead), (13, .dead), (14, .dead), (40, .dead), (41, .v (.lst false n2924 c2925)), (42, .v (.int .i64 ((n2924 : Nat) : Int))), (43, .v (.int .i64 x2943)), (44, .dead), (48, .dead), (49, .dead), (50, .dead), (51, .dead), (63, .dead), (79, .dead)], [], 0, []⟩) (by kernel_rfl))) ⟨rfl, rfl⟩
              · rintro _ ⟨rfl, rfl⟩
                (try dsimp only at h3016)
                refine W_sound tab_ok mixed 5 _ _ _ ?_
                simp -implicitDefEqProofs only [go_sem, qa, qb, qc, qd, qe, qf, qg, qh, qi, qj, qk, ↓reduceIte, h2908, h2918, h2921, h2923, h2928, h2931, h2934, h2936, h2937, h2940, h2942, h2944, g2945, g2946, g2947, h2948]
                repeat with_reducible refine ⟨by first | kernel_rfl | decide, ?_⟩
                exact cutQ _ ((Wk_le (.r (.r (.r (.r (.r (.r (.r (.r (.r (.r (.r (.r (.r (.r (.r (.r (.r (.r (.r (.r (.r (.r (.r (.r (.r (.r .nil)))))))))))))))))))))))))) (OLe.refl _)).trans (cmpS_ok (st' := ⟨[], [(0, .dead), (1, .dead), (2, .dead), (3, .v (.int .i64 x2922)), (4, .v (.lst false n2924 c2925)), (5, .v (.lst false n2932 c2933)), (6, .dead), (7, .dead), (8, .dead), (9, .dead), (10, .dead), (11, .dead), (12, .dead), (13, .dead), (14, .dead), (40, .dead), (41, .v (.lst false n2924 c2925)), (42, .v (.int .i64 ((n2924 : Nat) : Int))), (43, .v (.int .i64 (IntKind.i64.wrap (x2943 + 1)))), (44, .dead), (48, .dead), (49, .dead), (50, .dead), (51, .dead), (63, .dead), (79, .dead)], [], 0, []⟩) (by kernel_rfl))) ⟨n, Nat.lt_succ_self n, _, h3016, rfl⟩
            · refine W_sound tab_ok mixed 7 _ _ _ ?_
              simp -implicitDefEqProofs only [go_sem, qa, qb, qc, qd, qe, qf, qg, qh, qi, qj, qk, ↓reduceIte, h2908, h2918, h2921, h2923, h2928, h2931, h2934, h2936, h2937, h2940, h2942, h2944]
              repeat with_reducible refine ⟨by first | kernel_rfl | decide, ?_⟩
              obtain rfl := Option.some.inj h3012
              exact cutQ _ ((Wk_le (.r (.r (.r (.r (.r (.r (.r (.r (.r (.r (.r (.r (.r (.r (.r (.r (.k (.k (.k (.k (.r (.r (.r (.r (.r (.r .nil)))))))))))))))))))))))))) (OLe.refl _)).trans (cmpS_ok (st' := ⟨[], [(0, .dead), (1, .dead), (2, .dead), (3, .v (.int .i64 x2922)), (4, .v (.lst false n2924 c2925)), (5, .v (.lst false n2932 c2933)), (6, .dead), (7, .dead), (8, .dead), (9, .dead), (10, .dead), (11, .dead), (12, .dead), (13, .dead), (14, .dead), (40, .dead), (41, .dead), (42, .dead), (43, .dead), (44, .dead), (48, .dead), (49, .dead), (50, .dead), (51, .dead), (63, .dead), (79, .dead)], [], 0, []⟩) (by kernel_rfl))) ⟨rfl, rfl⟩
        · rintro _ ⟨rfl, rfl⟩
          (try dsimp only at h3013)
          have hh := bnd'_some h3013; clear h3013; obtain ⟨p2971, h2972, h3013⟩ := hh
          refine W_sound tab_ok mixed 4 _ _ _ ?_
          simp -implicitDefEqProofs only [go_sem, qa, qb, qc, qd, qe, qf, qg, qh, qi, qj, qk, ↓reduceIte, h2908, h2918, h2921, h2923, h2928, h2931, h2934, h2936, h2937, h2940, h2942]
          repeat with_reducible refine ⟨by first | kernel_rfl | decide, ?_⟩
          refine Wp_callP (c27 N _ _ _ h2972) (by kernel_rfl) rfl rfl rfl rfl (by decide) ?_
          have hh := getT2_some h3013; clear h3013; obtain ⟨p2974, p2975, h2973, h3013⟩ := hh
          have hh := getL_some h3013; clear h3013; obtain ⟨n2977, c2978, h2976, h3013⟩ := hh
          have hh := getI_some h3013; clear h3013; obtain ⟨x2980, h2979, h3013⟩ := hh
          have hh := brn_some h3013; clear h3013; rcases hh with ⟨h2981, h3013⟩ | ⟨h2981, h3013⟩
          · refine W_sound tab_ok mixed 25 _ _ _ ?_
            simp -implicitDefEqProofs only [go_sem, qa, qb, qc, qd, qe, qf, qg, qh, qi, qj, qk, ↓reduceIte, h2908, h2918, h2921, h2923, h2928, h2931, h2934, h2936, h2937, h2940, h2942, h2973, h2976, h2979, h2981]
            repeat with_reducible refine ⟨by first | kernel_rfl | decide, ?_⟩
            obtain rfl := Option.some.inj h3013
            exact finC [(2, .v (.bool false))] [(2, .v (.bool false))] (by simp [leE, lk_cons]) (.cons _ _ _ _ _ (.v _ _ (.refl _)) .nil) (by rfl) (by simp [leE, lk_cons]) (by decide) (by decide) rfl (by simp only [go_sem, qa, qb, qc, qd, qe, qf, qg, qh, qi, qj, qk, ↓reduceIte, resQ_tmp, resQ_cell, resQ_nil, retD_one, retD_two, retD_three, retD_none]; try simp [R.val, retD_one, retD_two, retD_three, retD_none])
          · have hh := bnd'_some h3013; clear h3013; obtain ⟨p2982, h2983, h3013⟩ := hh
            refine W_sound tab_ok mixed 14 _ _ _ ?_
            simp -implicitDefEqProofs only [go_sem, qa, qb, qc, qd, qe, qf, qg, qh, qi, qj, qk, ↓reduceIte, h2908, h2918, h2921, h2923, h2928, h2931, h2934, h2936, h2937, h2940, h2942, h2973, h2976, h2979, h2981]
            repeat with_reducible refine ⟨by first | kernel_rfl | decide, ?_⟩
            refine Wp_callP (c21 N _ _ _ h2983) (by kernel_rfl) rfl rfl rfl rfl (by decide) ?_
            have hh := getB_some h3013; clear h3013; obtain ⟨b2985, h2984, h3013⟩ := hh
            have hh := brn_some h3013; clear h3013; rcases hh with ⟨h2986, h3013⟩ | ⟨h2986, h3013⟩
            · have hh := bnd'_some h3013; clear h3013; obtain ⟨p2987, h2988, h3013⟩ := hh
              refine W_sound tab_ok mixed 9 _ _ _ ?_
              simp -implicitDefEqProofs only [go_sem, qa, qb, qc, qd, qe, qf, qg, qh, qi, qj, qk, ↓reduceIte, h2908, h2918, h2921, h2923, h2928, h2931, h2934, h2936, h2937, h2940, h2942, h2973, h2976, h2979, h2981, h2984, h2986]
              repeat with_reducible refine ⟨by first | kernel_rfl | decide, ?_⟩
              refine Wp_callP (c25 N _ _ _ h2988) (by kernel_rfl) rfl rfl rfl rfl (by decide) ?_
              have hh := getT2_some h3013; clear h3013; obtain ⟨p2990, p2991, h2989, h3013⟩ := hh
              have hh := getI_some h3013; clear h3013; obtain ⟨x2993, h2992, h3013⟩ := hh
              have hh := getI_some h3013; clear h3013; obtain ⟨x2995, h2994, h3013⟩ := hh
              have hh := bnd'_some h3013; clear h3013; obtain ⟨p2996, h2997, h3013⟩ := hh
              refine W_sound tab_ok mixed 10 _ _ _ ?_
              simp -implicitDefEqProofs only [go_sem, qa, qb, qc, qd, qe, qf, qg, qh, qi, qj, qk, ↓reduceIte, h2908, h2918, h2921, h2923, h2928, h2931, h2934, h2936, h2937, h2940, h2942, h2973, h2976, h2979, h2981, h2984, h2986, h2989, h2992, h2994]
              repeat with_reducible refine ⟨by first | kernel_rfl | decide, ?_⟩
              refine Wp_callP (c25 N _ _ _ h2997) (by kernel_rfl) rfl rfl rfl rfl (by decide) ?_
              have hh := getT2_some h3013; clear h3013; obtain ⟨p2999, p3000, h2998, h3013⟩ := hh
              have hh := getI_some h3013; clear h3013; obtain ⟨x3002, h3001, h3013⟩ := hh
              have hh := getI_some h3013; clear h3013; obtain ⟨x3004, h3003, h3013⟩ := hh
              have hh := brn_some h3013; clear h3013; rcases hh with ⟨h3005, h3013⟩ | ⟨h3005, h3013⟩
              · have hh := brn_some h3013; clear h3013; rcases hh with ⟨h3006, h3013⟩ | ⟨h3006, h3013⟩
                · have hh := bnd'_some h3013; clear h3013; obtain ⟨p3007, h3008, h3013⟩ := hh
                  refine W_sound tab_ok mixed 17 _ _ _ ?_
                  simp -implicitDefEqProofs only [go_sem, qa, qb, qc, qd, qe, qf, qg, qh, qi, qj, qk, ↓reduceIte, h2908, h2918, h2921, h2923, h2928, h2931, h2934, h2936, h2937, h2940, h2942, h2973, h2976, h2979, h2981, h2984, h2986, h2989, h2992, h2994, h2998, h3001, h3003, h3005, h3006]
                  repeat with_reducible refine ⟨by first | kernel_rfl | decide, ?_⟩
                  refine Wp_callP (c16 N  _ h3008) (by kernel_rfl) rfl rfl rfl rfl (by decide) ?_
                  have hh := getB_some h3013; clear h3013; obtain ⟨b3010, h3009, h3013⟩ := hh
                  refine W_sound tab_ok mixed 5 _ _ _ ?_
                  simp -implicitDefEqProofs only [go_sem, qa, qb, qc, qd, qe, qf, qg, qh, qi, qj, qk, ↓reduceIte, h2908, h2918, h2921, h2923, h2928, h2931, h2934, h2936, h2937, h2940, h2942, h2973, h2976, h2979, h2981, h2984, h2986, h2989, h2992, h2994, h2998, h3001, h3003, h3005, h3006, h3009]
                  repeat with_reducible refine ⟨by first | kernel_rfl | decide, ?_⟩
                  obtain rfl := Option.some.inj h3013
                  exact finC [(2, .v (.bool b3010))] [(2, .v (.bool b3010))] (by simp [leE, lk_cons]) (.cons _ _ _ _ _ (.v _ _ (.refl _)) .nil) (by rfl) (by simp [leE, lk_cons]) (by decide) (by decide) rfl (by simp only [go_sem, qa, qb, qc, qd, qe, qf, qg, qh, qi, qj, qk, ↓reduceIte, resQ_tmp, resQ_cell, resQ_nil, retD_one, retD_two, retD_three, retD_none]; try simp [R.val, retD_one, retD_two, retD_three, retD_none])
                · refine W_sound tab_ok mixed 23 _ _ _ ?_
                  simp -implicitDefEqProofs only [go_sem, qa, qb, qc, qd, qe, qf, qg, qh, qi, qj, qk, ↓reduceIte, h2908, h2918, h2921, h2923, h2928, h2931, h2934, h2936, h2937, h2940, h2942, h2973, h2976, h2979, h2981, h2984, h2986, h2989, h2992, h2994, h2998, h3001, h3003, h3005, h3006]
                  repeat with_reducible refine ⟨by first | kernel_rfl | decide, ?_⟩
                  obtain rfl := Option.some.inj h3013
                  exact finC [(2, .v (.bool false))] [(2, .v (.bool false))] (by simp [leE, lk_cons]) (.cons _ _ _ _ _ (.v _ _ (.refl _)) .nil) (by rfl) (by simp [leE, lk_cons]) (by decide) (by decide) rfl (by simp only [go_sem, qa, qb, qc, qd, qe, qf, qg, qh, qi, qj, qk, ↓reduceIte, resQ_tmp, resQ_cell, resQ_nil, retD_one, retD_two, retD_three, retD_none]; try simp [R.val, retD_one, retD_two, retD_three, retD_none])
              · refine W_sound tab_ok mixed 23 _ _ _ ?_
                simp -implicitDefEqProofs only [go_sem, qa, qb, qc, qd, qe, qf, qg, qh, qi, qj, qk, ↓reduceIte, h2908, h2918, h2921, h2923, h2928, h2931, h2934, h2936, h2937, h2940, h2942, h2973, h2976, h2979, h2981, h2984, h2986, h2989, h2992, h2994, h2998, h3001, h3003, h3005]
                repeat with_reducible refine ⟨by first | kernel_rfl | decide, ?_⟩
                obtain rfl := Option.some.inj h3013
                exact finC [(2, .v (.bool false))] [(2, .v (.bool false))] (by simp [leE, lk_cons]) (.cons _ _ _ _ _ (.v _ _ (.refl _)) .nil) (by rfl) (by simp [leE, lk_cons]) (by decide) (by decide) rfl (by simp only [go_sem, qa, qb, qc, qd, qe, qf, qg, qh, qi, qj, qk, ↓reduceIte, resQ_tmp, resQ_cell, resQ_nil, retD_one, retD_two, retD_three, retD_none]; try simp [R.val, retD_one, retD_two, retD_three, retD_none])
            · refine W_sound tab_ok mixed 10 _ _ _ ?_
              simp -implicitDefEqProofs only [go_sem, qa, qb, qc, qd, qe, qf, qg, qh, qi, qj, qk, ↓reduceIte, h2908, h2918, h2921, h2923, h2928, h2931, h2934, h2936, h2937, h2940, h2942, h2973, h2976, h2979, h2981, h2984, h2986]
              repeat with_reducible refine ⟨by first | kernel_rfl | decide, ?_⟩
              obtain rfl := Option.some.inj h3013
              exact finC [(2, .v (.bool false))] [(2, .v (.bool false))] (by simp [leE, lk_cons]) (.cons _ _ _ _ _ (.v _ _ (.refl _)) .nil) (by rfl) (by simp [leE, lk_cons]) (by decide) (by decide) rfl (by simp only [go_sem, qa, qb, qc, qd, qe, qf, qg, qh, qi, qj, qk, ↓reduceIte, resQ_tmp, resQ_cell, resQ_nil, retD_one, retD_two, retD_three, retD_none]; try simp [R.val, retD_one, retD_two, retD_three, retD_none])
      · refine W_sound tab_ok mixed 10 _ _ _ ?_
        simp -implicitDefEqProofs only [go_sem, qa, qb, qc, qd, qe, qf, qg, qh, qi, qj, qk, ↓reduceIte, h2908, h2918, h2921, h2923, h2928, h2931, h2934, h2936, h2937, h2940, h2942]
        repeat with_reducible refine ⟨by first | kernel_rfl | decide, ?_⟩
        obtain rfl := Option.some.inj h
        exact finC [(2, .v (.bool false))] [(2, .v (.bool false))] (by simp [leE, lk_cons]) (.cons _ _ _ _ _ (.v _ _ (.refl _)) .nil) (by rfl) (by simp [leE, lk_cons]) (by decide) (by decide) rfl (by simp only [go_sem, qa, qb, qc, qd, qe, qf, qg, qh, qi, qj, qk, ↓reduceIte, resQ_tmp, resQ_cell, resQ_nil, retD_one, retD_two, retD_three, retD_none]; try simp [R.val, retD_one, retD_two, retD_three, retD_none])
end Go.Proofs.YtcaecfofgdogbaaDoor
namespace Go.Proofs.YtcaecfofgdogbaaDoor
open Go.V
set_option linter.unusedSectionVars false
theorem brn_t {α : Type} {b : Bool} {x y : Option α} (h : b = true) : brn b x y = x := by subst h; rfl
theorem brn_f {α : Type} {b : Bool} {x y : Option α} (h : b = false) : brn b x y = y := by subst h; rfl
theorem grd_t {α : Type} {p : Prop} [Decidable p] {k : Option α} (h : p) : grd p k = k := by simp [grd, h]
theorem brn_dt {α : Type} {p : Prop} [Decidable p] {x y : Option α} (h : p) : brn (decide p) x y = x := brn_t (decide_eq_true h)
theorem brn_df {α : Type} {p : Prop} [Decidable p] {x y : Option α} (h : ¬ p) : brn (decide p) x y = y := brn_f (decide_eq_false h)
theorem brn_et {α : Type} {a b : Int} {x y : Option α} (h : a = b) : brn (a == b) x y = x := brn_t (by simpa using h)
theorem brn_ef {α : Type} {a b : Int} {x y : Option α} (h : a ≠ b) : brn (a == b) x y = y := brn_f (by simpa using h)
theorem brn_nt {α : Type} {a b : Int} {x y : Option α} (h : a ≠ b) : brn (a != b) x y = x := brn_t (by simpa using h)
theorem brn_nf {α : Type} {a b : Int} {x y : Option α} (h : a = b) : brn (a != b) x y = y := brn_f (by simpa using h)
theorem bnd_t {α β : Type} {x : α} {f : α → Option β} : bnd' (some x) f = f x := rfl
theorem getI_t {α : Type} {k : IntKind} {x : Int} {f : Int → Option α} : getI k (.int k x) f = f x := by simp [getI]
theorem getB_t {α : Type} {b : Bool} {f : Bool → Option α} : getB (.bool b) f = f b := rfl
theorem getL_t {α : Type} {n : Nat} {c : List PV} {f : Nat → List PV → Option α} : getL (.lst false n c) f = f n c := rfl
theorem getT2_t {α : Type} {a b : PV} {f : PV → PV → Option α} : getT2 (.tup [a, b]) f = f a b := rfl
theorem getT0_t {α : Type} {k : Option α} : getT0 (.tup []) k = k := rfl
theorem wrapN {n : Nat} (h : n ≤ 100000) : IntKind.i64.wrap ((n : Int) + 1) = ((n + 1 : Nat) : Int) := by
  rw [wrap64 (by omega) (by omega)]; omega
theorem toNatN (n : Nat) : Int.toNat (n : Int) = n := by omega
theorem range'_step {i n : Nat} (h : i < n) : List.range' i (n - i) = i :: List.range' (i + 1) (n - (i + 1)) := by
  rw [show n - i = (n - (i + 1)) + 1 by omega, List.range'_succ]
def iL (X : List Int) : List PV := X.map (PV.int .i64)
theorem iL_len (X : List Int) : (iL X).length = X.length := by simp [iL]
def en (X : List Int) (i : Nat) : Int := X.getD i 0
theorem iL_gp {X : List Int} {i : Nat} (h : i < X.length) : gp (iL X) i = .int .i64 (en X i) := by
  simp [iL, gp, en, List.getD, h]
theorem iL_set (w : List Int) (j : Nat) (x : Int) : (iL w).set j (.int .i64 x) = iL (w.set j x) := by simp [iL, List.map_set]
theorem iL_app (X : List Int) (x : Int) : iL X ++ [.int .i64 x] = iL (X ++ [x]) := by simp [iL]
theorem iL_take (X : List Int) (n : Nat) : (iL X).take n = iL (X.take n) := by simp [iL]
def rwP (r : List Int) : PV := .lst false r.length (iL r)
def rwsP (L : List (List Int)) : List PV := L.map rwP
theorem rws_len (L : List (List Int)) : (rwsP L).length = L.length := by simp [rwsP]
def ro (L : List (List Int)) (i : Nat) : List Int := L.getD i []
theorem rws_gp {L : List (List Int)} {i : Nat} (h : i < L.length) : gp (rwsP L) i = .lst false (ro L i).length (iL (ro L i)) := by
  simp [rwsP, gp, ro, rwP, List.getD, h]
theorem rws_app (L : List (List Int)) (r : List Int) : rwsP L ++ [rwP r] = rwsP (L ++ [r]) := by simp [rwsP]
theorem rws_take (L : List (List Int)) (n : Nat) : (rwsP L).take n = rwsP (L.take n) := by simp [rwsP]
theorem ro_mem {L : List (List Int)} {i : Nat} (h : i < L.length) : ro L i ∈ L := by
  simp [ro, List.getD, h]
theorem drop_ro {L : List (List Int)} {i : Nat} (h : i < L.length) : L.drop i = ro L i :: L.drop (i + 1) := by
  rw [List.drop_eq_getElem_cons h]; simp [ro, List.getD, h]
theorem drop_en {L : List Int} {i : Nat} (h : i < L.length) : L.drop i = en L i :: L.drop (i + 1) := by
  rw [List.drop_eq_getElem_cons h]; simp [en, List.getD, h]
theorem take_en {L : List Int} {i : Nat} (h : i < L.length) : L.take (i + 1) = L.take i ++ [en L i] := by
  rw [List.take_succ_eq_append_getElem h]; simp [en, List.getD, h]
theorem take_ro {L : List (List Int)} {i : Nat} (h : i < L.length) : L.take (i + 1) = L.take i ++ [ro L i] := by
  rw [List.take_succ_eq_append_getElem h]; simp [ro, List.getD, h]
theorem en_set {w : List Int} {j k : Nat} {x : Int} (hj : j < w.length) : en (w.set j x) k = if k = j then x else en w k := by
  unfold en
  by_cases h : k = j
  · subst h; simp [List.getD, hj]
  · rw [if_neg h]; simp [List.getD, List.getElem?_set_ne (Ne.symm h)]
theorem gI_n {α : Type} {X : List Int} {i : Nat} {f : Int → Option α} (h : i < X.length) : getI .i64 (gp (iL X) (Int.toNat (i : Int))) f = f (en X i) := by
  rw [toNatN, iL_gp h, getI_t]
theorem gL_n {α : Type} {L : List (List Int)} {i : Nat} {f : Nat → List PV → Option α} (h : i < L.length) : getL (gp (rwsP L) (Int.toNat (i : Int))) f = f (ro L i).length (iL (ro L i)) := by
  rw [toNatN, rws_gp h, getL_t]
theorem isame_L (N : Nat) (X : List Int) (hX : X.length ≤ 1000) : ∀ (s i fuel : Nat), X.length - i = s → s < fuel →
    m22_L0 N X.length (iL X) X.length (iL X) fuel (i : Int) = some (.inr ())
  | s, i, 0, _, h => by omega
  | s, i, f + 1, hs, hf => by
    rw [m22_L0]
    by_cases hi : i < X.length
    · have ih := isame_L N X hX (s - 1) (i + 1) f (by omega) (by omega)
      rw [brn_dt (by omega)]
      simp (disch := (try simp only [List.length_drop, iL_len, rws_len, toNatN]) <;> omega) only [↓grd_t, ↓gI_n]
      rw [brn_nf rfl, wrapN (by omega), ih]
    · rw [brn_df (by omega)]
theorem isame_ok (N : Nat) (hN : 2000 ≤ N) (X : List Int) (hX : X.length ≤ 1000) : m22 N (.lst false X.length (iL X)) (.lst false X.length (iL X)) = some (.bool true) := by
  have := isame_L N X hX X.length 0 N (by omega) (by omega)
  rw [m22, getL_t, getL_t, brn_nf rfl, show m22_L0 N X.length (iL X) X.length (iL X) N 0 = _ from this]
  rfl
theorem lsame_L (N : Nat) (hN : 2000 ≤ N) (L : List (List Int)) (hX : L.length ≤ 1000) (hr : ∀ r ∈ L, r.length ≤ 1000) : ∀ (s i fuel : Nat), L.length - i = s → s < fuel →
    m21_L0 N L.length (rwsP L) L.length (rwsP L) fuel (i : Int) = some (.inr ())
  | s, i, 0, _, h => by omega
  | s, i, f + 1, hs, hf => by
    rw [m21_L0]
    by_cases hi : i < L.length
    · have ih := lsame_L N hN L hX hr (s - 1) (i + 1) f (by omega) (by omega)
      rw [brn_dt (by omega)]
      simp (disch := (try simp only [List.length_drop, iL_len, rws_len, toNatN]) <;> omega) only [↓grd_t, ↓gL_n]
      rw [isame_ok N hN _ (hr _ (ro_mem hi)), bnd_t, getB_t, brn_t rfl, wrapN (by omega), ih]
    · rw [brn_df (by omega)]
theorem lsame_ok (N : Nat) (hN : 2000 ≤ N) (L : List (List Int)) (hX : L.length ≤ 1000) (hr : ∀ r ∈ L, r.length ≤ 1000) : m21 N (.lst false L.length (rwsP L)) (.lst false L.length (rwsP L)) = some (.bool true) := by
  have := lsame_L N hN L hX hr L.length 0 N (by omega) (by omega)
  rw [m21, getL_t, getL_t, brn_nf rfl, show m21_L0 N L.length (rwsP L) L.length (rwsP L) N 0 = _ from this]
  rfl
theorem b_or : ∀ x : Nat, x < 32 → ∀ s : Nat, s < 5 → bitsI .or .u64 (x : Int) (IntKind.u64.wrap (1 * 2 ^ (min s 64))) = ((x ||| 2 ^ s : Nat) : Int) := by decide +kernel
theorem b_un : ∀ x : Nat, x < 32 → ∀ s : Nat, s < 5 → bitsI .andNot .u64 (x : Int) (IntKind.u64.wrap (1 * 2 ^ (min s 64))) = ((x &&& (31 - 2 ^ s) : Nat) : Int) := by decide +kernel
theorem b_diff : ∀ x : Nat, x < 32 → ∀ y : Nat, y < 32 → bitsI .andNot .u64 (x : Int) (y : Int) = ((x &&& (31 - y) : Nat) : Int) := by decide +kernel
theorem b_all : ∀ n : Nat, n < 6 → IntKind.u64.wrap ((IntKind.u64.wrap (1 * 2 ^ (min n 64))) - 1) = ((2 ^ n - 1 : Nat) : Int) := by decide +kernel
theorem b_tst : ∀ x : Nat, x < 32 → ∀ s : Nat, s < 5 → (bitsI .and .u64 (Int.fdiv (x : Int) (2 ^ (min s 64))) 1 == 1) = x.testBit s := by decide +kernel
theorem b_rest : ∀ x : Nat, x < 32 → x ≠ 0 → bitsI .and .u64 (x : Int) (IntKind.u64.wrap ((x : Int) - 1)) = ((x &&& (x - 1) : Nat) : Int) := by decide +kernel
def bits (x : Nat) : List Nat := (List.range 5).filter fun s => x.testBit s
def low (x : Nat) : Nat := (bits x).headD 0
theorem bits_step : ∀ x : Nat, x < 32 → x ≠ 0 → bits x = low x :: bits (x &&& (x - 1)) ∧ x &&& (x - 1) < x ∧ low x < 5 := by decide +kernel
theorem bits_zero : bits 0 = [] := by decide
theorem tz_ok (N : Nat) : ∀ x : Nat, x < 32 → x ≠ 0 → m87 N (x : Int) = some (.int .i64 (low x : Int)) := by
  have h : ∀ x : Nat, x < 32 → x ≠ 0 → (match m96 0 (x : Int) with | some (.int k y) => decide (k = .i64) && decide (y = (low x : Int)) | _ => false) = true := by decide +kernel
  intro x hx h0
  have h1 := h x hx h0
  rw [m87, show m96 N (x : Int) = m96 0 (x : Int) from rfl]
  split at h1
  · rename_i k y e
    simp only [Bool.and_eq_true, decide_eq_true_eq] at h1
    rw [e, h1.1, h1.2, bnd_t, getI_t]
  · cases h1
theorem or_lt : ∀ x : Nat, x < 32 → ∀ s : Nat, s < 5 → x ||| 2 ^ s < 32 := by decide +kernel
theorem un_lt : ∀ x : Nat, x < 32 → ∀ s : Nat, s < 5 → x &&& (31 - 2 ^ s) < 32 := by decide +kernel
theorem diff_lt : ∀ x : Nat, x < 32 → ∀ y : Nat, y < 32 → x &&& (31 - y) < 32 := by decide +kernel
theorem un_or : ∀ x : Nat, x < 32 → ∀ s : Nat, s < 5 → x.testBit s = false → (x ||| 2 ^ s) &&& (31 - 2 ^ s) = x := by decide +kernel
theorem mem_bits {x s : Nat} : s ∈ bits x ↔ s < 5 ∧ x.testBit s = true := by simp [bits]
theorem tst_or : ∀ x : Nat, x < 32 → ∀ s : Nat, s < 5 → ∀ t : Nat, t < 5 → (x ||| 2 ^ s).testBit t = (x.testBit t || decide (t = s)) := by decide +kernel
theorem tst_diff : ∀ x : Nat, x < 32 → ∀ y : Nat, y < 32 → ∀ t : Nat, t < 5 → (x &&& (31 - y)).testBit t = (x.testBit t && !y.testBit t) := by decide +kernel
theorem tst_all : ∀ n : Nat, n < 6 → ∀ t : Nat, t < 5 → (2 ^ n - 1).testBit t = decide (t < n) := by decide +kernel
def uL (X : List Nat) : List PV := X.map fun (b : Nat) => PV.int .u64 (b : Int)
def bn (X : List Nat) (i : Nat) : Nat := X.getD i 0
def tblP (n : Nat) (A : List Int) (B D : List Nat) : List PV := .int .i64 (n : Int) :: (iL A ++ (uL B ++ uL D))
structure Tb (A : List Int) (B D : List Nat) : Prop where
  la : A.length = 25
  lb : B.length = 5
  ld : D.length = 5
  b32 : ∀ i, i < 5 → bn B i < 32
  d32 : ∀ i, i < 5 → bn D i < 32
theorem uL_len (X : List Nat) : (uL X).length = X.length := by simp [uL]
theorem bn_set {w : List Nat} {j k : Nat} {x : Nat} (hj : j < w.length) : bn (w.set j x) k = if k = j then x else bn w k := by
  unfold bn
  by_cases h : k = j
  · subst h; simp [List.getD, hj]
  · rw [if_neg h]; simp [List.getD, List.getElem?_set_ne (Ne.symm h)]
theorem tbl_len {n : Nat} {A : List Int} {B D : List Nat} (h : Tb A B D) : (tblP n A B D).length = 36 := by
  have := h.la; have := h.lb; have := h.ld
  simp only [tblP, List.length_cons, List.length_append, iL_len, uL_len]; omega
theorem gp_cons {p : PV} {l : List PV} {i : Nat} : gp (p :: l) (i + 1) = gp l i := by simp [gp]
theorem gp_left {l m : List PV} {i : Nat} (h : i < l.length) : gp (l ++ m) i = gp l i := by simp [gp, List.getD, List.getElem?_append_left h]
theorem gp_right {l m : List PV} {i j : Nat} (h : i = l.length + j) : gp (l ++ m) i = gp m j := by
  subst h; simp [gp, List.getD, List.getElem?_append_right]
theorem uL_gp {X : List Nat} {i : Nat} (h : i < X.length) : gp (uL X) i = .int .u64 (bn X i : Int) := by
  simp [uL, gp, bn, List.getD, h]
theorem gp_0 {n : Nat} {A : List Int} {B D : List Nat} : gp (tblP n A B D) 0 = .int .i64 (n : Int) := rfl
theorem gp_a {n : Nat} {A : List Int} {B D : List Nat} (h : Tb A B D) {j : Nat} (hj : j < 25) : gp (tblP n A B D) (1 + j) = .int .i64 (en A j) := by
  have := h.la
  rw [Nat.add_comm, tblP, gp_cons, gp_left (by rw [iL_len]; omega), iL_gp (by omega)]
theorem gp_b {n : Nat} {A : List Int} {B D : List Nat} (h : Tb A B D) {i : Nat} (hi : i < 5) : gp (tblP n A B D) (26 + i) = .int .u64 (bn B i : Int) := by
  have := h.la; have := h.lb
  rw [show 26 + i = (25 + i) + 1 by omega, tblP, gp_cons, gp_right (j := i) (by rw [iL_len]; omega), gp_left (by rw [uL_len]; omega), uL_gp (by omega)]
theorem gp_d {n : Nat} {A : List Int} {B D : List Nat} (h : Tb A B D) {i : Nat} (hi : i < 5) : gp (tblP n A B D) (31 + i) = .int .u64 (bn D i : Int) := by
  have := h.la; have := h.lb; have := h.ld
  rw [show 31 + i = (30 + i) + 1 by omega, tblP, gp_cons, gp_right (j := 5 + i) (by rw [iL_len]; omega), gp_right (j := i) (by rw [uL_len]; omega), uL_gp (by omega)]
theorem uL_set (w : List Nat) (j : Nat) (x : Nat) : (uL w).set j (.int .u64 (x : Int)) = uL (w.set j x) := by simp [uL, List.map_set]
theorem set_a {n : Nat} {A : List Int} {B D : List Nat} (h : Tb A B D) {j : Nat} {x : Int} (hj : j < 25) : (tblP n A B D).set (1 + j) (.int .i64 x) = tblP n (A.set j x) B D := by
  have := h.la
  rw [Nat.add_comm, tblP, List.set_cons_succ, List.set_append_left _ _ (by rw [iL_len]; omega), iL_set]; rfl
theorem set_b {n : Nat} {A : List Int} {B D : List Nat} (h : Tb A B D) {i : Nat} {x : Nat} (hi : i < 5) : (tblP n A B D).set (26 + i) (.int .u64 (x : Int)) = tblP n A (B.set i x) D := by
  have := h.la; have := h.lb
  rw [show 26 + i = (25 + i) + 1 by omega, tblP, List.set_cons_succ, List.set_append_right _ _ (by rw [iL_len]; omega), iL_len, show 25 + i - A.length = i by omega, List.set_append_left _ _ (by rw [uL_len]; omega), uL_set]; rfl
theorem set_d {n : Nat} {A : List Int} {B D : List Nat} (h : Tb A B D) {i : Nat} {x : Nat} (hi : i < 5) : (tblP n A B D).set (31 + i) (.int .u64 (x : Int)) = tblP n A B (D.set i x) := by
  have := h.la; have := h.lb; have := h.ld
  rw [show 31 + i = (30 + i) + 1 by omega, tblP, List.set_cons_succ, List.set_append_right _ _ (by rw [iL_len]; omega), iL_len, List.set_append_right _ _ (by rw [uL_len]; omega), uL_len, show 30 + i - A.length - B.length = i by omega, uL_set]; rfl
def putT (T : List Int × List Nat × List Nat) (i k s : Nat) : List Int × List Nat × List Nat := (T.1.set (i * 5 + k) (s : Int), T.2.1.set i (bn T.2.1 i ||| 2 ^ s), T.2.2.set k (bn T.2.2 k ||| 2 ^ s))
theorem Tb.seta {A : List Int} {B D : List Nat} (h : Tb A B D) {j : Nat} {x : Int} : Tb (A.set j x) B D := ⟨by rw [List.length_set]; exact h.la, h.lb, h.ld, h.b32, h.d32⟩
theorem Tb.setb {A : List Int} {B D : List Nat} (h : Tb A B D) {j x : Nat} (hj : j < 5) (hx : x < 32) : Tb A (B.set j x) D := ⟨h.la, by rw [List.length_set]; exact h.lb, h.ld, fun i hi => by
  rw [bn_set (by have := h.lb; omega)]; split
  · exact hx
  · exact h.b32 i hi, h.d32⟩
theorem Tb.setd {A : List Int} {B D : List Nat} (h : Tb A B D) {j x : Nat} (hj : j < 5) (hx : x < 32) : Tb A B (D.set j x) := ⟨h.la, h.lb, by rw [List.length_set]; exact h.ld, h.b32, fun i hi => by
  rw [bn_set (by have := h.ld; omega)]; split
  · exact hx
  · exact h.d32 i hi⟩
theorem Tb.put {A : List Int} {B D : List Nat} (h : Tb A B D) {i k s : Nat} (hi : i < 5) (hk : k < 5) (hs : s < 5) : Tb (putT (A, B, D) i k s).1 (putT (A, B, D) i k s).2.1 (putT (A, B, D) i k s).2.2 :=
  (h.seta.setb hi (or_lt _ (h.b32 i hi) s hs)).setd hk (or_lt _ (h.d32 k hk) s hs)
theorem getU_t {α : Type} {x : Int} {f : Int → Option α} : getI .u64 (.int .u64 x) f = f x := by simp [getI]
theorem put_ok (N n : Nat) {A : List Int} {B D : List Nat} (h : Tb A B D) {i k s : Nat} (hi : i < 5) (hk : k < 5) (hs : s < 5) :
    m72 N (i : Int) (k : Int) (s : Int) (tblP n A B D) = some (.tup [], tblP n (putT (A, B, D) i k s).1 (putT (A, B, D) i k s).2.1 (putT (A, B, D) i k s).2.2) := by
  have hl := tbl_len (n := n) h
  have h1 : Tb (A.set (i * 5 + k) (s : Int)) B D := h.seta
  have h2 := h1.setb hi (or_lt _ (h.b32 i hi) s hs)
  rw [m72, toNatN, toNatN, toNatN, grd_t ⟨by omega, by omega⟩, grd_t ⟨by omega, by omega⟩, grd_t (by omega), grd_t (by omega), show 1 + i * 5 + k = 1 + (i * 5 + k) by omega, set_a h (by omega), gp_b h1 hi, getU_t, grd_t (by omega), grd_t (by omega), grd_t (by omega), b_or _ (h.b32 i hi) s hs, set_b h1 hi, gp_d h2 hk, getU_t, grd_t (by omega), b_or _ (h.d32 k hk) s hs, set_d h2 hk]
  rfl
theorem take_ok (N n : Nat) {A : List Int} {B D : List Nat} (h : Tb A B D) {i k s : Nat} (hi : i < 5) (hk : k < 5) (hs : s < 5) (ha : en A (i * 5 + k) = (s : Int)) :
    m90 N (i : Int) (k : Int) (tblP n A B D) = some (.tup [], tblP n (A.set (i * 5 + k) (-1)) (B.set i (bn B i &&& (31 - 2 ^ s))) (D.set k (bn D k &&& (31 - 2 ^ s)))) := by
  have hl := tbl_len (n := n) h
  have h1 : Tb (A.set (i * 5 + k) (-1)) B D := h.seta
  have h2 := h1.setb hi (un_lt _ (h.b32 i hi) s hs)
  rw [m90, toNatN, toNatN, grd_t ⟨by omega, by omega⟩, grd_t ⟨by omega, by omega⟩, grd_t (by omega), show 1 + i * 5 + k = 1 + (i * 5 + k) by omega, gp_a h (by omega), getI_t, ha, toNatN, grd_t (by omega), grd_t (by omega), set_a h (by omega), gp_b h1 hi, getU_t, grd_t (by omega), grd_t (by omega), grd_t (by omega), b_un _ (h.b32 i hi) s hs, set_b h1 hi, gp_d h2 hk, getU_t, grd_t (by omega), b_un _ (h.d32 k hk) s hs, set_d h2 hk]
theorem list_set_set {α : Type} {l : List α} {i : Nat} {x y : α} : (l.set i x).set i y = l.set i y := by simp
theorem bn_self {w : List Nat} {j : Nat} (hj : j < w.length) : w.set j (bn w j) = w := by
  apply List.ext_getElem?
  intro i
  by_cases h : i = j
  · subst h; simp [bn, List.getD, hj]
  · rw [List.getElem?_set_ne (Ne.symm h)]
theorem en_self {w : List Int} {j : Nat} (hj : j < w.length) : w.set j (en w j) = w := by
  apply List.ext_getElem?
  intro i
  by_cases h : i = j
  · subst h; simp [en, List.getD, hj]
  · rw [List.getElem?_set_ne (Ne.symm h)]
theorem put_take (N n : Nat) {A : List Int} {B D : List Nat} (h : Tb A B D) {i k s : Nat} (hi : i < 5) (hk : k < 5) (hs : s < 5) (ha : en A (i * 5 + k) = -1) (hb : (bn B i).testBit s = false) (hd : (bn D k).testBit s = false) :
    m90 N (i : Int) (k : Int) (tblP n (putT (A, B, D) i k s).1 (putT (A, B, D) i k s).2.1 (putT (A, B, D) i k s).2.2) = some (.tup [], tblP n A B D) := by
  have la := h.la; have lb := h.lb; have ld := h.ld
  rw [take_ok N n (h.put hi hk hs) hi hk hs (by show en (A.set (i * 5 + k) (s : Int)) _ = _; rw [en_set (by omega), if_pos rfl])]
  simp only [putT, list_set_set]
  rw [bn_set (by omega), if_pos rfl, bn_set (by omega), if_pos rfl, un_or _ (h.b32 i hi) s hs hb, un_or _ (h.d32 k hk) s hs hd, bn_self (by omega), bn_self (by omega), ← ha, en_self (by omega)]
def mayB (n : Nat) (b d : Nat) : Nat := ((2 ^ n - 1) &&& (31 - b)) &&& (31 - d)
theorem all_lt : ∀ n : Nat, n < 6 → 2 ^ n - 1 < 32 := by decide
theorem may_lt {n b d : Nat} (hn : n < 6) (hb : b < 32) (hd : d < 32) : mayB n b d < 32 := diff_lt _ (diff_lt _ (all_lt n hn) _ hb) _ hd
theorem may_tst {n b d t : Nat} (hn : n < 6) (hb : b < 32) (hd : d < 32) (ht : t < 5) : (mayB n b d).testBit t = (decide (t < n) && !b.testBit t && !d.testBit t) := by
  rw [mayB, tst_diff _ (diff_lt _ (all_lt n hn) _ hb) _ hd t ht, tst_diff _ (all_lt n hn) _ hb t ht, tst_all n hn t ht]
theorem may_ok (N n : Nat) (hn : n < 6) {A : List Int} {B D : List Nat} (h : Tb A B D) {i k : Nat} (hi : i < 5) (hk : k < 5) : m89 N (i : Int) (k : Int) (tblP n A B D) = some (.int .u64 (mayB n (bn B i) (bn D k) : Int)) := by
  have hl := tbl_len (n := n) h
  rw [m89, grd_t (by omega), gp_0, getI_t, toNatN, toNatN, toNatN, grd_t (by omega), grd_t ⟨by omega, by omega⟩, grd_t (by omega), gp_b h hi, getU_t, grd_t ⟨by omega, by omega⟩, grd_t (by omega), gp_d h hk, getU_t, b_all n hn, b_diff _ (all_lt n hn) _ (h.b32 i hi), b_diff _ (diff_lt _ (all_lt n hn) _ (h.b32 i hi)) _ (h.d32 k hk)]
  rfl
abbrev T3 := List Int × List Nat × List Nat
def tP (n : Nat) (T : T3) : List PV := tblP n T.1 T.2.1 T.2.2
structure Tv (T : T3) : Prop where
  tb : Tb T.1 T.2.1 T.2.2
  a1 : ∀ j, j < 25 → -1 ≤ en T.1 j
theorem Tv.put {T : T3} (h : Tv T) {i k s : Nat} (hi : i < 5) (hk : k < 5) (hs : s < 5) : Tv (putT T i k s) := ⟨h.tb.put hi hk hs, fun j hj => by
  have la := h.tb.la
  show -1 ≤ en (T.1.set (i * 5 + k) (s : Int)) j
  rw [en_set (by omega)]; split
  · omega
  · exact h.a1 j hj⟩
def cmpl (n to : Nat) : Nat → Nat → Nat → T3 → List T3
  | 0, _, _, _ => []
  | f + 1, i, k, T =>
    if i = to then [T] else if k = n then cmpl n to f (i + 1) 0 T
    else if 0 ≤ en T.1 (i * 5 + k) then cmpl n to f i (k + 1) T
    else (bits (mayB n (bn T.2.1 i) (bn T.2.2 k))).flatMap fun s => cmpl n to f i (k + 1) (putT T i k s)
theorem cnt_L (N n to x : Nat) (rec : Int → Int → Int → Int → Int → List PV → Option (PV × Int × List PV)) (T : T3) (hT : Tv T) (i k : Nat) (hi : i < 5) (hk : k < 5) (ha : en T.1 (i * 5 + k) = -1) (g : Nat → List T3)
    (hrec : ∀ s y, s < 5 → (bn T.2.1 i).testBit s = false → (bn T.2.2 k).testBit s = false → y + (g s).length ≤ 100000 → rec (i : Int) ((k + 1 : Nat) : Int) (to : Int) (x : Int) (y : Int) (tP n (putT T i k s)) = some (.bool false, ((y + (g s).length : Nat) : Int), tP n (putT T i k s))) :
    ∀ (X fuel y : Nat), X < 32 → X < fuel → (∀ s, s ∈ bits X → (bn T.2.1 i).testBit s = false ∧ (bn T.2.2 k).testBit s = false) → y + ((bits X).flatMap g).length ≤ 100000 →
    m88_2_L0 N rec (i : Int) (k : Int) (to : Int) (x : Int) fuel (X : Int) (y : Int) (tP n T) = some (.inr (((y + ((bits X).flatMap g).length : Nat) : Int), tP n T))
  | X, 0, y, _, h, _, _ => by omega
  | X, fuel + 1, y, hX, hf, hs, hy => by
    rw [m88_2_L0]
    by_cases h0 : X = 0
    · subst h0
      rw [brn_nf (by simp), bits_zero]; simp
    · obtain ⟨b1, b2, b3⟩ := bits_step X hX h0
      have h1 := hs (low X) (by rw [b1]; exact .head _)
      rw [b1, List.flatMap_cons, List.length_append] at hy
      have hr := hrec (low X) y b3 h1.1 h1.2 (by omega)
      rw [brn_nt (by omega), tz_ok N X hX h0, bnd_t, getI_t]
      unfold tP at hr ⊢
      rw [put_ok N n hT.tb hi hk b3, bnd_t]
      show getT0 (.tup []) _ = _
      rw [getT0_t, wrapN (by omega), show m88_2_L0 N rec = m88_2_L0 N rec from rfl]
      rw [show (putT (T.1, T.2.1, T.2.2) i k (low X)) = putT T i k (low X) from rfl, hr, bnd_t]
      show getB (.bool false) _ = _
      rw [getB_t, brn_f rfl]
      have pt := put_take N n hT.tb hi hk b3 ha h1.1 h1.2
      rw [show (putT (T.1, T.2.1, T.2.2) i k (low X)) = putT T i k (low X) from rfl] at pt
      rw [pt, bnd_t]
      show getT0 (.tup []) _ = _
      rw [getT0_t, b_rest X hX h0]
      have ih := cnt_L N n to x rec T hT i k hi hk ha g hrec (X &&& (X - 1)) fuel (y + (g (low X)).length) (by omega) (by omega) (fun s hs' => hs s (by rw [b1]; exact .tail _ hs')) (by omega)
      unfold tP at ih
      rw [ih, b1, List.flatMap_cons, List.length_append, Nat.add_assoc]
theorem cnt_ok (N n to x : Nat) (hN : 2000 ≤ N) (hn : n ≤ 5) (hto : to ≤ n) : ∀ (f fu i k y : Nat) (T : T3), Tv T → f ≤ fu → (to - i) * (n + 1) + (n - k) < f → i ≤ to → k ≤ n → y + (cmpl n to f i k T).length ≤ 100000 →
    m88_2 N fu (i : Int) (k : Int) (to : Int) (x : Int) (y : Int) (tP n T) = some (.bool false, ((y + (cmpl n to f i k T).length : Nat) : Int), tP n T)
  | 0, _, _, _, _, _, _, _, h, _, _, _ => by omega
  | f + 1, 0, _, _, _, _, _, h, _, _, _, _ => by omega
  | f + 1, fu + 1, i, k, y, T, hT, hfu, hf, hi, hk, hy => by
    have hl := tbl_len (n := n) hT.tb
    rw [m88_2]
    unfold cmpl at hy ⊢
    by_cases h1 : i = to
    · rw [if_pos h1] at hy ⊢
      rw [brn_et (by omega), m115, bnd_t]
      show getB (.bool false) _ = _
      rw [getB_t, wrapN (by simp at hy; omega)]; rfl
    · rw [if_neg h1] at hy ⊢
      have hm : (to - i) * (n + 1) = (to - (i + 1)) * (n + 1) + (n + 1) := by
        rw [show to - i = (to - (i + 1)) + 1 by omega, Nat.add_mul, Nat.one_mul]
      rw [brn_ef (by omega), grd_t (by unfold tP; omega)]
      unfold tP
      rw [gp_0, getI_t]
      by_cases h2 : k = n
      · rw [if_pos h2] at hy ⊢
        have ih := cnt_ok N n to x hN hn hto f fu (i + 1) 0 y T hT (by omega) (by omega) (by omega) (by omega) hy
        unfold tP at ih
        rw [brn_et (by omega), wrapN (by omega), show m88_2 N fu ((i + 1 : Nat) : Int) 0 (to : Int) (x : Int) (y : Int) (tblP n T.1 T.2.1 T.2.2) = _ from ih, bnd_t]; rfl
      · rw [if_neg h2] at hy ⊢
        rw [brn_ef (by omega), grd_t ⟨by omega, by omega⟩, grd_t ⟨by omega, by omega⟩, toNatN, toNatN, grd_t (by omega), show 1 + i * 5 + k = 1 + (i * 5 + k) by omega, gp_a hT.tb (by omega), getI_t]
        by_cases h3 : 0 ≤ en T.1 (i * 5 + k)
        · rw [if_pos h3] at hy ⊢
          have ih := cnt_ok N n to x hN hn hto f fu i (k + 1) y T hT (by omega) (by omega) (by omega) (by omega) hy
          unfold tP at ih
          rw [brn_dt h3, wrapN (by omega), ih, bnd_t]; rfl
        · rw [if_neg h3] at hy ⊢
          have ha := hT.a1 (i * 5 + k) (by omega)
          have L := cnt_L N n to x (m88_2 N fu) T hT i k (by omega) (by omega) (by omega) (fun s => cmpl n to f i (k + 1) (putT T i k s))
            (fun s y' h5 _ _ hy' => cnt_ok N n to x hN hn hto f fu i (k + 1) y' (putT T i k s) (hT.put (by omega) (by omega) h5) (by omega) (by omega) (by omega) (by omega) hy')
            (mayB n (bn T.2.1 i) (bn T.2.2 k)) N y (may_lt (by omega) (hT.tb.b32 i (by omega)) (hT.tb.d32 k (by omega))) (by have := may_lt (n := n) (by omega) (hT.tb.b32 i (by omega)) (hT.tb.d32 k (by omega)); omega)
            (fun s hs => by
              obtain ⟨s5, hs⟩ := mem_bits.1 hs
              rw [may_tst (by omega) (hT.tb.b32 i (by omega)) (hT.tb.d32 k (by omega)) s5] at hs
              simp only [Bool.and_eq_true, Bool.not_eq_true', decide_eq_true_eq] at hs
              exact ⟨hs.1.2, hs.2⟩) hy
          unfold tP at L
          rw [brn_df (by omega), may_ok N n (by omega) hT.tb (by omega) (by omega), bnd_t, getU_t, L, bnd_t]
def dayE (n : Int) (P : List (List Int)) (r : List Int) : Nat → Nat → Int
  | 0, _ => 0
  | f + 1, k => if en r k < 0 then 2 else if n ≤ en r k then 2 else if en r k ∈ r.take k then 6 else if P.any (fun q => decide (k < q.length) && (en q k == en r k)) then 13 else dayE n P r f (k + 1)
def rowE (n w : Int) (L : List (List Int)) : Nat → Nat → Int
  | 0, _ => 0
  | f + 1, i => if ((ro L i).length : Int) ≠ w then 5 else if n < w then 5 else if dayE n (L.take i) (ro L i) (ro L i).length 0 ≠ 0 then dayE n (L.take i) (ro L i) (ro L i).length 0 else rowE n w L f (i + 1)
def chkE (n w : Int) (L : List (List Int)) : Int := if n < 1 then 1 else if 5 < n then 1 else if n < (L.length : Int) then 3 else rowE n w L L.length 0
structure Rp (P : List (List Int)) (i : Nat) (r : List Int) (k : Nat) (T : T3) : Prop where
  tv : Tv T
  b : ∀ s, s < 5 → ((bn T.2.1 i).testBit s = true ↔ (s : Int) ∈ r.take k)
  bz : ∀ j, i < j → j < 5 → bn T.2.1 j = 0
  d : ∀ d s, d < 5 → s < 5 → ((bn T.2.2 d).testBit s = true ↔ (∃ q ∈ P, d < q.length ∧ en q d = (s : Int)) ∨ (d < k ∧ en r d = (s : Int)))
  a : ∀ j d, j < 5 → d < 5 → en T.1 (j * 5 + d) = if j < i then (if d < (ro P j).length then en (ro P j) d else -1) else if j = i ∧ d < k then en r d else -1
theorem Rp.put {P : List (List Int)} {i : Nat} {r : List Int} {k : Nat} {T : T3} (h : Rp P i r k T) (hi : i < 5) (hk : k < 5) (hr : k < r.length) {s : Nat} (hs : s < 5) (he : en r k = (s : Int)) : Rp P i r (k + 1) (putT T i k s) := by
  have la := h.tv.tb.la; have lb := h.tv.tb.lb; have ld := h.tv.tb.ld
  refine ⟨h.tv.put hi hk hs, fun t ht => ?_, fun j hj h5 => ?_, fun d t hd ht => ?_, fun j d hj hd => ?_⟩
  · show (bn (T.2.1.set i (bn T.2.1 i ||| 2 ^ s)) i).testBit t = true ↔ _
    rw [bn_set (by omega), if_pos rfl, tst_or _ (h.tv.tb.b32 i hi) s hs t ht, Bool.or_eq_true, h.b t ht, decide_eq_true_eq, take_en hr, List.mem_append, List.mem_singleton, he]
    constructor
    · rintro (h1 | rfl)
      · exact .inl h1
      · exact .inr rfl
    · rintro (h1 | h1)
      · exact .inl h1
      · exact .inr (by omega)
  · show bn (T.2.1.set i (bn T.2.1 i ||| 2 ^ s)) j = 0
    rw [bn_set (by omega), if_neg (by omega)]; exact h.bz j hj h5
  · show (bn (T.2.2.set k (bn T.2.2 k ||| 2 ^ s)) d).testBit t = true ↔ _
    rw [bn_set (by omega)]
    by_cases hdk : d = k
    · subst hdk
      rw [if_pos rfl, tst_or _ (h.tv.tb.d32 d hd) s hs t ht, Bool.or_eq_true, h.d d t hd ht, decide_eq_true_eq, he]
      constructor
      · rintro ((h1 | h1) | rfl)
        · exact .inl h1
        · omega
        · exact .inr ⟨by omega, rfl⟩
      · rintro (h1 | h1)
        · exact .inl (.inl h1)
        · exact .inr (by omega)
    · rw [if_neg hdk, h.d d t hd ht]
      constructor
      · rintro (h1 | h1)
        · exact .inl h1
        · exact .inr ⟨by omega, h1.2⟩
      · rintro (h1 | h1)
        · exact .inl h1
        · exact .inr ⟨by omega, h1.2⟩
  · show en (T.1.set (i * 5 + k) (s : Int)) (j * 5 + d) = _
    rw [en_set (by omega), h.a j d hj hd]
    by_cases hx : j * 5 + d = i * 5 + k
    · have : j = i ∧ d = k := by omega
      obtain ⟨rfl, rfl⟩ := this
      rw [if_pos hx, if_neg (by omega), if_pos ⟨rfl, by omega⟩, he]
    · rw [if_neg hx]
      by_cases h1 : j < i
      · rw [if_pos h1, if_pos h1]
      · rw [if_neg h1, if_neg h1]
        by_cases h2 : j = i ∧ d < k
        · rw [if_pos h2, if_pos ⟨h2.1, by omega⟩]
        · rw [if_neg h2, if_neg (by omega)]
theorem Rp.next {P : List (List Int)} {i : Nat} {r : List Int} {T : T3} (h : Rp P i r r.length T) (hi : P.length = i) (hr : r.length ≤ 5) (r' : List Int) : Rp (P ++ [r]) (i + 1) r' 0 T := by
  refine ⟨h.tv, fun s hs => ?_, fun j hj h5 => h.bz j (by omega) h5, fun d s hd hs => ?_, fun j d hj hd => ?_⟩
  · rw [List.take_zero]
    by_cases h5 : i + 1 < 5
    · rw [h.bz (i + 1) (by omega) h5]; simp
    · have : bn T.2.1 (i + 1) = 0 := by
        have := h.tv.tb.lb
        unfold bn; rw [List.getD, List.getElem?_eq_none (by omega)]; rfl
      rw [this]; simp
  · rw [h.d d s hd hs]
    constructor
    · rintro (⟨q, hq, h1⟩ | h1)
      · exact .inl ⟨q, List.mem_append_left _ hq, h1⟩
      · exact .inl ⟨r, List.mem_append_right _ (.head _), h1⟩
    · rintro (⟨q, hq, h1⟩ | h1)
      · rcases List.mem_append.1 hq with hq | hq
        · exact .inl ⟨q, hq, h1⟩
        · obtain rfl := List.mem_singleton.1 hq
          exact .inr h1
      · omega
  · rw [h.a j d hj hd]
    by_cases h1 : j < i
    · rw [if_pos h1, if_pos (show j < i + 1 by omega)]
      have : ro (P ++ [r]) j = ro P j := by simp [ro, List.getD, List.getElem?_append_left (show j < P.length by omega)]
      rw [this]
    · rw [if_neg h1]
      by_cases h2 : j = i
      · have : ro (P ++ [r]) j = r := by
          subst h2; rw [← hi]; simp [ro, List.getD]
        rw [if_pos (show j < i + 1 by omega), this]
        by_cases h3 : d < r.length
        · rw [if_pos (show j = i ∧ d < r.length from ⟨h2, h3⟩), if_pos h3]
        · rw [if_neg (show ¬ (j = i ∧ d < r.length) by omega), if_neg h3]
      · rw [if_neg (show ¬ (j = i ∧ d < r.length) by omega), if_neg (show ¬ j < i + 1 by omega), if_neg (show ¬ (j = i + 1 ∧ d < 0) by omega)]
def outR (n : Nat) (e : Int) (T : T3) : (Int ⊕ (Int × List PV)) ⊕ List PV := if e = 0 then .inr (tP n T) else .inl (.inl e)
theorem open_L1 (N n : Nat) (hn : n ≤ 5) (w : Int) (L : List (List Int)) (P : List (List Int)) (r : List Int) (i : Nat) (hi : i < 5) (hr : r.length ≤ 5) : ∀ (f k fuel : Nat) (T : T3), r.length - k = f → f < fuel → k ≤ r.length → Rp P i r k T →
    ∃ T', m61_L1 N (n : Int) w L.length (rwsP L) (i : Int) r.length (iL r) fuel (k : Int) (tP n T) = some (outR n (dayE n P r f k) T') ∧ (dayE n P r f k = 0 → Rp P i r r.length T')
  | f, k, 0, _, _, h, _, _ => by omega
  | 0, k, fuel + 1, T, hf, _, hk, hT => by
    have : k = r.length := by omega
    subst this
    refine ⟨T, ?_, fun _ => hT⟩
    rw [m61_L1, brn_df (by omega)]; rfl
  | f + 1, k, fuel + 1, T, hf, hfu, hk, hT => by
    have hl := tbl_len (n := n) hT.tv.tb
    have h1 : k < r.length := by omega
    rw [m61_L1, brn_dt (by omega), dayE]
    rw [grd_t (p := 0 ≤ (k : Int) ∧ (k : Int) < ((r.length : Nat) : Int)) ⟨by omega, by omega⟩, grd_t (p := 0 < List.length (List.drop (Int.toNat (k : Int)) (iL r))) (by rw [List.length_drop, iL_len, toNatN]; omega), gI_n h1]
    by_cases h2 : en r k < 0
    · rw [brn_dt h2, if_pos h2]; exact ⟨T, rfl, fun h => by cases h⟩
    · rw [brn_df h2, if_neg h2]
      by_cases h3 : (n : Int) ≤ en r k
      · rw [brn_dt (by omega), if_pos h3]; exact ⟨T, rfl, fun h => by cases h⟩
      · obtain ⟨s, hs⟩ : ∃ s : Nat, en r k = (s : Int) := ⟨(en r k).toNat, by omega⟩
        have s5 : s < 5 := by omega
        rw [brn_df (by omega), if_neg h3, hs, toNatN, toNatN, toNatN, grd_t (by omega), grd_t (by unfold tP; omega)]
        rw [show gp (tP n T) (26 + i) = .int .u64 (bn T.2.1 i : Int) from gp_b hT.tv.tb hi, getU_t, grd_t (by omega), b_tst _ (hT.tv.tb.b32 i hi) s s5]
        by_cases h4 : (s : Int) ∈ r.take k
        · rw [brn_t ((hT.b s s5).2 h4), if_pos h4]; exact ⟨T, rfl, fun h => by cases h⟩
        · rw [brn_f (by rw [Bool.eq_false_iff]; intro h; exact h4 ((hT.b s s5).1 h)), if_neg h4, grd_t (by omega), grd_t (by unfold tP; omega)]
          rw [show gp (tP n T) (31 + k) = .int .u64 (bn T.2.2 k : Int) from gp_d hT.tv.tb (by omega), getU_t, b_tst _ (hT.tv.tb.d32 k (by omega)) s s5]
          have hd : (bn T.2.2 k).testBit s = P.any (fun q => decide (k < q.length) && (en q k == (s : Int))) := by
            rw [Bool.eq_iff_iff, hT.d k s (by omega) s5, List.any_eq_true]
            constructor
            · rintro (⟨q, hq, h5, h6⟩ | h5)
              · exact ⟨q, hq, by simp [h5, h6]⟩
              · omega
            · rintro ⟨q, hq, h5⟩
              simp only [Bool.and_eq_true, decide_eq_true_eq, beq_iff_eq] at h5
              exact .inl ⟨q, hq, h5⟩
          rw [hd]
          cases h5 : P.any (fun q => decide (k < q.length) && (en q k == (s : Int))) with
          | true => rw [brn_t rfl, if_pos rfl]; exact ⟨T, rfl, fun h => by cases h⟩
          | false =>
            rw [brn_f rfl, if_neg (by simp)]
            obtain ⟨T', e1, e2⟩ := open_L1 N n hn w L P r i hi hr f (k + 1) fuel (putT T i k s) (by omega) (by omega) (by omega) (hT.put hi (by omega) h1 s5 hs)
            refine ⟨T', ?_, e2⟩
            rw [show m72 N (i : Int) (k : Int) (s : Int) (tP n T) = _ from put_ok N n hT.tv.tb hi (by omega) s5, bnd_t]
            show getT0 (.tup []) _ = _
            rw [getT0_t, wrapN (by omega)]
            exact e1
theorem open_L0 (N n : Nat) (hN : 2000 ≤ N) (hn : n ≤ 5) (w : Int) (L : List (List Int)) (hL : L.length ≤ n) (hr20 : ∀ r ∈ L, r.length ≤ 1000) : ∀ (f i fuel : Nat) (T : T3), L.length - i = f → f < fuel → i ≤ L.length → (∀ r', Rp (L.take i) i r' 0 T) →
    ∃ T', m61_L0 N (n : Int) w L.length (rwsP L) fuel (i : Int) (tP n T) = some (outR n (rowE n w L f i) T') ∧ (rowE n w L f i = 0 → ∀ r', Rp L L.length r' 0 T')
  | f, i, 0, _, _, h, _, _ => by omega
  | 0, i, fuel + 1, T, hf, _, hi, hT => by
    have : i = L.length := by omega
    subst this
    refine ⟨T, ?_, fun _ r' => by have := hT r'; rwa [List.take_length] at this⟩
    rw [m61_L0, brn_df (by omega)]; rfl
  | f + 1, i, fuel + 1, T, hf, hfu, hi, hT => by
    have h1 : i < L.length := by omega
    have hrl := hr20 _ (ro_mem h1)
    rw [m61_L0, brn_dt (by omega), rowE]
    simp (disch := (try simp only [List.length_drop, iL_len, rws_len, toNatN]) <;> omega) only [↓grd_t, ↓gL_n]
    by_cases h2 : ((ro L i).length : Int) = w
    · rw [brn_nf h2, if_neg (by simpa using h2)]
      by_cases h3 : (n : Int) < w
      · rw [brn_dt (by omega), if_pos h3]; exact ⟨T, rfl, fun h => by cases h⟩
      · rw [brn_df (by omega), if_neg h3]
        obtain ⟨T', e1, e2⟩ := open_L1 N n hn w L (L.take i) (ro L i) i (by omega) (by omega) (ro L i).length 0 N T (by omega) (by omega) (by omega) (hT _)
        rw [show m61_L1 N (n : Int) w L.length (rwsP L) (i : Int) (ro L i).length (iL (ro L i)) N 0 (tP n T) = _ from e1, bnd_t]
        by_cases h4 : dayE n (L.take i) (ro L i) (ro L i).length 0 = 0
        · rw [if_neg (by simpa using h4), wrapN (by omega)]
          unfold outR
          rw [if_pos h4]
          have h5 := (e2 h4).next (by rw [List.length_take]; omega) (by omega)
          rw [← take_ro h1] at h5
          exact open_L0 N n hN hn w L hL hr20 f (i + 1) fuel T' (by omega) (by omega) (by omega) h5
        · unfold outR
          simp only [if_neg h4, if_pos (show dayE (n : Int) (L.take i) (ro L i) (ro L i).length 0 ≠ 0 from h4)]
          exact ⟨T, by trivial, fun h => absurd h h4⟩
    · rw [brn_nt h2, if_pos h2]; exact ⟨T, rfl, fun h => by cases h⟩
def T0 : T3 := (List.replicate 25 (-1), List.replicate 5 0, List.replicate 5 0)
theorem T0_rp (r : List Int) : Rp [] 0 r 0 T0 := by
  have hb : ∀ j, j < 5 → bn (List.replicate 5 0) j = 0 := by decide
  have ha : ∀ j, j < 25 → en (List.replicate 25 (-1)) j = -1 := by decide
  refine ⟨⟨⟨rfl, rfl, rfl, fun i hi => by show bn (List.replicate 5 0) i < 32; rw [hb i hi]; omega, fun i hi => by show bn (List.replicate 5 0) i < 32; rw [hb i hi]; omega⟩, fun j hj => by show -1 ≤ en (List.replicate 25 (-1)) j; rw [ha j hj]; omega⟩, fun s hs => ?_, fun j _ h5 => hb j h5, fun d s hd hs => ?_, fun j d hj hd => ?_⟩
  · show (bn (List.replicate 5 0) 0).testBit s = true ↔ _
    rw [hb 0 (by omega)]; simp
  · show (bn (List.replicate 5 0) d).testBit s = true ↔ _
    rw [hb d hd]; simp
  · show en (List.replicate 25 (-1)) (j * 5 + d) = _
    rw [ha _ (by omega), if_neg (by omega), if_neg (by omega)]
def zA (i k : Nat) : List Int := List.replicate (i * 5 + k) (-1) ++ List.replicate (25 - (i * 5 + k)) 0
theorem zA_set {i k : Nat} (h : i * 5 + k < 25) : (zA i k).set (i * 5 + k) (-1) = zA i (k + 1) := by
  unfold zA
  rw [List.set_append_right _ _ (by simp), List.length_replicate, Nat.sub_self, show 25 - (i * 5 + k) = (25 - (i * 5 + (k + 1))) + 1 by omega, List.replicate_succ, List.set_cons_zero, show i * 5 + (k + 1) = i * 5 + k + 1 by omega, List.replicate_succ']
  simp
theorem beg_L1 (N n i : Nat) (hi : i < 5) : ∀ (f k fuel : Nat), 5 - k = f → f < fuel → k ≤ 5 →
    m71_L1 N (i : Int) fuel (k : Int) (tblP n (zA i k) (List.replicate 5 0) (List.replicate 5 0)) = some (tblP n (zA i 5) (List.replicate 5 0) (List.replicate 5 0))
  | f, k, 0, _, h, _ => by omega
  | 0, k, fuel + 1, hf, _, hk => by
    have : k = 5 := by omega
    subst this
    rw [m71_L1, brn_df (by omega)]
  | f + 1, k, fuel + 1, hf, hfu, hk => by
    have hb : ∀ j, j < 5 → bn (List.replicate 5 0) j = 0 := by decide
    have tb : Tb (zA i k) (List.replicate 5 0) (List.replicate 5 0) := ⟨by simp [zA]; omega, rfl, rfl, fun i hi => by rw [hb i hi]; omega, fun i hi => by rw [hb i hi]; omega⟩
    have hl := tbl_len (n := n) tb
    rw [m71_L1, brn_dt (by omega), grd_t ⟨by omega, by omega⟩, grd_t ⟨by omega, by omega⟩, toNatN, toNatN, grd_t (by omega), wrapN (by omega), show 1 + i * 5 + k = 1 + (i * 5 + k) by omega, set_a tb (by omega), zA_set (by omega)]
    exact beg_L1 N n i hi f (k + 1) fuel (by omega) (by omega) (by omega)
theorem beg_L0 (N n : Nat) (hN : 2000 ≤ N) : ∀ (f i fuel : Nat), 5 - i = f → f < fuel → i ≤ 5 →
    m71_L0 N fuel (i : Int) (tblP n (zA i 0) (List.replicate 5 0) (List.replicate 5 0)) = some (tP n T0)
  | f, i, 0, _, h, _ => by omega
  | 0, i, fuel + 1, hf, _, hi => by
    have : i = 5 := by omega
    subst this
    rw [m71_L0, brn_df (by omega)]; rfl
  | f + 1, i, fuel + 1, hf, hfu, hi => by
    rw [m71_L0, brn_dt (by omega), show m71_L1 N (i : Int) N 0 (tblP n (zA i 0) (List.replicate 5 0) (List.replicate 5 0)) = _ from beg_L1 N n i (by omega) 5 0 N (by omega) (by omega) (by omega), bnd_t, wrapN (by omega)]
    have e : zA i 5 = zA (i + 1) 0 := by
      unfold zA
      rw [show i * 5 + 5 = (i + 1) * 5 + 0 by omega]
    rw [e]
    exact beg_L0 N n hN f (i + 1) fuel (by omega) (by omega) (by omega)
theorem begun_ok (N n : Nat) (hN : 2000 ≤ N) : m71 N (n : Int) = some (tP n T0) := by
  have := beg_L0 N n hN 5 0 N (by omega) (by omega) (by omega)
  rw [m71]
  show bnd' (m71_L0 N N ((0 : Nat) : Int) (tblP n (zA 0 0) (List.replicate 5 0) (List.replicate 5 0))) _ = _
  rw [this, bnd_t]
def opE (n : Nat) (e : Int) (T : T3) : Int ⊕ (Int × List PV) := if e = 0 then .inr (0, tP n T) else .inl e
theorem opened_ok (N : Nat) (hN : 2000 ≤ N) (x w : Int) (L : List (List Int)) (hL : L.length ≤ 1000) (hr : ∀ r ∈ L, r.length ≤ 1000) :
    ∃ T, m61 N x (.lst false L.length (rwsP L)) w = some (opE x.toNat (chkE x w L) T) ∧ (chkE x w L = 0 → ∀ r', Rp L L.length r' 0 T) := by
  rw [m61, getL_t]
  unfold chkE
  by_cases h1 : x < 1
  · rw [brn_dt h1, if_pos h1]; exact ⟨T0, rfl, fun h => by cases h⟩
  · rw [brn_df h1, if_neg h1]
    by_cases h2 : 5 < x
    · rw [brn_dt (by omega), if_pos h2]; exact ⟨T0, rfl, fun h => by cases h⟩
    · rw [brn_df (by omega), if_neg h2]
      by_cases h3 : x < (L.length : Int)
      · rw [brn_dt (by omega), if_pos h3]; exact ⟨T0, rfl, fun h => by cases h⟩
      · obtain ⟨n, rfl⟩ : ∃ n : Nat, x = (n : Int) := ⟨x.toNat, by omega⟩
        rw [brn_df (by omega), if_neg h3, begun_ok N n hN, bnd_t]
        obtain ⟨T, e1, e2⟩ := open_L0 N n hN (by omega) w L (by omega) hr L.length 0 N T0 (by omega) (by omega) (by omega) (fun r' => by rw [List.take_zero]; exact T0_rp r')
        refine ⟨T, ?_, e2⟩
        show bnd' (m61_L0 N (n : Int) w L.length (rwsP L) N 0 (tP n T0)) _ = _
        rw [show m61_L0 N (n : Int) w L.length (rwsP L) N 0 (tP n T0) = _ from e1, bnd_t, toNatN]
        unfold outR opE
        by_cases h4 : rowE (n : Int) w L L.length 0 = 0
        · simp only [if_pos h4]
        · simp only [if_neg h4]
theorem has_L (N : Nat) (s : Int) (X : List Int) (hX : X.length ≤ 1000) : ∀ (f i fuel : Nat), X.length - i = f → f < fuel → m92_L0 N s X.length (iL X) fuel (i : Int) = some (if s ∈ X.drop i then .inl (.bool true) else .inr ())
  | f, i, 0, _, h => by omega
  | f, i, fuel + 1, hf, hfu => by
    rw [m92_L0]
    by_cases h : i < X.length
    · have ih := has_L N s X hX (f - 1) (i + 1) fuel (by omega) (by omega)
      rw [brn_dt (by omega)]
      simp (disch := (try simp only [List.length_drop, iL_len, rws_len, toNatN]) <;> omega) only [↓grd_t, ↓gI_n]
      rw [drop_en h]
      by_cases e : en X i = s
      · rw [brn_et e, if_pos (by rw [e]; exact .head _)]
      · rw [brn_ef e, wrapN (by omega), ih]
        by_cases g : s ∈ X.drop (i + 1)
        · rw [if_pos g, if_pos (.tail _ g)]
        · rw [if_neg g, if_neg]
          intro h2
          rcases List.mem_cons.1 h2 with h2 | h2
          · exact e h2.symm
          · exact g h2
    · rw [brn_df (by omega), List.drop_eq_nil_of_le (by omega)]; rfl
theorem has_ok (N : Nat) (hN : 2000 ≤ N) (s : Int) (X : List Int) (hX : X.length ≤ 1000) : m92 N (rwP X) s = some (.bool (decide (s ∈ X))) := by
  have := has_L N s X hX X.length 0 N (by omega) (by omega)
  unfold rwP
  rw [m92, getL_t, show m92_L0 N s X.length (iL X) N 0 = _ from this, List.drop_zero, bnd_t]
  by_cases h : s ∈ X
  · rw [if_pos h, decide_eq_true h]
  · rw [if_neg h, decide_eq_false h]
def metB (P : List (List Int)) (k : Nat) (s : Int) : Bool := P.any fun q => decide (k < q.length) && (en q k == s)
theorem met_L (N k : Nat) (s : Int) (P : List (List Int)) (hP : P.length ≤ 1000) : ∀ (f i fuel : Nat), P.length - i = f → f < fuel → m63_L0 N (k : Int) s P.length (rwsP P) fuel (i : Int) = some (if metB (P.drop i) k s then .inl (.bool true) else .inr ())
  | f, i, 0, _, h => by omega
  | f, i, fuel + 1, hf, hfu => by
    rw [m63_L0]
    unfold metB
    by_cases h : i < P.length
    · have ih := met_L N k s P hP (f - 1) (i + 1) fuel (by omega) (by omega)
      unfold metB at ih
      rw [brn_dt (by omega), grd_t (p := 0 ≤ (i : Int) ∧ (i : Int) < ((P.length : Nat) : Int)) ⟨by omega, by omega⟩, grd_t (p := 0 < List.length (List.drop (Int.toNat (i : Int)) (rwsP P))) (by rw [List.length_drop, rws_len, toNatN]; omega), gL_n h, drop_ro h, List.any_cons]
      by_cases hk : k < (ro P i).length
      · rw [brn_dt (by omega), decide_eq_true hk, Bool.true_and]
        rw [grd_t (p := 0 ≤ (k : Int) ∧ (k : Int) < (((ro P i).length : Nat) : Int)) ⟨by omega, by omega⟩, grd_t (p := 0 < List.length (List.drop (Int.toNat (k : Int)) (iL (ro P i)))) (by rw [List.length_drop, iL_len, toNatN]; omega), gI_n hk]
        by_cases e : en (ro P i) k = s
        · rw [brn_et e, if_pos (by simp [e])]
        · rw [brn_ef e, wrapN (by omega), ih, show (en (ro P i) k == s) = false from by simpa using e, Bool.false_or]
      · rw [brn_df (by omega), decide_eq_false hk, Bool.false_and, Bool.false_or, wrapN (by omega), ih]
    · rw [brn_df (by omega), List.drop_eq_nil_of_le (by omega)]; rfl
theorem met_ok (N : Nat) (hN : 2000 ≤ N) (k : Nat) (s : Int) (P : List (List Int)) (hP : P.length ≤ 1000) : m63 N (.lst false P.length (rwsP P)) (k : Int) s = some (.bool (metB P k s)) := by
  have := met_L N k s P hP P.length 0 N (by omega) (by omega)
  rw [m63, getL_t, show m63_L0 N (k : Int) s P.length (rwsP P) N 0 = _ from this, List.drop_zero, bnd_t]
  cases metB P k s <;> rfl
def outC (e : Int) : PV ⊕ Unit := if e = 0 then .inr () else .inl (.int .i64 e)
theorem chk_L1 (N n : Nat) (hN : 2000 ≤ N) (hn : n ≤ 5) (L : List (List Int)) (hL : L.length ≤ 1000) (r : List Int) (hr : r.length ≤ 1000) (i : Nat) (hi : i < L.length) : ∀ (f k fuel : Nat), r.length - k = f → f < fuel → k ≤ r.length →
    m68_L1 N (n : Int) (r.length : Int) L.length (rwsP L) (i : Int) r.length (iL r) fuel (k : Int) = some (outC (dayE n (L.take i) r f k))
  | f, k, 0, _, h, _ => by omega
  | 0, k, fuel + 1, hf, _, hk => by
    rw [m68_L1, brn_df (by omega)]; rfl
  | f + 1, k, fuel + 1, hf, hfu, hk => by
    have h1 : k < r.length := by omega
    have lr := iL_len r
    have ll := rws_len L
    rw [m68_L1, brn_dt (by omega), dayE]
    rw [grd_t (p := 0 ≤ (k : Int) ∧ (k : Int) < ((r.length : Nat) : Int)) ⟨by omega, by omega⟩, grd_t (p := 0 < List.length (List.drop (Int.toNat (k : Int)) (iL r))) (by rw [List.length_drop, iL_len, toNatN]; omega), gI_n h1]
    rw [wrap64 (n := (n : Int) - 1) (by omega) (by omega)]
    have hb : m73 N (en r k) 0 ((n : Int) - 1) = some (.bool (decide (0 ≤ en r k) && decide (en r k < n))) := by
      rw [m73]
      by_cases h : en r k ≥ 0
      · rw [brn_dt h, decide_eq_true (show 0 ≤ en r k from h), Bool.true_and]
        congr 2
        exact decide_eq_decide.2 (by omega)
      · rw [brn_df h, decide_eq_false (show ¬ 0 ≤ en r k from h), Bool.false_and]
    rw [hb, bnd_t, getB_t]
    by_cases h2 : en r k < 0
    · rw [decide_eq_false (by omega), Bool.false_and, brn_f rfl, if_pos h2]; rfl
    · rw [if_neg h2, decide_eq_true (by omega), Bool.true_and]
      by_cases h3 : (n : Int) ≤ en r k
      · rw [brn_df (by omega), if_pos h3]; rfl
      · rw [brn_dt (by omega), if_neg h3, grd_t (by omega), grd_t (by omega), toNatN, toNatN, iL_take]
        have hk' : (r.take k).length = k := by rw [List.length_take]; omega
        have hh := has_ok N hN (en r k) (r.take k) (by omega)
        unfold rwP at hh
        rw [hk'] at hh
        rw [hh, bnd_t, getB_t]
        by_cases h4 : en r k ∈ r.take k
        · rw [brn_dt h4, if_pos h4]; rfl
        · rw [brn_df h4, if_neg h4, grd_t (by omega), grd_t (by omega), rws_take]
          have hi' : (L.take i).length = i := by rw [List.length_take]; omega
          have hm := met_ok N hN k (en r k) (L.take i) (by omega)
          rw [hi'] at hm
          rw [hm, bnd_t, getB_t]
          rw [show (L.take i).any (fun q => decide (k < q.length) && (en q k == en r k)) = metB (L.take i) k (en r k) from rfl]
          cases metB (L.take i) k (en r k) with
          | true => rfl
          | false =>
            rw [brn_f rfl, if_neg (by simp), wrapN (by omega)]
            exact chk_L1 N n hN hn L hL r hr i hi f (k + 1) fuel (by omega) (by omega) (by omega)
theorem chk_L0 (N n : Nat) (hN : 2000 ≤ N) (hn : n ≤ 5) (w : Int) (L : List (List Int)) (hL : L.length ≤ 1000) (hr20 : ∀ r ∈ L, r.length ≤ 1000) : ∀ (f i fuel : Nat), L.length - i = f → f < fuel → i ≤ L.length →
    m68_L0 N (n : Int) w L.length (rwsP L) fuel (i : Int) = some (outC (rowE n w L f i))
  | f, i, 0, _, h, _ => by omega
  | 0, i, fuel + 1, hf, _, hi => by
    rw [m68_L0, brn_df (by omega)]; rfl
  | f + 1, i, fuel + 1, hf, hfu, hi => by
    have h1 : i < L.length := by omega
    have hrl := hr20 _ (ro_mem h1)
    rw [m68_L0, brn_dt (by omega), rowE]
    simp (disch := (try simp only [List.length_drop, iL_len, rws_len, toNatN]) <;> omega) only [↓grd_t, ↓gL_n]
    by_cases h2 : ((ro L i).length : Int) = w
    · rw [brn_nf h2, if_neg (by simpa using h2)]
      by_cases h3 : (n : Int) < w
      · rw [brn_dt (by omega), if_pos h3]; rfl
      · rw [brn_df (by omega), if_neg h3]
        have e := chk_L1 N n hN hn L hL (ro L i) hrl i h1 (ro L i).length 0 N (by omega) (by omega) (by omega)
        rw [h2] at e
        by_cases h4 : dayE n (L.take i) (ro L i) (ro L i).length 0 = 0
        · rw [outC, if_pos h4] at e
          rw [show m68_L1 N (n : Int) w L.length (rwsP L) (i : Int) (ro L i).length (iL (ro L i)) N 0 = _ from e, bnd_t, if_neg (show ¬ dayE n (L.take i) (ro L i) (ro L i).length 0 ≠ 0 by simpa using h4), wrapN (by omega)]
          exact chk_L0 N n hN hn w L hL hr20 f (i + 1) fuel (by omega) (by omega) (by omega)
        · rw [outC, if_neg h4] at e
          rw [show m68_L1 N (n : Int) w L.length (rwsP L) (i : Int) (ro L i).length (iL (ro L i)) N 0 = _ from e, bnd_t, if_pos h4, outC, if_neg h4]
    · rw [brn_nt h2, if_pos h2]; rfl
theorem checked_ok (N : Nat) (hN : 2000 ≤ N) (x w : Int) (L : List (List Int)) (hL : L.length ≤ 1000) (hr : ∀ r ∈ L, r.length ≤ 1000) : m68 N x (.lst false L.length (rwsP L)) w = some (.int .i64 (chkE x w L)) := by
  have hb : m73 N x 1 5 = some (.bool (decide (1 ≤ x) && decide (x ≤ 5))) := by
    rw [m73]
    by_cases h : x ≥ 1
    · rw [brn_dt h, decide_eq_true (show 1 ≤ x from h), Bool.true_and]
    · rw [brn_df h, decide_eq_false (show ¬ 1 ≤ x from h), Bool.false_and]
  rw [m68, getL_t, hb, bnd_t, getB_t]
  unfold chkE
  by_cases h1 : x < 1
  · rw [decide_eq_false (by omega), Bool.false_and, brn_f rfl, if_pos h1]
  · rw [if_neg h1, decide_eq_true (by omega), Bool.true_and]
    by_cases h2 : 5 < x
    · rw [brn_df (by omega), if_pos h2]
    · rw [brn_dt (by omega), if_neg h2]
      by_cases h3 : x < (L.length : Int)
      · rw [brn_dt (by omega), if_pos h3]
      · obtain ⟨n, rfl⟩ : ∃ n : Nat, x = (n : Int) := ⟨x.toNat, by omega⟩
        have e := chk_L0 N n hN (by omega) w L hL hr L.length 0 N (by omega) (by omega) (by omega)
        rw [brn_df (by omega), if_neg h3, show m68_L0 N (n : Int) w L.length (rwsP L) N 0 = _ from e, bnd_t]
        unfold outC
        by_cases h4 : rowE n w L L.length 0 = 0
        · rw [if_pos h4, h4]
        · rw [if_neg h4]
def ext (n : Nat) : Nat → List Nat → List (List Nat)
  | 0, l => [l]
  | f + 1, l => (List.range n).flatMap fun s => if s ∈ l then [] else ext n f (l ++ [s])
def nL (l : List Nat) : List Int := l.map fun (s : Nat) => (s : Int)
def gn (l : List Nat) (d : Nat) : Nat := l.getD d 0
def fitB (P : List (List Int)) (l : List Nat) : Nat → Nat → Bool
  | 0, _ => true
  | f + 1, d => !metB P d (gn l d : Nat) && fitB P l f (d + 1)
def fitn (n : Nat) (P : List (List Int)) : List (List Nat) := (ext n n []).filter fun l => fitB P l n 0
theorem nL_len (l : List Nat) : (nL l).length = l.length := by simp [nL]
theorem nL_en {l : List Nat} {d : Nat} (h : d < l.length) : en (nL l) d = (gn l d : Int) := by
  simp [nL, en, gn, List.getD, h]
theorem gn_app1 {l m : List Nat} {d : Nat} (h : d < l.length) : gn (l ++ m) d = gn l d := by
  simp [gn, List.getD, List.getElem?_append_left h]
theorem gn_app2 {l : List Nat} {s : Nat} : gn (l ++ [s]) l.length = s := by simp [gn, List.getD]
theorem ext_get {n : Nat} : ∀ {f : Nat} {l x : List Nat}, x ∈ ext n f l → x.length = l.length + f ∧ (∀ d, d < l.length → gn x d = gn l d)
  | 0, l, x, h => by
    obtain rfl := List.mem_singleton.1 h
    exact ⟨rfl, fun _ _ => rfl⟩
  | f + 1, l, x, h => by
    rw [ext, List.mem_flatMap] at h
    obtain ⟨s, hs, h⟩ := h
    by_cases g : s ∈ l
    · rw [if_pos g] at h; cases h
    · rw [if_neg g] at h
      obtain ⟨h1, h2⟩ := ext_get h
      rw [List.length_append, List.length_singleton] at h1 h2
      exact ⟨by omega, fun d hd => by rw [h2 d (by omega), gn_app1 hd]⟩
theorem ext_lt {n : Nat} : ∀ {f : Nat} {l x : List Nat}, (∀ s ∈ l, s < n) → x ∈ ext n f l → ∀ s ∈ x, s < n
  | 0, l, x, hl, h => by
    obtain rfl := List.mem_singleton.1 h
    exact hl
  | f + 1, l, x, hl, h => by
    rw [ext, List.mem_flatMap] at h
    obtain ⟨s, hs, h⟩ := h
    by_cases g : s ∈ l
    · rw [if_pos g] at h; cases h
    · rw [if_neg g] at h
      refine ext_lt (fun t ht => ?_) h
      rcases List.mem_append.1 ht with ht | ht
      · exact hl t ht
      · obtain rfl := List.mem_singleton.1 ht
        exact List.mem_range.1 hs
theorem flen_le {α β : Type} {b : Nat} {g : α → List β} : ∀ (L : List α), (∀ x ∈ L, (g x).length ≤ b) → (L.flatMap g).length ≤ L.length * b
  | [], _ => by simp
  | x :: L, h => by
    have h1 := h x (.head _)
    have ih := flen_le L fun y hy => h y (.tail _ hy)
    rw [List.flatMap_cons, List.length_append, List.length_cons, Nat.add_mul, Nat.one_mul]; omega
theorem ext_card {n : Nat} : ∀ (f : Nat) (l : List Nat), (ext n f l).length ≤ n ^ f
  | 0, l => by simp [ext]
  | f + 1, l => by
    have := flen_le (b := n ^ f) (g := fun s => if s ∈ l then [] else ext n f (l ++ [s])) (List.range n) (fun s _ => by
      by_cases g : s ∈ l
      · simp only [if_pos g]; simp
      · simp only [if_neg g]; exact ext_card f _)
    rw [List.length_range] at this
    rw [ext, Nat.pow_succ, Nat.mul_comm]; exact this
theorem pow5 {n f : Nat} (hn : n ≤ 5) (hf : f ≤ 5) : n ^ f ≤ 3125 := by
  have h : ∀ n : Nat, n < 6 → ∀ f : Nat, f < 6 → n ^ f ≤ 3125 := by decide
  exact h n (by omega) f (by omega)
theorem fm_range {α : Type} {n : Nat} {h : Nat → List α} (hz : ∀ s, n ≤ s → h s = []) : ∀ m, n ≤ m → (List.range m).flatMap h = (List.range n).flatMap h
  | 0, hm => by have : n = 0 := by omega
                subst this; rfl
  | m + 1, hm => by
    by_cases e : n = m + 1
    · rw [e]
    · rw [List.range_succ, List.flatMap_append, fm_range hz m (by omega)]
      simp [hz m (by omega)]
theorem fm_filter {α β : Type} {q : α → Bool} {g : α → List β} : ∀ L : List α, (L.filter q).flatMap g = L.flatMap fun s => if q s then g s else []
  | [] => rfl
  | x :: L => by
    rw [List.filter_cons, List.flatMap_cons]
    cases q x with
    | true => rw [if_pos rfl, if_pos rfl, List.flatMap_cons, fm_filter L]
    | false => rw [if_neg (by simp), if_neg (by simp), List.nil_append, fm_filter L]
theorem filter_fm {α β : Type} {p : β → Bool} {g : α → List β} : ∀ L : List α, (L.flatMap g).filter p = L.flatMap fun s => (g s).filter p
  | [] => rfl
  | x :: L => by rw [List.flatMap_cons, List.flatMap_cons, List.filter_append, filter_fm L]
theorem fm_congr {α β : Type} {g h : α → List β} : ∀ {L : List α}, (∀ x ∈ L, g x = h x) → L.flatMap g = L.flatMap h
  | [], _ => rfl
  | x :: L, hh => by rw [List.flatMap_cons, List.flatMap_cons, hh x (.head _), fm_congr fun y hy => hh y (.tail _ hy)]
theorem filter_congr' {α : Type} {p q : α → Bool} : ∀ {L : List α}, (∀ x ∈ L, p x = q x) → L.filter p = L.filter q
  | [], _ => rfl
  | x :: L, h => by rw [List.filter_cons, List.filter_cons, h x (.head _), filter_congr' fun y hy => h y (.tail _ hy)]
theorem Rp.congr {P : List (List Int)} {i k : Nat} {r r' : List Int} {T : T3} (h : Rp P i r k T) (h1 : r.take k = r'.take k) (h2 : ∀ d, d < k → en r d = en r' d) : Rp P i r' k T := by
  refine ⟨h.tv, fun s hs => by rw [← h1]; exact h.b s hs, h.bz, fun d s hd hs => ?_, fun j d hj hd => ?_⟩
  · rw [h.d d s hd hs]
    constructor
    · rintro (h3 | h3)
      · exact .inl h3
      · exact .inr ⟨h3.1, by rw [← h2 d h3.1]; exact h3.2⟩
    · rintro (h3 | h3)
      · exact .inl h3
      · exact .inr ⟨h3.1, by rw [h2 d h3.1]; exact h3.2⟩
  · rw [h.a j d hj hd]
    by_cases h3 : j < i
    · rw [if_pos h3, if_pos h3]
    · rw [if_neg h3, if_neg h3]
      by_cases h4 : j = i ∧ d < k
      · rw [if_pos h4, if_pos h4, h2 d h4.2]
      · rw [if_neg h4, if_neg h4]
def rowOf (n p : Nat) (T : T3) : List Int := (T.1.drop (p * 5)).take n
theorem en_at {X : List Int} {a d : Nat} : en (X.drop a) d = en X (a + d) := by simp [en, List.getD]
theorem list_en {X Y : List Int} (hl : X.length = Y.length) (h : ∀ d, d < X.length → en X d = en Y d) : X = Y := by
  apply List.ext_getElem hl
  intro d h1 h2
  have := h d h1
  simpa [en, List.getD, h1, h2] using this
theorem rowOf_eq {n p : Nat} (hn : n ≤ 5) (hp : p < 5) {T : T3} (hT : Tv T) {r : List Int} (hr : r.length = n) (h : ∀ d, d < n → en T.1 (p * 5 + d) = en r d) : rowOf n p T = r := by
  have la := hT.tb.la
  refine list_en ?_ fun d hd => ?_
  · simp only [rowOf, List.length_take, List.length_drop]; omega
  · simp only [rowOf, List.length_take, List.length_drop] at hd
    have e : en (rowOf n p T) d = en (T.1.drop (p * 5)) d := by
      unfold rowOf en
      simp only [List.getD]
      rw [List.getElem?_take, if_pos (by omega)]
    rw [e, en_at]; exact h d (by omega)
theorem row_cmpl (n : Nat) (hn : n ≤ 5) (P : List (List Int)) (p : Nat) (hp : p < n) : ∀ (f : Nat) (l : List Nat) (T : T3) (F : Nat), l.length + f = n → (∀ s ∈ l, s < n) → Rp P p (nL l) l.length T → f + 2 ≤ F →
    (cmpl n (p + 1) F p l.length T).map (rowOf n p) = ((ext n f l).filter fun x => fitB P x f l.length).map nL
  | 0, l, T, F, hl, hs, hT, hF => by
    obtain ⟨F, rfl⟩ : ∃ G, F = G + 2 := ⟨F - 2, by omega⟩
    rw [cmpl, if_neg (by omega), if_pos (by omega), cmpl, if_pos rfl]
    have : rowOf n p T = nL l := rowOf_eq hn (by omega) hT.tv (by rw [nL_len]; omega) fun d hd => by
      rw [hT.a p d (by omega) (by omega), if_neg (by omega), if_pos ⟨rfl, by omega⟩]
    simp [ext, fitB, this]
  | f + 1, l, T, F, hl, hs, hT, hF => by
    obtain ⟨F, rfl⟩ : ∃ G, F = G + 1 := ⟨F - 1, by omega⟩
    have ha : en T.1 (p * 5 + l.length) = -1 := by
      rw [hT.a p l.length (by omega) (by omega), if_neg (by omega), if_neg (by omega)]
    rw [cmpl, if_neg (by omega), if_neg (by omega), if_neg (by omega), ext]
    unfold bits
    rw [fm_filter, List.map_flatMap, filter_fm, List.map_flatMap]
    have hz : ∀ s, s < 5 → (mayB n (bn T.2.1 p) (bn T.2.2 l.length)).testBit s = (decide (s < n) && !decide (s ∈ l) && !metB P l.length (s : Nat)) := fun s h5 => by
      rw [may_tst (by omega) (hT.tv.tb.b32 p (by omega)) (hT.tv.tb.d32 l.length (by omega)) h5]
      have hb : (bn T.2.1 p).testBit s = decide (s ∈ l) := by
        rw [Bool.eq_iff_iff, hT.b s h5, List.take_of_length_le (by rw [nL_len]; omega), decide_eq_true_eq]
        unfold nL
        rw [List.mem_map]
        constructor
        · rintro ⟨t, ht, e⟩
          have : t = s := by omega
          exact this ▸ ht
        · exact fun h => ⟨s, h, rfl⟩
      have hd : (bn T.2.2 l.length).testBit s = metB P l.length (s : Nat) := by
        rw [Bool.eq_iff_iff, hT.d l.length s (by omega) h5]
        unfold metB
        rw [List.any_eq_true]
        constructor
        · rintro (⟨q, hq, h5, h6⟩ | h5)
          · exact ⟨q, hq, by simp [h5, h6]⟩
          · omega
        · rintro ⟨q, hq, h5⟩
          simp only [Bool.and_eq_true, decide_eq_true_eq, beq_iff_eq] at h5
          exact .inl ⟨q, hq, h5⟩
      rw [hb, hd]
    have e1 : (List.range 5).flatMap (fun s => List.map (rowOf n p) (if (mayB n (bn T.2.1 p) (bn T.2.2 l.length)).testBit s = true then cmpl n (p + 1) F p (l.length + 1) (putT T p l.length s) else [])) =
        (List.range 5).flatMap (fun s => if (decide (s < n) && !decide (s ∈ l) && !metB P l.length (s : Nat)) = true then ((ext n f (l ++ [s])).filter fun x => fitB P x f (l.length + 1)).map nL else []) := by
      refine fm_congr fun s hs5 => ?_
      have h5 := List.mem_range.1 hs5
      rw [hz s h5]
      by_cases g : (decide (s < n) && !decide (s ∈ l) && !metB P l.length (s : Nat)) = true
      · rw [if_pos g, if_pos g]
        simp only [Bool.and_eq_true, decide_eq_true_eq] at g
        have hl1 : (l ++ [s]).length = l.length + 1 := by simp
        have hR : Rp P p (nL (l ++ [s])) l.length T := hT.congr (by rw [show nL (l ++ [s]) = nL l ++ [(s : Int)] by simp [nL], List.take_append_of_le_length (by rw [nL_len]; omega)]) fun d hd => by rw [nL_en hd, nL_en (by omega), gn_app1 hd]
        have hR2 := hR.put (by omega) (by omega) (by rw [nL_len]; omega) h5 (by rw [nL_en (by omega), gn_app2])
        rw [← hl1] at hR2
        have ih := row_cmpl n hn P p hp f (l ++ [s]) (putT T p l.length s) F (by omega) (fun t ht => by
          rcases List.mem_append.1 ht with ht | ht
          · exact hs t ht
          · obtain rfl := List.mem_singleton.1 ht
            exact g.1.1) hR2 (by omega)
        rw [hl1] at ih
        exact ih
      · rw [if_neg g, if_neg g]; rfl
    rw [e1, fm_range (n := n) (fun s h => by rw [decide_eq_false (by omega)]; rfl) 5 hn]
    refine fm_congr fun s hs' => ?_
    have hsn := List.mem_range.1 hs'
    rw [decide_eq_true hsn, Bool.true_and]
    by_cases g : s ∈ l
    · rw [if_pos g, decide_eq_true g]; rfl
    · rw [if_neg g, decide_eq_false g, Bool.not_false, Bool.true_and]
      have hx : ∀ x ∈ ext n f (l ++ [s]), gn x l.length = s := fun x hx => by
        rw [(ext_get hx).2 l.length (by simp), gn_app2]
      have hq : (ext n f (l ++ [s])).filter (fun x => fitB P x (f + 1) l.length) = (ext n f (l ++ [s])).filter (fun x => !metB P l.length (s : Nat) && fitB P x f (l.length + 1)) := filter_congr' fun x h => by
        show (!metB P l.length (gn x l.length : Nat) && _) = _
        rw [hx x h]
      rw [hq]
      cases metB P l.length (s : Nat) with
      | true => simp
      | false => simp
theorem rows_L0 (N n : Nat) (hN : 5000 ≤ N) (hn : n ≤ 5) (f : Nat) (hf5 : f < 5) (l : List Nat) (hl : l.length + (f + 1) = n) (rec : Int → PV → Option PV)
    (hrec : ∀ s, rec (n : Int) (rwP (nL (l ++ [s]))) = some (.lst false (ext n f (l ++ [s])).length (rwsP ((ext n f (l ++ [s])).map nL)))) : ∀ (g s fuel : Nat) (A : List (List Nat)), n - s = g → g < fuel → A.length ≤ 10000 * s →
    m91_L0 N rec (n : Int) l.length (iL (nL l)) fuel A.length (s : Int) (rwsP (A.map nL)) = some ((A ++ (List.range' s (n - s)).flatMap fun s => if s ∈ l then [] else ext n f (l ++ [s])).length, rwsP ((A ++ (List.range' s (n - s)).flatMap fun s => if s ∈ l then [] else ext n f (l ++ [s])).map nL))
  | g, s, 0, _, _, h, _ => by omega
  | g, s, fuel + 1, A, hg, hfu, hA => by
    rw [m91_L0]
    by_cases h : s < n
    · have hh := has_ok N (by omega) (s : Int) (nL l) (by rw [nL_len]; omega)
      unfold rwP at hh
      rw [nL_len] at hh
      have hm : decide ((s : Int) ∈ nL l) = decide (s ∈ l) := by
        refine decide_eq_decide.2 ?_
        unfold nL
        rw [List.mem_map]
        constructor
        · rintro ⟨t, ht, e⟩
          have : t = s := by omega
          exact this ▸ ht
        · exact fun h => ⟨s, h, rfl⟩
      rw [brn_dt (by omega), hh, bnd_t, getB_t, hm, range'_step h, List.flatMap_cons]
      by_cases g1 : s ∈ l
      · rw [brn_dt g1, if_pos g1, List.nil_append, wrapN (by omega)]
        exact rows_L0 N n hN hn f hf5 l hl rec hrec (g - 1) (s + 1) fuel A (by omega) (by omega) (by omega)
      · rw [brn_df g1, if_neg g1, grd_t (by rw [iL_len, nL_len]), iL_app]
        have e : (nL l ++ [(s : Int)]) = nL (l ++ [s]) := by simp [nL]
        have hc := ext_card (n := n) f (l ++ [s])
        have hp := pow5 (f := f) hn (by omega)
        have e3 : (PV.lst false (l.length + 1) (iL (nL (l ++ [s])))) = rwP (nL (l ++ [s])) := by
          unfold rwP; rw [nL_len, List.length_append, List.length_singleton]
        have ih := rows_L0 N n hN hn f hf5 l hl rec hrec (g - 1) (s + 1) fuel (A ++ ext n f (l ++ [s])) (by omega) (by omega) (by rw [List.length_append]; omega)
        have e4 : rwsP (A.map nL) ++ rwsP ((ext n f (l ++ [s])).map nL) = rwsP ((A ++ ext n f (l ++ [s])).map nL) := by simp [rwsP]
        rw [List.length_append, List.append_assoc] at ih
        rw [e, e3, hrec]
        have fin : (grd (l.length ≤ 1099511627776) <| grd ((l.length + 1) ≤ 1099511627776) <|
          bnd' (some (PV.lst false (ext n f (l ++ [s])).length (rwsP ((ext n f (l ++ [s])).map nL)))) fun p1548 =>
          getL p1548 fun n1551 c1552 =>
          grd (List.length c1552 = n1551) <|
          grd ((A.length + n1551) ≤ 1099511627776) <|
          grd (List.length (rwsP (A.map nL)) = A.length) <|
          m91_L0 N rec (n : Int) l.length (iL (nL l)) fuel (A.length + n1551) (IntKind.i64.wrap ((s : Int) + 1)) (rwsP (A.map nL) ++ c1552)) = some ((A ++ (ext n f (l ++ [s]) ++ (List.range' (s + 1) (n - (s + 1))).flatMap fun s => if s ∈ l then [] else ext n f (l ++ [s]))).length, rwsP ((A ++ (ext n f (l ++ [s]) ++ (List.range' (s + 1) (n - (s + 1))).flatMap fun s => if s ∈ l then [] else ext n f (l ++ [s]))).map nL)) := by
          rw [grd_t (by omega), grd_t (by omega), bnd_t, getL_t, grd_t (by rw [rws_len, List.length_map]), grd_t (by omega), grd_t (by rw [rws_len, List.length_map]), wrapN (by omega), e4, ih]
        by_cases g2 : 0 < l.length
        · rw [brn_dt g2]; exact fin
        · rw [brn_df g2]; exact fin
    · rw [brn_df (by omega), show n - s = 0 by omega]
      simp
theorem rows_ok (N n : Nat) (hN : 5000 ≤ N) (hn : n ≤ 5) : ∀ (f fu : Nat) (l : List Nat), l.length + f = n → f < fu → m91 N fu (n : Int) (rwP (nL l)) = some (.lst false (ext n f l).length (rwsP ((ext n f l).map nL)))
  | f, 0, _, _, h => by omega
  | 0, fu + 1, l, hl, _ => by
    have hll := nL_len l
    rw [m91]
    unfold rwP
    rw [getL_t, brn_et (by omega)]
    rfl
  | f + 1, fu + 1, l, hl, hf => by
    have hll := nL_len l
    rw [m91]
    unfold rwP
    rw [getL_t, brn_ef (by omega), hll]
    have e := rows_L0 N n hN hn f (by omega) l hl (m91 N fu) (fun s => rows_ok N n hN hn f fu (l ++ [s]) (by simp; omega) (by omega)) n 0 N [] (by omega) (by omega) (by simp)
    rw [show m91_L0 N (m91 N fu) (n : Int) l.length (iL (nL l)) N 0 0 [] = _ from e, bnd_t, List.nil_append, Nat.sub_zero, ← List.range_eq_range']
    show grd _ _ = _
    rw [grd_t (by rw [rws_len, List.length_map])]
    rfl
theorem fit_L1 (N n : Nat) (hN : 5000 ≤ N) (hn : n ≤ 5) (P : List (List Int)) (hP : P.length ≤ 1000) (R : List (List Nat)) (hR : ∀ x ∈ R, x.length = n) (i : Nat) (hi : i < R.length) (m : Nat) (cm : List PV) (k : Int) (hk : k = (i : Int)) : ∀ (f d fuel : Nat) (b : Bool), n - d = f → f < fuel → d ≤ n →
    m67_L1 N (n : Int) P.length (rwsP P) R.length (rwsP (R.map nL)) m k cm fuel b (d : Int) = some (b && fitB P (R.getD i []) f d)
  | f, d, 0, _, _, h, _ => by omega
  | 0, d, fuel + 1, b, hf, _, hd => by
    rw [m67_L1, brn_df (by omega), fitB, Bool.and_true]
  | f + 1, d, fuel + 1, b, hf, hfu, hd => by
    have hx := hR (R.getD i []) (by simp [List.getD, hi])
    have ih := fun b => fit_L1 N n hN hn P hP R hR i hi m cm k hk f (d + 1) fuel b (by omega) (by omega) (by omega)
    rw [m67_L1, brn_dt (by omega), fitB, wrapN (by omega)]
    cases b with
    | false => rw [brn_f rfl, ih]; simp
    | true =>
      have e1 : ro (R.map nL) i = nL (R.getD i []) := by simp [ro, List.getD, hi]
      have hl : (R.map nL).length = R.length := by simp
      subst hk
      rw [brn_t rfl, grd_t ⟨by omega, by omega⟩, toNatN, grd_t (by rw [List.length_drop, rws_len, hl]; omega), rws_gp (by rw [hl]; exact hi), getL_t, e1, nL_len, hx, toNatN, grd_t ⟨by omega, by omega⟩, grd_t (by rw [List.length_drop, iL_len, nL_len]; omega), iL_gp (by rw [nL_len]; omega), getI_t, nL_en (by omega), met_ok N (by omega) d _ P hP, bnd_t, getB_t, Bool.true_and]
      cases metB P d (gn (R.getD i []) d : Nat) with
      | true => rw [brn_t rfl, ih]; simp
      | false => rw [brn_f rfl, ih]; simp
theorem fit_L0 (N n : Nat) (hN : 5000 ≤ N) (hn : n ≤ 5) (P : List (List Int)) (hP : P.length ≤ 1000) (R : List (List Nat)) (hRl : R.length ≤ 4000) (hR : ∀ x ∈ R, x.length = n) : ∀ (f i fuel : Nat) (A : List (List Nat)), R.length - i = f → f < fuel → A.length ≤ i →
    m67_L0 N (n : Int) P.length (rwsP P) R.length (rwsP (R.map nL)) fuel A.length (i : Int) (rwsP (A.map nL)) = some ((A ++ (R.drop i).filter fun l => fitB P l n 0).length, rwsP ((A ++ (R.drop i).filter fun l => fitB P l n 0).map nL))
  | f, i, 0, _, _, h, _ => by omega
  | f, i, fuel + 1, A, hf, hfu, hA => by
    rw [m67_L0]
    by_cases h : i < R.length
    · have hl : (R.map nL).length = R.length := by simp
      have e1 : ro (R.map nL) i = nL (R.getD i []) := by simp [ro, List.getD, h]
      have ed : R.drop i = R.getD i [] :: R.drop (i + 1) := by rw [List.drop_eq_getElem_cons h]; simp [List.getD, h]
      have hx := hR (R.getD i []) (by simp [List.getD, h])
      rw [brn_dt (by omega), show m67_L1 N (n : Int) P.length (rwsP P) R.length (rwsP (R.map nL)) A.length (i : Int) (rwsP (A.map nL)) N true 0 = _ from fit_L1 N n hN hn P hP R hR i h A.length (rwsP (A.map nL)) (i : Int) rfl n 0 N true (by omega) (by omega) (by omega), bnd_t, Bool.true_and, ed, List.filter_cons, wrapN (by omega)]
      cases fitB P (R.getD i []) n 0 with
      | true =>
        have ih := fit_L0 N n hN hn P hP R hRl hR (f - 1) (i + 1) fuel (A ++ [R.getD i []]) (by omega) (by omega) (by simp; omega)
        have e4 : rwsP (A.map nL) ++ [rwP (nL (R.getD i []))] = rwsP ((A ++ [R.getD i []]).map nL) := by simp [rwsP]
        rw [List.length_append, List.length_singleton, List.append_assoc, List.singleton_append] at ih
        rw [brn_t rfl, grd_t ⟨by omega, by omega⟩, toNatN, grd_t (by rw [List.length_drop, rws_len, hl]; omega), rws_gp (by rw [hl]; exact h), getL_t, e1, grd_t (by omega), grd_t (by rw [rws_len, List.length_map]), if_pos rfl]
        rw [show rwsP (A.map nL) ++ [PV.lst false (nL (R.getD i [])).length (iL (nL (R.getD i [])))] = _ from e4]
        exact ih
      | false =>
        rw [brn_f rfl, if_neg (by simp)]
        exact fit_L0 N n hN hn P hP R hRl hR (f - 1) (i + 1) fuel A (by omega) (by omega) (by omega)
    · rw [brn_df (by omega), List.drop_eq_nil_of_le (by omega)]; simp
theorem fitting_ok (N n : Nat) (hN : 5000 ≤ N) (hn : n ≤ 5) (P : List (List Int)) (hP : P.length ≤ 1000) : m67 N (n : Int) (.lst false P.length (rwsP P)) = some (.lst false (fitn n P).length (rwsP ((fitn n P).map nL))) := by
  have hc := ext_card (n := n) n []
  have hp := pow5 (f := n) hn hn
  have r := rows_ok N n hN hn n N [] (by simp) (by omega)
  have e := fit_L0 N n hN hn P hP (ext n n []) (by omega) (fun x hx => by have := (ext_get hx).1; simpa using this) (ext n n []).length 0 N [] (by omega) (by omega) (by simp)
  rw [m67, getL_t, show m91 N N (n : Int) (.lst false 0 []) = _ from r, bnd_t, getL_t]
  rw [show m67_L0 N (n : Int) P.length (rwsP P) (ext n n []).length (rwsP ((ext n n []).map nL)) N 0 0 [] = _ from e, bnd_t]
  show grd _ _ = _
  rw [List.nil_append, List.drop_zero, grd_t (by rw [rws_len, List.length_map])]
  rfl
end Go.Proofs.YtcaecfofgdogbaaDoor
namespace Go.Proofs.YtcaecfofgdogbaaDoor
open Go.V
set_option linter.unusedSectionVars false
set_option maxRecDepth 100000
def pc (x : Nat) : Nat := (bits x).length
def subs : Nat → Nat → List Nat
  | 1, 0 => [0]
  | 1, 1 => [1]
  | 2, 0 => [0]
  | 2, 1 => [1, 2]
  | 2, 2 => [3]
  | 3, 0 => [0]
  | 3, 1 => [1, 2, 4]
  | 3, 2 => [3, 5, 6]
  | 3, 3 => [7]
  | 4, 0 => [0]
  | 4, 1 => [1, 2, 4, 8]
  | 4, 2 => [3, 5, 6, 9, 10, 12]
  | 4, 3 => [7, 11, 13, 14]
  | 4, 4 => [15]
  | 5, 0 => [0]
  | 5, 1 => [1, 2, 4, 8, 16]
  | 5, 2 => [3, 5, 6, 9, 10, 12, 17, 18, 20, 24]
  | 5, 3 => [7, 11, 13, 14, 19, 21, 22, 25, 26, 28]
  | 5, 4 => [15, 23, 27, 29, 30]
  | 5, 5 => [31]
  | _, _ => []
def prm (n : Nat) : List Nat → Nat → Nat
  | [], _ => 1
  | M :: D, u => ((List.range n).map fun s => bif (M ||| u).testBit s then 0 else prm n D (u ||| 2 ^ s)).sum
def fac : Nat → Nat
  | 0 => 1
  | n + 1 => (n + 1) * fac n
def okC (M : Nat) : Nat → List Nat → Bool
  | _, [] => true
  | s, c :: l => (bif M.testBit s then !(c == 0) else true) && okC M (s + 1) l
def sbC (M : Nat) : Nat → List Nat → List Nat
  | _, [] => []
  | s, c :: l => (bif M.testBit s then c - 1 else c) :: sbC M (s + 1) l
def hallB (n k : Nat) : Nat → List Nat → List Nat → Bool
  | 0, cols, D => !(cols.all (· == 0)) || Nat.ble (fac (n - k)) (prm n D 0)
  | d + 1, cols, D => (subs n k).all fun M => !(okC M 0 cols) || hallB n k d (sbC M 0 cols) (D ++ [M])
theorem hall1_0 : hallB 1 0 1 (List.replicate 1 0) [] = true := by decide +kernel
theorem hall2_0 : hallB 2 0 2 (List.replicate 2 0) [] = true := by decide +kernel
theorem hall2_1 : hallB 2 1 2 (List.replicate 2 1) [] = true := by decide +kernel
theorem hall3_0 : hallB 3 0 3 (List.replicate 3 0) [] = true := by decide +kernel
theorem hall3_1 : hallB 3 1 3 (List.replicate 3 1) [] = true := by decide +kernel
theorem hall3_2 : hallB 3 2 3 (List.replicate 3 2) [] = true := by decide +kernel
theorem hall4_0 : hallB 4 0 4 (List.replicate 4 0) [] = true := by decide +kernel
theorem hall4_1 : hallB 4 1 4 (List.replicate 4 1) [] = true := by decide +kernel
theorem hall4_2 : hallB 4 2 4 (List.replicate 4 2) [] = true := by decide +kernel
theorem hall4_3 : hallB 4 3 4 (List.replicate 4 3) [] = true := by decide +kernel
theorem hall5_0 : hallB 5 0 5 (List.replicate 5 0) [] = true := by decide +kernel
theorem hall5_1 : hallB 5 1 5 (List.replicate 5 1) [] = true := by decide +kernel
theorem hall5_2 : hallB 5 2 5 (List.replicate 5 2) [] = true := by decide +kernel
theorem hall5_3 : hallB 5 3 5 (List.replicate 5 3) [] = true := by decide +kernel
theorem hall5_4 : hallB 5 4 5 (List.replicate 5 4) [] = true := by decide +kernel
end Go.Proofs.YtcaecfofgdogbaaDoor
