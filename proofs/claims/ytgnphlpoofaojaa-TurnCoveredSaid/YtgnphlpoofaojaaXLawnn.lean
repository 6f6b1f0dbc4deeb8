/-
  TurnNeeds: the law.
-/
import Derived.Test.YtgnphlpoofaojaaXLawn
import Derived.Test.YtgnphlpoofaojaaXCon
namespace Go.Proofs.Ytgnphlpoofaojaa
open Go.V

theorem neededG_ok (N : Nat) (hN : 4000 ≤ N) (L : List (Int × Int)) (h0 : Chk L = 0) : m24 N (.lst false L.length (cellsC L)) = some (.tup [.lst false (hullF L).length (nL (hullF L)), .int .i64 0]) := by
  obtain ⟨l1, l8, hb⟩ := Chk_len8 h0
  simp only [m24, getL, check_ok N L (by omega) (by omega), bnd', getI, if_true]
  rw [brn_f (by simp [h0]), hull_ok N L hb l1 (by omega) (by omega)]
end Go.Proofs.Ytgnphlpoofaojaa
