/-
  The package variables that are read: what the row's condition says of their cells.
-/
import Derived.Test.YtnponojgpkbagaaDoorRows
import Derived.Test.YtnponojgpkbagaaDoorV26
import Derived.ProofKit
import Derived.Lib.LaidTab
import Derived.Stop.LaidErr
import Derived.MakeChecks
namespace Go.Proofs.YtnponojgpkbagaaDoor
open Go.V
set_option maxRecDepth 100000
def tab32 : List Int := [0, 1, 28, 2, 29, 14, 24, 3, 30, 22, 20, 15, 25, 17, 4, 8, 31, 27, 13, 23, 21, 19, 16, 7, 26, 12, 18, 6, 11, 5, 10, 9]
def tab64 : List Int := [0, 1, 56, 2, 57, 49, 28, 3, 61, 58, 42, 50, 38, 29, 17, 4, 62, 47, 59, 36, 45, 43, 51, 22, 53, 39, 33, 30, 24, 18, 12, 5, 63, 55, 48, 27, 60, 41, 37, 16, 46, 35, 44, 21, 52, 32, 23, 11, 54, 26, 40, 15, 34, 20, 31, 10, 25, 14, 19, 9, 13, 8, 7, 6]
theorem rc_tab {W : World} {b : Nat} : ∀ (zs : List Int) (off : Nat), (∀ i, i < zs.length → W.cell? ⟨b, off + i, none⟩ = some (.int .u8 (zs.getD i 0))) → RC W (fun _ => False) b off (zs.map (PV.int .u8))
  | [], off, _ => .nil b off
  | z :: zs, off, h => .cons b off (.int .u8 z) (.int .u8 z) _ (by simpa using h 0 (by simp)) rfl (fun h => h) (.int _ _) (rc_tab zs (off + 1) fun i hi => by
      have := h (i + 1) (by simpa using hi)
      rw [show off + (i + 1) = off + 1 + i by omega] at this
      simpa using this)
theorem laidG {W : World} (h : laidMetH Tryd.prog [("math/bits.deBruijn32tab", Rows.laid_math_bits_deBruijn32tab), ("math/bits.deBruijn64tab", Rows.laid_math_bits_deBruijn64tab)] W) : ∀ x ∈ Gv, RC W (fun _ => False) x.1 0 x.2 := by
  rw [MakeChecks.laidMetH_plain _ _ _ (by kernel_rfl)] at h
  have h1 : laidMet Tryd.prog (("math/bits.deBruijn32tab", Lib.tabData .u8 tab32) :: [("math/bits.deBruijn64tab", Rows.laid_math_bits_deBruijn64tab)]) W := h
  have h2 : laidMet Tryd.prog (("math/bits.deBruijn64tab", Lib.tabData .u8 tab64) :: []) W := laidMet.tail h
  have g1 : Tryd.prog.globalNamed "math/bits.deBruijn32tab" = some 0 := by kernel_rfl
  have g2 : Tryd.prog.globalNamed "math/bits.deBruijn64tab" = some 1 := by kernel_rfl
  have t1 := Lib.tabIs_of_head g1 (t := 134) (e := 5) (n := 32) (by kernel_rfl) (by kernel_rfl) (by kernel_rfl) (by kernel_rfl) (by kernel_rfl) h1
  have t2 := Lib.tabIs_of_head g2 (t := 135) (e := 5) (n := 64) (by kernel_rfl) (by kernel_rfl) (by kernel_rfl) (by kernel_rfl) (by kernel_rfl) h2
  intro x hx
  have hx' : x = (0, tab32.map (PV.int .u8)) ∨ x = (1, tab64.map (PV.int .u8)) := by
    have e : Gv = [(0, tab32.map (PV.int .u8)), (1, tab64.map (PV.int .u8))] := rfl
    rw [e] at hx
    simpa using hx
  rcases hx' with rfl | rfl
  · exact rc_tab tab32 0 fun i hi => by rw [Nat.zero_add]; exact t1.cell g1 i hi
  · exact rc_tab tab64 0 fun i hi => by rw [Nat.zero_add]; exact t2.cell g2 i hi
end Go.Proofs.YtnponojgpkbagaaDoor
