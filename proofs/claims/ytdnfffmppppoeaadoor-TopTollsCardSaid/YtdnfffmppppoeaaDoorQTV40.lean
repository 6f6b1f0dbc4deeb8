/-
  An octet of a string that is written down.
-/
import Derived.Test.YtdnfffmppppoeaaDoorQTV39
set_option linter.unusedSimpArgs false
set_option linter.unusedVariables false
namespace Go.V
def getS {α : Type} (s : ByteArray) (i : Nat) (k : Int → Option α) : Option α := match s[i]? with | some b => k (b.toNat : Int) | none => none
theorem getS_some {α : Type} {s : ByteArray} {i : Nat} {k : Int → Option α} {r : α} (h : getS s i k = some r) : ∃ (b : UInt8) (x : Int), s[i]? = some b ∧ (b.toNat : Int) = x ∧ k x = some r := by
  unfold getS at h; split at h
  · rename_i b hb; exact ⟨b, _, hb, rfl, h⟩
  · cases h
end Go.V
