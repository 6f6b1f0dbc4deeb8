/-
  Append to the first part of an owned object.
-/
import Derived.Test.YteidcinajdehkaaQFV32
set_option linter.unusedSimpArgs false
set_option linter.unusedVariables false
namespace Go.V
def cutG (k : Nat) (cs : List PV) : Prop := k ≤ cs.length
instance (k : Nat) (cs : List PV) : Decidable (cutG k cs) := by unfold cutG; infer_instance
def getT0 {α : Type} (p : PV) (k : Option α) : Option α := match p with | .tup [] => k | _ => none
theorem getT0_some {α : Type} {p : PV} {k : Option α} {r : α} (h : getT0 p k = some r) : p = .tup [] ∧ k = some r := by
  unfold getT0 at h; split at h
  · exact ⟨rfl, h⟩
  · cases h
end Go.V
