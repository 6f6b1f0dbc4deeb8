/-
  THE ENGINE, PART 36: a list of nothing is nil, or it is not.
-/
import Derived.Test.YteidcinajdehkaaQFV35
set_option linter.unusedSimpArgs false
set_option linter.unusedVariables false
namespace Go.V
def getN {α : Type} (p : PV) (k1 : Option α) (k2 : Nat → List PV → Option α) : Option α := match p with | .nl => k1 | .lst false n c => k2 n c | _ => none
theorem getN_some {α : Type} {p : PV} {k1 : Option α} {k2 : Nat → List PV → Option α} {r : α} (h : getN p k1 k2 = some r) : (p = .nl ∧ k1 = some r) ∨ ∃ n c, p = .lst false n c ∧ k2 n c = some r := by
  unfold getN at h; split at h
  · exact .inl ⟨rfl, h⟩
  · exact .inr ⟨_, _, rfl, h⟩
  · cases h
theorem ELe.r {s : Nat} {d : D} {e e' : Env} (t : ELe e e') : ELe ((s, d) :: e) ((s, d) :: e') := .cons _ _ _ _ _ (.refl _) t
theorem ELe.k {s : Nat} {d : D} {e e' : Env} (t : ELe e e') : ELe ((s, d) :: e) ((s, .dead) :: e') := .cons _ _ _ _ _ (.dead _) t
attribute [go_sem] ne_eq not_false_eq_true Int.le_refl Nat.le_refl decide_true decide_false Int.cast_ofNat_Int
end Go.V
