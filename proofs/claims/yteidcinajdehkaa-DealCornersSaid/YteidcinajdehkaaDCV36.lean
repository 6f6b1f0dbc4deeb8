/-
  THE ENGINE, PART 36: a list of nothing is nil, or it is not.
-/
import Derived.Test.YteidcinajdehkaaDCV35
set_option linter.unusedSimpArgs false
set_option linter.unusedVariables false
namespace Go.V
theorem ELe.r {s : Nat} {d : D} {e e' : Env} (t : ELe e e') : ELe ((s, d) :: e) ((s, d) :: e') := .cons _ _ _ _ _ (.refl _) t
theorem ELe.k {s : Nat} {d : D} {e e' : Env} (t : ELe e e') : ELe ((s, d) :: e) ((s, .dead) :: e') := .cons _ _ _ _ _ (.dead _) t
attribute [go_sem] ne_eq not_false_eq_true Int.le_refl Nat.le_refl decide_true decide_false Int.cast_ofNat_Int
end Go.V
