/-
  An append to a slice of which it is not known whether it has room: both ways give the same answer.
-/
import Derived.Test.YteidcinajdehkaaQFV40
set_option linter.unusedSimpArgs false
set_option linter.unusedVariables false
namespace Go.V
def keepE (ks : List Nat) : Env → Env
  | [] => []
  | (t, d) :: l => (t, bif ks.contains t then d else .dead) :: keepE ks l
theorem keepE_le (ks : List Nat) : ∀ e : Env, ELe e (keepE ks e)
  | [] => .nil
  | (t, d) :: l => .cons t d _ l _ (by cases ks.contains t <;> first | exact .refl _ | exact .dead _) (keepE_le ks l)
theorem Wk_keep {sz bs nx : Nat} {e : Env} {ob : Obs} {st' : St} (ks : List Nat) (h : cmpS bs ⟨[], keepE ks e, ob, nx, []⟩ = some st') : Wk sz bs ⟨[], e, ob, nx, []⟩ st' := (Wk_le (keepE_le ks e) (OLe.refl _)).trans (cmpS_ok h)
end Go.V
