/-
  THE ENGINE, PART 30: a call that is handed objects and hands them back; a return that does.
-/
import Derived.Test.YtdnfffmppppoeaaDoorPV29
set_option linter.unusedSimpArgs false
set_option linter.unusedVariables false
namespace Go.V
section
end
theorem fzL_app (id : Nat) (cs : List PV) : ∀ (a b : List D), fzL id cs (a ++ b) = fzL id cs a ++ fzL id cs b
  | [], _ => rfl
  | d :: a, b => by simp [fzL, fzL_app id cs a b]
theorem fzL_v (id : Nat) (cs : List PV) : ∀ (l : List PV), fzL id cs (l.map .v) = l.map .v
  | [] => rfl
  | d :: a => by simp [fzL, fzD, fzL_v id cs a]
theorem mkO_v : ∀ (l acc : List PV) (t : List D), mkO (l.map .v ++ t) acc = mkO t (l.reverse ++ acc)
  | [], acc, t => rfl
  | d :: a, acc, t => by simp [mkO, mkO_v a (d :: acc) t]
theorem objOf_app (l : List PV) (p : PV) : objOf (l.map .v ++ [.v p]) = .p (l ++ [p]) := by
  simp [objOf, mkO_v, mkO]
theorem objOf_v (l : List PV) : objOf (l.map .v) = .p l := by
  have := mkO_v l [] []
  simp only [List.append_nil] at this
  simp [objOf, this, mkO]
attribute [go_sem] fzL_app fzL_v objOf_app objOf_v
attribute [go_sem] wrIn wrOut outN ren renL renO liveB keysOf newIds nth inN idx allL
end Go.V
