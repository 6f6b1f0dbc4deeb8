/-
  THE ENGINE, PART 36: a list of nothing is nil, or it is not.
-/
import Derived.Test.YtnponojgpkbagaaDoorYV35
set_option linter.unusedSimpArgs false
set_option linter.unusedVariables false
namespace Go.V
abbrev nnP : PV := .fn 999999 [.bool false]
theorem FnP_nil {P : Program} {f : FuncId} {ps : List PV} {r : PV} {g : Bool} (h1 : FnP P f (.nl :: ps) r) (h2 : FnP P f (nnP :: ps) r) : FnP P f (.lst g 0 [] :: ps) r := by
  intro fr hfr vals w ρ a1 a2 a3
  have key : RDs w (Own ρ (ovl (obL []) fr)) ρ vals.toList (List.map D.v (.nl :: ps)) ∨ RDs w (Own ρ (ovl (obL []) fr)) ρ vals.toList (List.map D.v (nnP :: ps)) := by
    generalize vals.toList = vs at a2
    cases a2 with
    | cons v d vs l hv hvs =>
      cases hv with | v _ _ hv =>
      rcases RP_lst_nn hv with h | h
      · exact .inl (.cons _ _ _ _ (.v _ _ h) hvs)
      · exact .inr (.cons _ _ _ _ (.v _ _ h) hvs)
  rcases key with h | h
  · exact h1 fr hfr vals w ρ a1 h a3
  · exact h2 fr hfr vals w ρ a1 h a3
theorem ELe.r {s : Nat} {d : D} {e e' : Env} (t : ELe e e') : ELe ((s, d) :: e) ((s, d) :: e') := .cons _ _ _ _ _ (.refl _) t
theorem ELe.k {s : Nat} {d : D} {e e' : Env} (t : ELe e e') : ELe ((s, d) :: e) ((s, .dead) :: e') := .cons _ _ _ _ _ (.dead _) t
attribute [go_sem] ne_eq not_false_eq_true Int.le_refl Nat.le_refl decide_true decide_false Int.cast_ofNat_Int
end Go.V
