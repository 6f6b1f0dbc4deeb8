/-
  Append to the first part of an owned object.
-/
import Derived.Test.YteidcinajdehkaaQOV32
set_option linter.unusedSimpArgs false
set_option linter.unusedVariables false
namespace Go.V
def cutG (k : Nat) (cs : List PV) : Prop := k ≤ cs.length
instance (k : Nat) (cs : List PV) : Decidable (cutG k cs) := by unfold cutG; infer_instance
theorem cutG_le {k : Nat} {cs : List PV} (h : cutG k cs) : (k ≤ cs.length) = True := eq_true h
theorem extO_cut {k : Nat} {cs : List PV} (h : cutG k cs) : extO (.p cs) k = .p cs := extO_le _ _ (by simp only [AObj.cells, List.length_map]; exact h)
def normE : Env → Env
  | [] => []
  | (t, d) :: l => (t, d.norm) :: normE l
theorem lk_normE : ∀ (e : Env) (s : Nat), lk (normE e) s = (lk e s).norm
  | [], s => rfl
  | (t, d) :: l, s => by
    have ih := lk_normE l s
    simp only [normE, lk_cons]
    cases t == s <;> simp [ih]
theorem Wk_norm {sz bs nx : Nat} {e : Env} {ob : Obs} : Wk sz bs ⟨[], e, ob, nx, []⟩ ⟨[], normE e, ob, nx, []⟩ := by
  intro fr hfr a w ρ hs
  refine ⟨ρ, ⟨hs.defers, hs.size, hs.rep, fun s => ?_, hs.fr⟩, EvoB.refl bs w ρ _⟩
  show RD w (Own ρ (ovl (obL ob) fr)) ρ (a.tmps.getD s undef) (lk (normE e) s)
  rw [lk_normE]
  exact (hs.env s : RD w (Own ρ (ovl (obL ob) fr)) ρ (a.tmps.getD s undef) (lk e s)).norm
def getT0 {α : Type} (p : PV) (k : Option α) : Option α := match p with | .tup [] => k | _ => none
theorem getT0_some {α : Type} {p : PV} {k : Option α} {r : α} (h : getT0 p k = some r) : p = .tup [] ∧ k = some r := by
  unfold getT0 at h; split at h
  · exact ⟨rfl, h⟩
  · cases h
end Go.V
