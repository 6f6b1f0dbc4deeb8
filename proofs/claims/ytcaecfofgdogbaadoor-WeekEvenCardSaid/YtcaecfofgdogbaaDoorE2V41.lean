/-
  An append to a slice of which it is not known whether it has room: both ways give the same answer.
-/
import Derived.Test.YtcaecfofgdogbaaDoorE2V40
set_option linter.unusedSimpArgs false
set_option linter.unusedVariables false
namespace Go.V
theorem extO_app {cs : List PV} {n : Nat} (h : cs.length = n) : extO (.p cs) (n + 1) = .p (cs ++ [.nl]) := by
  subst h
  have e : cs.length + 1 - cs.length = 1 := by omega
  simp only [extO, e, List.replicate]
theorem set_app {cs : List PV} {n : Nat} {d x : PV} (h : cs.length = n) : (cs ++ [d]).set n x = cs ++ [x] := by
  subst h; simp
theorem cutB_app {cs : List PV} {n : Nat} {l : List PV} (h : cs.length = n) : (AObj.p (cs ++ l)).cut n = .p cs := by
  subst h
  rw [cut_take (by unfold cutG; simp)]
  simp
def normX (x : Nat) : Env → Env
  | [] => []
  | (t, d) :: l => (t, bif Nat.beq t x then d else d.norm) :: normX x l
theorem lk_normX (x : Nat) : ∀ (e : Env) (s : Nat), lk (normX x e) s = bif Nat.beq s x then lk e s else (lk e s).norm
  | [], s => by cases h : Nat.beq s x <;> rfl
  | (t, d) :: l, s => by
    have ih := lk_normX x l s
    simp only [normX, lk_cons]
    cases h : t == s with
    | true =>
      have := beq_iff_eq.1 h; subst this
      cases h2 : Nat.beq t x <;> simp
    | false => simp [ih]
theorem Wk_normX {sz bs nx : Nat} {e : Env} {ob : Obs} (x : Nat) : Wk sz bs ⟨[], e, ob, nx, []⟩ ⟨[], normX x e, ob, nx, []⟩ := by
  intro fr hfr a w ρ hs
  refine ⟨ρ, ⟨hs.defers, hs.size, hs.rep, fun s => ?_, hs.fr⟩, EvoB.refl bs w ρ _⟩
  show RD w (Own ρ (ovl (obL ob) fr)) ρ (a.tmps.getD s undef) (lk (normX x e) s)
  rw [lk_normX]
  cases Nat.beq s x with
  | true => exact hs.env s
  | false => exact (hs.env s : RD w (Own ρ (ovl (obL ob) fr)) ρ (a.tmps.getD s undef) (lk e s)).norm
theorem Fn_slr {P : Program} {f : FuncId} {bs : Nat} {as : List D} {ob : Obs} {Q : D → Obs → Prop} {id off n room sz : Nat} (h : Fn P f bs (.sl false id off n sz :: as) ob Q) : Fn P f bs (.slr id off n room sz :: as) ob Q := by
  intro fr hfr vals w ρ h1 h2 h3
  refine h fr hfr vals w ρ h1 ?_ h3
  generalize vals.toList = vs at h2
  cases h2 with
  | cons v d vs l hv hvs => exact .cons _ _ _ _ hv.norm hvs
def keepE (ks : List Nat) : Env → Env
  | [] => []
  | (t, d) :: l => (t, bif ks.contains t then d else .dead) :: keepE ks l
theorem keepE_le (ks : List Nat) : ∀ e : Env, ELe e (keepE ks e)
  | [] => .nil
  | (t, d) :: l => .cons t d _ l _ (by cases ks.contains t <;> first | exact .refl _ | exact .dead _) (keepE_le ks l)
theorem Wk_keep {sz bs nx : Nat} {e : Env} {ob : Obs} {st' : St} (ks : List Nat) (h : cmpS bs ⟨[], keepE ks e, ob, nx, []⟩ = some st') : Wk sz bs ⟨[], e, ob, nx, []⟩ st' := (Wk_le (keepE_le ks e) (OLe.refl _)).trans (cmpS_ok h)
noncomputable def both {α : Type} (a b : Option α) : Option α := match a, b with
  | some x, some y => @ite _ (x = y) (Classical.propDecidable _) (some x) none
  | _, _ => none
theorem both_some {α : Type} {a b : Option α} {r : α} (h : both a b = some r) : a = some r ∧ b = some r := by
  unfold both at h
  split at h
  · rename_i x y
    by_cases hxy : x = y
    · subst hxy; simp only [if_true, Option.some.injEq] at h; subst h; exact ⟨rfl, rfl⟩
    · rw [if_neg hxy] at h; cases h
  · cases h
theorem both_same {α : Type} {a b : Option α} {r : α} (h : a = some r) (h' : b = some r) : both a b = some r := by
  subst h h'; simp [both]
end Go.V
