/-
  Append to the first part of an owned object.
-/
import Derived.Test.YtcaecfofgdogbaaDoorE2V32
set_option linter.unusedSimpArgs false
set_option linter.unusedVariables false
namespace Go.V
def cutG (k : Nat) (cs : List PV) : Prop := k ≤ cs.length
instance (k : Nat) (cs : List PV) : Decidable (cutG k cs) := by unfold cutG; infer_instance
theorem cut_take {k : Nat} {cs : List PV} (_ : cutG k cs) : (AObj.p cs).cut k = .p (cs.take k) := by
  have : ∀ b : Bool, (b = true → cs.length = k) → (bif b then AObj.p cs else AObj.p (cs.take k)) = AObj.p (cs.take k) := by
    intro b hb
    cases b with
    | false => rfl
    | true =>
      have := hb rfl
      rw [cond_true, List.take_of_length_le (by omega)]
  exact this _ Nat.eq_of_beq_eq_true
def normE : Env → Env
  | [] => []
  | (t, d) :: l => (t, d.norm) :: normE l
theorem lk_normE : ∀ (e : Env) (s : Nat), lk (normE e) s = (lk e s).norm
  | [], s => rfl
  | (t, d) :: l, s => by
    have ih := lk_normE l s
    simp only [normE, lk_cons]
    cases t == s <;> simp [ih]
theorem Wk_norm {sz bs nx : Nat} {e : Env} {ob : Obs} : Wk sz bs ⟨[], e, ob, nx, []⟩ ⟨[], normE e, ob, nx, []⟩ := by
  intro fr hfr a w ρ hs
  refine ⟨ρ, ⟨hs.defers, hs.size, hs.rep, fun s => ?_, hs.fr⟩, EvoB.refl bs w ρ _⟩
  show RD w (Own ρ (ovl (obL ob) fr)) ρ (a.tmps.getD s undef) (lk (normE e) s)
  rw [lk_normE]
  exact (hs.env s : RD w (Own ρ (ovl (obL ob) fr)) ρ (a.tmps.getD s undef) (lk e s)).norm
theorem Wk_trim {sz bs nx : Nat} {e : Env} {ob : Obs} (id k : Nat) : Wk sz bs ⟨[], e, ob, nx, []⟩ ⟨[], e, trimO id k ob, nx, []⟩ := by
  intro fr hfr a w ρ hs
  have hdom : ∀ i, ovl (obL (trimO id k ob)) fr i = (ovl (obL ob) fr i).map (fun o => bif i == id && (obL ob i).isSome then o.cut k else o) := by
    intro i
    simp only [ovl, obL_trim]
    cases hi : obL ob i with
    | none => cases hf : fr i <;> simp
    | some o => simp
  have hown : (Own ρ (ovl (obL (trimO id k ob)) fr) : Nat → Prop) = Own ρ (ovl (obL ob) fr) := by
    funext b
    apply propext
    constructor
    · rintro ⟨i, o, ho, hr⟩
      rw [hdom] at ho
      cases hi : ovl (obL ob) fr i with
      | none => simp [hi] at ho
      | some o2 => exact ⟨i, o2, hi, hr⟩
    · rintro ⟨i, o, ho, hr⟩
      exact ⟨i, _, by rw [hdom, ho]; rfl, hr⟩
  have hrep := hs.rep
  refine ⟨ρ, ⟨hs.defers, hs.size, ⟨fun i j b hi hj hri hrj => ?_, fun i o ho => ?_, fun x hx => by rw [hown]; exact hrep.glob x hx⟩, fun s => ?_, hs.fr⟩, ?_⟩
  · exact hrep.inj i j b (fun hn => hi (by rw [hdom, show ovl (obL ob) fr i = none from hn]; rfl)) (fun hn => hj (by rw [hdom, show ovl (obL ob) fr j = none from hn]; rfl)) hri hrj
  · rw [hdom] at ho
    rw [hown]
    cases hi : ovl (obL ob) fr i with
    | none => simp [hi] at ho
    | some o2 =>
      simp only [hi, Option.map_some, Option.some.injEq] at ho
      obtain ⟨x, hx, hro⟩ := hrep.obj i o2 hi
      refine ⟨x, hx, ?_⟩
      have hc : ∃ n, o.cells = o2.cells.take n := by
        subst ho
        cases (i == id && (obL ob i).isSome) with
        | true => exact ⟨k, AObj.cut_cells o2 k⟩
        | false => exact ⟨o2.cells.length, by simp⟩
      obtain ⟨n, hn⟩ := hc
      rw [hn]
      cases x with
      | none => simp only [RO] at hro ⊢; simp [hro]
      | some b =>
        obtain ⟨c, e, hb, hl, hcc⟩ := hro
        refine ⟨c, e, hb, by rw [List.length_take]; omega, fun j d hj => hcc j d ?_⟩
        rw [List.getElem?_take] at hj
        split at hj
        · exact hj
        · cases hj
  · show RD w (Own ρ (ovl (obL (trimO id k ob)) fr)) ρ (a.tmps.getD s undef) (lk e s)
    rw [hown]
    exact hs.env s
  · show EvoB bs w ρ (ovl (obL ob) fr) w ρ (ovl (obL (trimO id k ob)) fr)
    have := EvoB.refl bs w ρ (ovl (obL ob) fr)
    exact ⟨this.os, this.tape, this.output, this.size, this.keep, this.bsz, fun b hb h => by rw [hown] at h; exact h, this.rho⟩
def getT0 {α : Type} (p : PV) (k : Option α) : Option α := match p with | .tup [] => k | _ => none
theorem getT0_some {α : Type} {p : PV} {k : Option α} {r : α} (h : getT0 p k = some r) : p = .tup [] ∧ k = some r := by
  unfold getT0 at h; split at h
  · exact ⟨rfl, h⟩
  · cases h
end Go.V
