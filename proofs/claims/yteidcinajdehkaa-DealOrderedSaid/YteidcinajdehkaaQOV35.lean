/-
  Values of interfaces that may be nil, taken apart by cases.
-/
import Derived.Test.YteidcinajdehkaaQOV34
set_option linter.unusedSimpArgs false
set_option linter.unusedVariables false
namespace Go.V
attribute [go_sem] Bool.false_and Bool.and_false bndF bcapP bcapD capsOf ordA indexR makeIfaceR typeAssertR ifaceOf zeroD tup2 TK.isI gd List.isEmpty_nil
theorem Wk_ownC {sz bs nx : Nat} {e : Env} {ob : Obs} (k j es : Nat) {o : AObj} (hk : obL ob k = some o) (hj : o.cells[j]? = some (.v .nl)) (hb : bs ≤ nx) (hn : nx < 1000000000) :
    Wk sz bs ⟨[], e, ob, nx, []⟩ ⟨[], e, (nx, .p []) :: setO ob k (.r (o.cells.set j (.sl false nx 0 0 es))), nx + 1, []⟩ := by
  intro fr hfr a w ρ h
  have hnx : ρ nx = none := h.fr nx (Nat.le_refl _) (fun hx => by rcases hx with hx | hx; · cases hx
                                                                  · omega)
  let ρ' : Rho := fun i => if i = nx then some none else ρ i
  have hold : ovl (obL ob) fr nx = none := h.rep.none_of hnx
  have hok : ovl (obL ob) fr k = some o := by simp [ovl, hk]
  have hkn : k ≠ nx := fun e => by subst e; rw [hok] at hold; cases hold
  let ob2 : Obs := (nx, .p []) :: setO ob k (.r (o.cells.set j (.sl false nx 0 0 es)))
  have hov : ∀ i, ovl (obL ob2) fr i = if i = nx then some (.p []) else if i = k then some (.r (o.cells.set j (.sl false nx 0 0 es))) else ovl (obL ob) fr i := by
    intro i
    by_cases hi : i = nx
    · subst hi; simp [ob2, ovl, obL]
    · have h1 : (nx == i) = false := by simpa using fun e => hi e.symm
      by_cases hik : i = k
      · subst hik; simp [ob2, ovl, obL, h1, hi, obL_setO]
      · simp [ob2, ovl, obL, h1, hi, obL_setO, hik]
  have hown : (Own ρ' (ovl (obL ob2) fr) : Nat → Prop) = Own ρ (ovl (obL ob) fr) := by
    funext b
    apply propext
    constructor
    · rintro ⟨i, o', h1, h2⟩
      by_cases hi : i = nx
      · subst hi; simp [ρ'] at h2
      · simp only [ρ', hi, if_false] at h2
        rw [hov, if_neg hi] at h1
        by_cases hik : i = k
        · subst hik; exact ⟨i, o, hok, h2⟩
        · rw [if_neg hik] at h1; exact ⟨i, o', h1, h2⟩
    · rintro ⟨i, o', h1, h2⟩
      have hi : i ≠ nx := fun e => by subst e; rw [hnx] at h2; cases h2
      have h3 : ρ' i = some (some b) := by simp only [ρ', hi, if_false]; exact h2
      by_cases hik : i = k
      · exact ⟨i, _, by rw [hov, if_neg hi, if_pos hik], h3⟩
      · exact ⟨i, o', by rw [hov, if_neg hi, if_neg hik]; exact h1, h3⟩
  have hrho : ∀ i x, ρ i = some x → ρ' i = some x := by
    intro i x hx
    have hi : i ≠ nx := fun e => by subst e; rw [hnx] at hx; cases hx
    simp only [ρ', hi, if_false]; exact hx
  refine ⟨ρ', ⟨h.defers, h.size, ⟨fun i j b hi hj hri hrj => ?_, fun i o' ho => ?_, fun x hx => by
      have := h.rep.glob x hx
      show RC w (Own ρ' (ovl (obL ob2) fr)) x.1 0 x.2
      rw [hown]; exact this⟩, fun t => ?_, fun i hi hn2 => ?_⟩, ⟨rfl, rfl, rfl, Nat.le_refl _, fun _ _ _ => rfl, fun _ _ => rfl, fun b _ hb2 => by
      have : Own ρ' (ovl (obL ob2) fr) b := hb2
      rw [hown] at this; exact this, fun i x _ hx => hrho i x hx⟩⟩
  · have key : ∀ i, ρ' i = some (some b) → i ≠ nx ∧ ρ i = some (some b) := by
      intro i hi
      by_cases e : i = nx
      · subst e; simp [ρ'] at hi
      · exact ⟨e, by simpa [ρ', e] using hi⟩
    obtain ⟨a1, a2⟩ := key i hri
    obtain ⟨b1, b2⟩ := key j hrj
    have key2 : ∀ i, i ≠ nx → ovl (obL ob2) fr i ≠ none → ovl (obL ob) fr i ≠ none := by
      intro i hi hne
      rw [hov, if_neg hi] at hne
      by_cases hik : i = k
      · subst hik; rw [hok]; simp
      · rw [if_neg hik] at hne; exact hne
    exact h.rep.inj i j b (key2 i a1 hi) (key2 j b1 hj) a2 b2
  · have ho' : ovl (obL ob2) fr i = some o' := ho
    rw [hov] at ho'
    by_cases hi : i = nx
    · subst hi
      simp only [if_true, Option.some.injEq] at ho'
      subst ho'
      exact ⟨none, by simp [ρ'], rfl⟩
    · rw [if_neg hi] at ho'
      by_cases hik : i = k
      · subst hik
        simp only [if_true, Option.some.injEq] at ho'
        subst ho'
        obtain ⟨x, hx, hro⟩ := h.rep.obj i o hok
        refine ⟨x, hrho i x hx, ?_⟩
        rw [show (Own ρ' (ovl (obL (St.ob ⟨[], e, ob2, nx + 1, []⟩)) fr) : Nat → Prop) = Own ρ (ovl (obL ob) fr) from hown]
        cases x with
        | none =>
          have hro' : o.cells = [] := hro
          rw [hro'] at hj; cases hj
        | some b =>
          obtain ⟨c, t, hb2, hl, hc⟩ := hro
          refine ⟨c, t, hb2, by simpa [AObj.cells] using hl, fun j' d hj' => ?_⟩
          have hj' : (o.cells.set j (.sl false nx 0 0 es))[j']? = some d := hj'
          rw [List.getElem?_set] at hj'
          by_cases hjj : j = j'
          · subst hjj
            have hlt : j < o.cells.length := (List.getElem?_eq_some_iff.1 hj).1
            rw [if_pos rfl, if_pos hlt, Option.some.injEq] at hj'
            subst hj'
            obtain ⟨u, u1, u2, u3⟩ := hc j _ hj
            refine ⟨u, u1, u2, ?_⟩
            cases u3 with
            | v _ _ hp => cases hp; exact .slN false nx 0 es (by simp [ρ'])
          · rw [if_neg hjj] at hj'
            obtain ⟨u, u1, u2, u3⟩ := hc j' d hj'
            exact ⟨u, u1, u2, u3.mono (fun _ _ _ => rfl) (fun _ _ h => h) (fun _ _ => rfl) hrho⟩
      · rw [if_neg hik] at ho'
        obtain ⟨x, hx, hro⟩ := h.rep.obj i o' ho'
        refine ⟨x, hrho i x hx, ?_⟩
        rw [show (Own ρ' (ovl (obL (St.ob ⟨[], e, ob2, nx + 1, []⟩)) fr) : Nat → Prop) = Own ρ (ovl (obL ob) fr) from hown]
        cases x with
        | none => exact hro
        | some b =>
          obtain ⟨c, t, hb2, hl, hc⟩ := hro
          exact ⟨c, t, hb2, hl, fun j d hj => let ⟨u, u1, u2, u3⟩ := hc j d hj; ⟨u, u1, u2, u3.mono (fun _ _ _ => rfl) (fun _ _ h => h) (fun _ _ => rfl) hrho⟩⟩
  · have h0 : RD w (Own ρ (ovl (obL ob) fr)) ρ (a.tmps.getD t undef) (lk e t) := h.env t
    show RD w (Own ρ' (ovl (obL ob2) fr)) ρ' (a.tmps.getD t undef) (lk e t)
    rw [hown]
    exact h0.mono (fun _ _ _ => rfl) (fun _ _ h => h) (fun _ _ => rfl) hrho
  · have hi' : nx + 1 ≤ i := hi
    have : i ≠ nx := by omega
    simp only [ρ', this, if_false]
    exact h.fr i (by show nx ≤ i; omega) (fun hx => hn2 (hx.elim (fun h => nomatch h) .inr))
end Go.V
