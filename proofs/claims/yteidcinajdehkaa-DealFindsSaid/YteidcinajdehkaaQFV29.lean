/-
  THE ENGINE, PART 29: a call of a function of pure data that is given objects: they are pure data from then on.
-/
import Derived.Test.YteidcinajdehkaaQFV28
set_option linter.unusedSimpArgs false
set_option linter.unusedVariables false
namespace Go.V
def fzs : List (Nat × List PV) → D → D
  | [], d => d
  | (i, cs) :: l, d => fzs l (fzD i cs d)
def roF : List (Nat × List PV) → List (Nat × AObj)
  | [] => []
  | (i, cs) :: l => (i, .p cs) :: roF l
def wrF : List (Nat × List PV) → List (Nat × Option AObj)
  | [] => []
  | (i, _) :: l => wrF l ++ [(i, none)]
def keysF : List (Nat × List PV) → List Nat
  | [] => []
  | (i, _) :: l => i :: keysF l
def ndF : List (Nat × List PV) → Bool
  | [] => true
  | (i, _) :: l => !(keysF l).contains i && ndF l
section
end
theorem lk_setvS {e : Env} {s : Nat} {d : D} (h : lk e s ≠ .dead) (t : Nat) : lk (setv e s d) t = if t = s then d else lk e t := by
  induction e with
  | nil => exact absurd rfl h
  | cons x e ih =>
    obtain ⟨a, y⟩ := x
    simp only [setv, lk] at h ⊢
    cases ha : a == s with
    | true =>
      have := beq_iff_eq.1 ha; subst this
      simp only [cond_true, lk]
      by_cases ht : t = a
      · subst ht; simp
      · have : (a == t) = false := by simpa using fun e => ht e.symm
        simp [this, ht]
    | false =>
      simp only [ha, cond_false] at h
      simp only [cond_false, lk, ih h]
      cases hat : a == t with
      | true =>
        have := beq_iff_eq.1 hat; subst this
        have : ¬ a = s := by simpa using ha
        simp [this]
      | false => simp
theorem Wk_ownS {sz bs nx : Nat} {e : Env} {ob : Obs} (s es : Nat) (hs : lk e s = .v .nl) (hb : bs ≤ nx) (hn : nx < 1000000000) :
    Wk sz bs ⟨[], e, ob, nx, []⟩ ⟨[], setv e s (.sl false nx 0 0 es), (nx, .p []) :: ob, nx + 1, []⟩ :=
  Wk_own s es hs (fun t => lk_setvS (by rw [hs]; simp) t) hb hn
theorem take_len {α : Type} {l : List α} {n : Nat} (h : l.length = n) : l.take n = l := by subst h; exact List.take_length
theorem cut_len {l : List PV} {n : Nat} (h : l.length = n) : (AObj.p l).cut n = .p l := by
  simp only [AObj.cut]
  rw [h]
  have : Nat.beq n n = true := by simp
  simp [this]
attribute [go_sem] List.size_toArray take_len cut_len eq_self List.length_map List.length_append List.length_set List.length_replicate List.set_cons_zero List.set_cons_succ List.take_succ_cons List.take_zero List.take_nil List.drop_succ_cons List.drop_nil List.replicate_succ List.replicate_zero Nat.le_refl Int.sub_zero true_implies false_implies implies_true Bool.false_eq_true fz_mk fzEnv fzD fzObs fzO fzL aggOf tupOf fnOf mkF mkO objOf fzs keysF wrF roF ndF Bool.true_or Bool.or_true ne_eq
end Go.V
