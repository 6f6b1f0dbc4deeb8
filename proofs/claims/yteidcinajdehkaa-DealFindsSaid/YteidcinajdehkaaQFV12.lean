/-
  THE ENGINE, PART 12: regions, whole.
-/
import Derived.Test.YteidcinajdehkaaQFV11
set_option linter.unusedSimpArgs false
set_option linter.unusedVariables false
namespace Go.V
def backB (ops : Array Oper) : Bool := (List.range ops.size).all fun j => ((ops[j]?).map fun o => o.after.all fun e => !Region.binds .any e || decide (e.on < j)).getD true
def unl (ops : Array Oper) (listed : Array Bool) : List Nat := (List.range ops.size).filter fun i => !listed.getD i true
section
variable {P : Program} {sz : Nat} {ops : Array Oper} {Q : Exit → Act → World → Prop} {rows : List Row} {env0 : Nat → D} {ob0 : Ob} {nx : Nat} {ex : Nat → Prop} {w0 : World} {ρ0 : Rho}
theorem ready_nil {listed : Array Bool} (hb : backB ops = true) (hs : listed.size = ops.size) (hr : Region.ready .any ops listed = []) : ∀ i, i < ops.size → listed.getD i false = true := by
  intro i
  induction i using Nat.strongRecOn with
  | _ i ih =>
    intro hi
    cases hl : listed.getD i false with
    | true => rfl
    | false =>
      exfalso
      have hm : i ∈ Region.ready .any ops listed := by
        unfold Region.ready
        refine List.mem_filter.2 ⟨List.mem_range.2 hi, ?_⟩
        have h1 : listed.getD i true = false := by
          simp only [Array.getD_eq_getD_getElem?, Array.getElem?_eq_getElem (show i < listed.size by omega), Option.getD_some] at hl ⊢
          exact hl
        have h2 : ops[i]? = some ops[i] := Array.getElem?_eq_getElem hi
        simp only [h1, Bool.not_false, Bool.true_and, h2, Option.map_some, Option.getD_some]
        unfold backB at hb
        have h3 := List.all_eq_true.1 hb i (List.mem_range.2 hi)
        simp only [h2, Option.map_some, Option.getD_some] at h3
        rw [Array.all_eq_true] at h3 ⊢
        intro k hk
        have := h3 k hk
        simp only [Bool.or_eq_true, Bool.not_eq_true', decide_eq_true_eq] at this ⊢
        rcases this with h | h
        · exact .inl h
        · exact .inr (ih _ h (by omega))
      rw [hr] at hm; cases hm
theorem drawn_any (hrow : ∀ (i : Nat) o r, ops[i]? = some o → rows[i]? = some r → RowOk P sz ops o r)
    (htext : ∀ (i : Nat) r, rows[i]? = some r → (∀ x ∈ r.rs, envF (fun j => decide (j < i)) 0 rows env0 x.1 = x.2) ∧ (∀ x ∈ r.ro, obF (fun j => decide (j < i)) 0 rows ob0 x.1 = some x.2) ∧ ∀ q ∈ r.al, nx ≤ q ∧ ¬ ex q)
    (hconf : ∀ (i j : Nat) ri rj, rows[i]? = some ri → rows[j]? = some rj → i < j → edgeT ops 6 j i = true ∨ Apart ri rj)
    (hal : ∀ (i j : Nat) ri rj, rows[i]? = some ri → rows[j]? = some rj → i ≠ j → ∀ q ∈ ri.al, q ∉ rj.al)
    (hlen : rows.length = ops.size) (hb : backB ops = true)
    (hQ : ∀ a w ρ, Sat sz a w ρ (envF (fun _ => true) 0 rows env0) (obF (fun _ => true) 0 rows ob0) nx (fun q => ex q ∨ ∃ r ∈ rows, q ∈ r.al) → Evo w0 ρ0 ob0 w ρ (obF (fun _ => true) 0 rows ob0) → Q .normal a w) :
    ∀ (fuel : Nat) (listed : Array Bool) (a : Act) (w : World) (ρ : Rho), listed.size = ops.size → (unl ops listed).length ≤ fuel → Inv sz ops rows env0 ob0 nx ex w0 ρ0 (fun j => listed.getD j false) a w ρ → wpAny P .any ops Q fuel listed a w := by
  have done : ∀ (listed : Array Bool) a w ρ, (∀ i, i < ops.size → listed.getD i false = true) → Inv sz ops rows env0 ob0 nx ex w0 ρ0 (fun j => listed.getD j false) a w ρ → Q .normal a w := by
    intro listed a w ρ hall h
    have e1 : envF (fun j => listed.getD j false) 0 rows env0 = envF (fun _ => true) 0 rows env0 := by
      funext s
      refine envF_agree _ _ _ _ _ _ _ rfl fun j q hq hne => ?_
      have hj : j < ops.size := by rw [← hlen]; exact (List.getElem?_eq_some_iff.1 hq).1
      simp only [Nat.zero_add, hall j hj] at hne
      exact absurd rfl hne
    have e2 : obF (fun j => listed.getD j false) 0 rows ob0 = obF (fun _ => true) 0 rows ob0 := by
      funext s
      refine obF_agree _ _ _ _ _ _ _ rfl fun j q hq hne => ?_
      have hj : j < ops.size := by rw [← hlen]; exact (List.getElem?_eq_some_iff.1 hq).1
      simp only [Nat.zero_add, hall j hj] at hne
      exact absurd rfl hne
    obtain ⟨hs, he, _⟩ := h
    rw [e1, e2] at hs
    rw [e2] at he
    refine hQ a w ρ ⟨hs.defers, hs.size, hs.rep, hs.env, fun q hq hn => hs.fr q hq ?_⟩ he
    rintro (h1 | ⟨j, r, _, hr, hqr⟩)
    · exact hn (.inl h1)
    · exact hn (.inr ⟨r, List.mem_of_getElem? hr, hqr⟩)
  intro fuel
  induction fuel with
  | zero =>
    intro listed a w ρ hs hu h
    have hnil : unl ops listed = [] := List.eq_nil_of_length_eq_zero (by omega)
    have hall : ∀ i, i < ops.size → listed.getD i false = true := by
      intro i hi
      have : i ∉ unl ops listed := by rw [hnil]; simp
      unfold unl at this
      simp only [List.mem_filter, List.mem_range, hi, true_and, Bool.not_eq_true, Bool.not_eq_false'] at this
      simp only [Array.getD_eq_getD_getElem?, Array.getElem?_eq_getElem (show i < listed.size by omega), Option.getD_some] at this ⊢
      exact this
    refine ⟨?_, done listed a w ρ hall h⟩
    cases hr : Region.ready .any ops listed with
    | nil => rfl
    | cons i l =>
      have hm : i ∈ Region.ready .any ops listed := by rw [hr]; simp
      unfold Region.ready at hm
      simp only [List.mem_filter, List.mem_range, Bool.and_eq_true, Bool.not_eq_true'] at hm
      have := hall i hm.1
      have h2 := hm.2.1
      simp only [Array.getD_eq_getD_getElem?, Array.getElem?_eq_getElem (show i < listed.size by omega), Option.getD_some] at this h2
      rw [this] at h2; cases h2
  | succ fuel ih =>
    intro listed a w ρ hs hu h
    refine ⟨fun hr => done listed a w ρ (ready_nil hb hs hr) h, fun i hi => ?_⟩
    have hm := hi
    unfold Region.ready at hm
    simp only [List.mem_filter, List.mem_range, Bool.and_eq_true, Bool.not_eq_true'] at hm
    obtain ⟨hlt, h1, h2⟩ := hm
    have ho : ops[i]? = some ops[i] := Array.getElem?_eq_getElem hlt
    have hr : rows[i]? = some rows[i] := List.getElem?_eq_getElem (by omega)
    have hx : listed.getD i false = false := by
      simp only [Array.getD_eq_getD_getElem?, Array.getElem?_eq_getElem (show i < listed.size by omega), Option.getD_some] at h1 ⊢
      exact h1
    refine inv_step hrow htext hconf hal h ho hr hx (fun k hk => ?_) (fun a' w' ρ' h' => ?_)
    · unfold edge at hk
      simp only [ho, Option.map_some, Option.getD_some] at hk h2
      obtain ⟨q, hq, hqe⟩ := Array.any_eq_true.1 hk
      have := (Array.all_eq_true.1 h2) q hq
      simp only [Bool.and_eq_true, beq_iff_eq] at hqe
      simp only [Bool.or_eq_true, Bool.not_eq_true'] at this
      rcases this with h | h
      · rw [hqe.1] at h; cases h
      · rw [← hqe.2]; exact h
    · have hset : ∀ j, (listed.setIfInBounds i true).getD j false = (listed.getD j false || j == i) := by
        intro j
        simp only [Array.getD_eq_getD_getElem?, Array.getElem?_setIfInBounds]
        by_cases hij : i = j
        · subst hij; simp [show i < listed.size by omega]
        · have : (j == i) = false := by simpa using fun e => hij e.symm
          simp [hij, this]
      refine ih _ a' w' ρ' (by simpa using hs) ?_ (by
        have e : (fun j => (listed.setIfInBounds i true).getD j false) = (fun j => listed.getD j false || j == i) := funext hset
        rw [e]; exact h')
      have hsub : (unl ops (listed.setIfInBounds i true)).length < (unl ops listed).length := by
        have hle : ∀ (l : List Nat), (l.filter fun j => !(listed.setIfInBounds i true).getD j true).length ≤ (l.filter fun j => !listed.getD j true).length ∧ (i ∈ l → (l.filter fun j => !(listed.setIfInBounds i true).getD j true).length < (l.filter fun j => !listed.getD j true).length) := by
          intro l
          induction l with
          | nil => simp
          | cons j l ihl =>
            have hj : (listed.setIfInBounds i true).getD j true = (listed.getD j true || j == i) := by
              simp only [Array.getD_eq_getD_getElem?, Array.getElem?_setIfInBounds]
              by_cases hij : i = j
              · subst hij; simp [show i < listed.size by omega]
              · have : (j == i) = false := by simpa using fun e => hij e.symm
                simp [hij, this]
            simp only [List.filter_cons, hj]
            by_cases hji : j = i
            · subst hji
              simp only [beq_self_eq_true, Bool.or_true, Bool.not_true, h1, Bool.not_false, if_true]
              simp only [Bool.false_eq_true, if_false, List.length_cons]
              exact ⟨by omega, fun _ => by omega⟩
            · have e : (j == i) = false := by simpa using hji
              simp only [e, Bool.or_false]
              have hmem : i ∈ j :: l → i ∈ l := fun h => (List.mem_cons.1 h).resolve_left (fun e => hji e.symm)
              split
              · simp only [List.length_cons]; exact ⟨by omega, fun h => by have := ihl.2 (hmem h); omega⟩
              · exact ⟨ihl.1, fun h => ihl.2 (hmem h)⟩
        exact (hle _).2 (List.mem_range.2 hlt)
      omega
end
end Go.V
