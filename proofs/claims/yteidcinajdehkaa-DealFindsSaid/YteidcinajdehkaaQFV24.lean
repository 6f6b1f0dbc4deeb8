/-
  THE ENGINE, PART 24: what is not reached any more is forgotten, and names are packed.
-/
import Derived.Test.YteidcinajdehkaaQFV23
set_option linter.unusedSimpArgs false
set_option linter.unusedVariables false
namespace Go.V
def insB (acc : List Nat) (i : Nat) : List Nat := bif acc.contains i then acc else acc ++ [i]
mutual
def mentD (acc : List Nat) : D → List Nat
  | .dead => acc
  | .v _ => acc
  | .sl _ id _ _ _ => insB acc id
  | .slr id _ _ _ _ => insB acc id
  | .ptr id _ => insB acc id
  | .agg cs => mentL acc cs
  | .tup cs => mentL acc cs
  | .fn _ cs => mentL acc cs
def mentL (acc : List Nat) : List D → List Nat
  | [] => acc
  | d :: ds => mentL (mentD acc d) ds
end
def mentE (acc : List Nat) : Env → List Nat
  | [] => acc
  | (_, d) :: e => mentE (mentD acc d) e
def mentO (ob : Obs) (acc : List Nat) : List Nat → List Nat
  | [] => acc
  | i :: l => match obL ob i with
    | some (.r cs) => mentO ob (mentL acc cs) l
    | _ => mentO ob acc l
def reach (ob : Obs) : Nat → List Nat → List Nat
  | 0, acc => acc
  | n + 1, acc => match mentO ob acc acc with
    | acc' => bif acc'.length == acc.length then acc else reach ob n acc'
def ndB : List Nat → Bool
  | [] => true
  | a :: l => !l.contains a && ndB l
theorem ndB_idx : ∀ {l : List Nat} (i : Nat), ndB l = true → i < l.length → idx l (nth l i) = some i
  | [], _, _, h => by simp at h
  | a :: l, 0, _, _ => by simp [nth, idx]
  | a :: l, i + 1, hn, h => by
    simp only [ndB, Bool.and_eq_true, Bool.not_eq_true'] at hn
    have ih := ndB_idx i hn.2 (by simpa using h)
    have hm : nth l i ∈ l := by
      have := idx_nth ih
      clear ih hn h
      induction l generalizing i with
      | nil => simp at this
      | cons b l ihl =>
        cases i with
        | zero => simp [nth]
        | succ i => simp only [nth]; exact List.mem_cons_of_mem _ (ihl i ⟨rfl, by simpa using this.2⟩)
    have hne : (a == nth l i) = false := by
      cases h : a == nth l i with
      | false => rfl
      | true => have := beq_iff_eq.1 h; rw [← this] at hm; have h2 := hn.1; simp [hm] at h2
    simp only [nth, idx, hne, cond_false, ih]
def memB (sg : List Nat) (i : Nat) : Bool := sg.contains i
theorem memB_idx : ∀ {sg : List Nat} {j : Nat}, memB sg j = true → ∃ n, idx sg j = some n
  | [], _, h => by simp [memB] at h
  | a :: l, j, h => by
    simp only [idx]
    cases ha : a == j with
    | true => exact ⟨0, rfl⟩
    | false =>
      have : memB l j = true := by
        simp only [memB, List.contains_cons, Bool.or_eq_true, beq_iff_eq] at h
        rcases h with h | h
        · subst h; simp at ha
        · exact h
      obtain ⟨n, hn⟩ := memB_idx this
      exact ⟨n + 1, by rw [hn]; rfl⟩
theorem memB_inN {sg : List Nat} {j : Nat} (h : memB sg j = true) : nth sg (inN sg j) = j ∧ inN sg j < sg.length := by
  obtain ⟨n, hn⟩ := memB_idx h
  simp only [inN, hn]
  exact idx_nth hn
mutual
theorem gc_ren {sg : List Nat} : ∀ (d : D), idsD (memB sg) d = true → idsD (ltId sg.length) (ren allL (inN sg) d) = true ∧ ren allL (nth sg) (ren allL (inN sg) d) = d
  | .dead, _ => ⟨rfl, rfl⟩
  | .v _, _ => ⟨rfl, rfl⟩
  | .sl f id off len sz, h => by
    have := memB_inN (show memB sg id = true from h)
    simp [ren, allL, idsD, ltId, Nat.blt_eq, this.1, this.2]
  | .slr id off len room sz, h => by
    have := memB_inN (show memB sg id = true from h)
    simp [ren, allL, idsD, ltId, Nat.blt_eq, this.1, this.2]
  | .ptr id off, h => by
    have := memB_inN (show memB sg id = true from h)
    simp [ren, allL, idsD, ltId, Nat.blt_eq, this.1, this.2]
  | .agg cs, h => by have := gc_renL cs h; simp only [ren, idsD, this.1, this.2, and_self]
  | .tup cs, h => by have := gc_renL cs h; simp only [ren, idsD, this.1, this.2, and_self]
  | .fn f cs, h => by have := gc_renL cs h; simp only [ren, idsD, this.1, this.2, and_self]
theorem gc_renL {sg : List Nat} : ∀ (l : List D), idsL (memB sg) l = true → idsL (ltId sg.length) (renL allL (inN sg) l) = true ∧ renL allL (nth sg) (renL allL (inN sg) l) = l
  | [], _ => ⟨rfl, rfl⟩
  | d :: l, h => by
    simp only [idsL, Bool.and_eq_true] at h
    have h1 := gc_ren d h.1
    have h2 := gc_renL l h.2
    simp [renL, idsL, h1.1, h1.2, h2.1, h2.2]
end
def gcD (sg : List Nat) (d : D) : D := bif idsD (memB sg) d then ren allL (inN sg) d else .dead
def gcE (sg : List Nat) : Env → Env
  | [] => []
  | (s, d) :: e => (s, gcD sg d) :: gcE sg e
def gcO (sg : List Nat) : AObj → Option AObj
  | .p cs => some (.p cs)
  | .r cs => bif idsL (memB sg) cs then some (.r (renL allL (inN sg) cs)) else none
def gcObs (sg : List Nat) (ob : Obs) : List Nat → Nat → Obs
  | [], _ => []
  | j :: l, i => match obL ob j with
    | some o => (match gcO sg o with | some o' => (i, o') :: gcObs sg ob l (i + 1) | none => gcObs sg ob l (i + 1))
    | none => gcObs sg ob l (i + 1)
theorem lk_gcE (sg : List Nat) (t : Nat) : ∀ (e : Env), lk (gcE sg e) t = gcD sg (lk e t)
  | [] => rfl
  | (s, d) :: e => by
    simp only [gcE, lk]
    cases s == t <;> simp [lk_gcE sg t e]
theorem gcObs_spec {sg : List Nat} {ob : Obs} {i : Nat} {o' : AObj} : ∀ (l : List Nat) (i0 : Nat), obL (gcObs sg ob l i0) i = some o' → ∃ m, i = i0 + m ∧ m < l.length ∧ ∃ o, obL ob (nth l m) = some o ∧ gcO sg o = some o'
  | [], _, h => by simp [gcObs, obL] at h
  | j :: l, i0, h => by
    have rec' : obL (gcObs sg ob l (i0 + 1)) i = some o' → ∃ m, i = i0 + m ∧ m < (j :: l).length ∧ ∃ o, obL ob (nth (j :: l) m) = some o ∧ gcO sg o = some o' := fun h => by
      obtain ⟨m, h1, h2, h3⟩ := gcObs_spec l (i0 + 1) h
      exact ⟨m + 1, by omega, by simp; omega, by simpa [nth] using h3⟩
    simp only [gcObs] at h
    split at h
    · rename_i o ho
      split at h
      · rename_i o2 ho2
        simp only [obL] at h
        cases hi : i0 == i with
        | true =>
          simp only [hi, cond_true, Option.some.injEq] at h
          subst h
          exact ⟨0, (beq_iff_eq.1 hi).symm, by simp, o, by simpa [nth] using ho, ho2⟩
        | false =>
          simp only [hi, cond_false] at h
          exact rec' h
      · exact rec' h
    · exact rec' h
def cmpOk (bs : Nat) (sg : List Nat) (ob : Obs) : Bool :=
  ndB sg && ((List.range bs).all fun i => nth sg i == i) && Nat.ble bs sg.length && Nat.ble sg.length 1000000000 && (sg.all fun i => Nat.blt i 1000000000) && ((keysOf ob).all fun i => Nat.blt i 1000000000)
def cmpS (bs : Nat) (st : St) : Option St :=
  match st with
  | ⟨[], e, ob, _, []⟩ => (match reach ob 20 (mentE (List.range bs) e) with
    | sg => bif cmpOk bs sg ob then some ⟨[], gcE sg e, gcObs sg ob sg 0, sg.length, []⟩ else none)
  | _ => none
theorem nth_mem : ∀ {l : List Nat} {i : Nat}, i < l.length → nth l i ∈ l
  | [], _, h => by simp at h
  | a :: l, 0, _ => by simp [nth]
  | a :: l, i + 1, h => by simp only [nth]; exact List.mem_cons_of_mem _ (nth_mem (by simpa using h))
theorem cmpS_ok {sz bs : Nat} {st st' : St} (h : cmpS bs st = some st') : Wk sz bs st st' := by
  unfold cmpS at h
  split at h
  · rename_i e ob nx
    simp only at h
    generalize hsg : reach ob 20 (mentE (List.range bs) e) = sg at h
    cases hc : cmpOk bs sg ob with
    | false => simp [hc] at h
    | true =>
      simp only [hc, cond_true, Option.some.injEq] at h
      subst h
      simp only [cmpOk, Bool.and_eq_true] at hc
      obtain ⟨⟨⟨⟨⟨h1, h2⟩, h3⟩, h4⟩, h5⟩, h6⟩ := hc
      have hO : ∀ i o, obL (gcObs sg ob sg 0) i = some o → i < sg.length ∧ ∃ y, obL ob (nth sg i) = some y ∧ gcO sg y = some o := fun i o ho => by
        obtain ⟨m, e1, e2, e3⟩ := gcObs_spec sg 0 ho
        have : i = m := by omega
        subst this; exact ⟨e2, e3⟩
      refine Wk_ren (nth sg) (fun i hi => ?_) (by simpa [Nat.ble_eq] using h3) (by simpa [Nat.ble_eq] using h4) (fun t => ?_) (fun i o ho => ?_) (fun i j o o' ho ho' he => ?_) (fun i o ho => ?_) (fun i o ho => ?_)
      · have := List.all_eq_true.1 h2 i (List.mem_range.2 hi)
        simpa using this
      · show lk (gcE sg e) t = .dead ∨ (idsD (ltId sg.length) (lk (gcE sg e) t) = true ∧ lk e t = ren allL (nth sg) (lk (gcE sg e) t))
        rw [lk_gcE]
        unfold gcD
        cases hh : idsD (memB sg) (lk e t) with
        | false => exact .inl rfl
        | true =>
          have := gc_ren _ hh
          exact .inr ⟨this.1, this.2.symm⟩
      · obtain ⟨e2, y, hy, hg⟩ := hO i o ho
        refine ⟨e2, ?_⟩
        cases y with
        | p cs =>
          simp only [gcO, Option.some.injEq] at hg
          subst hg
          refine ⟨fun d hd => ?_, hy⟩
          obtain ⟨p, _, rfl⟩ := List.mem_map.1 hd
          rfl
        | r cs =>
          simp only [gcO] at hg
          cases hh : idsL (memB sg) cs with
          | false => simp [hh] at hg
          | true =>
            simp only [hh, cond_true, Option.some.injEq] at hg
            subst hg
            have := gc_renL cs hh
            refine ⟨fun d hd => ?_, ?_⟩
            · have hall : ∀ (l : List D), idsL (ltId sg.length) l = true → ∀ d ∈ l, idsD (ltId sg.length) d = true := by
                intro l
                induction l with
                | nil => simp
                | cons a l ih =>
                  intro hl d hd
                  simp only [idsL, Bool.and_eq_true] at hl
                  rcases List.mem_cons.1 hd with rfl | hd
                  · exact hl.1
                  · exact ih hl.2 d hd
              exact hall _ this.1 d hd
            · rw [hy]; simp only [renO, ← renL_map, this.2]
      · have a1 := (hO i o ho).1
        have a2 := (hO j o' ho').1
        have b1 := ndB_idx i h1 a1
        have b2 := ndB_idx j h1 a2
        rw [he, b2] at b1
        simpa using b1.symm
      · have := List.all_eq_true.1 h5 _ (nth_mem (hO i o ho).1)
        simpa [Nat.blt_eq] using this
      · have hm := keysOf_obL (l := ob) (i := i) (by show obL ob i ≠ none; rw [show obL ob i = some o from ho]; simp)
        have := List.all_eq_true.1 h6 _ hm
        simpa [Nat.blt_eq] using this
  · cases h
end Go.V
