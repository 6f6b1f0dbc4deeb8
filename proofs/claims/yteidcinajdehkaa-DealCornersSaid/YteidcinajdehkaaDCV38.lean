/-
  THE ENGINE, PART 38: objects that are handed over are given new names, so that they may be lost, or be grown.
-/
import Derived.Test.YteidcinajdehkaaDCV37
set_option linter.unusedSimpArgs false
set_option linter.unusedVariables false
namespace Go.V
mutual
theorem gcs_ren {sg : List Nat} {mb : Nat → Bool} {s : Nat → Nat} (hm : ∀ j, mb j = true → s (inN sg j) = j ∧ inN sg j < sg.length) : ∀ (d : D), idsD mb d = true → idsD (ltId sg.length) (ren allL (inN sg) d) = true ∧ ren allL s (ren allL (inN sg) d) = d
  | .dead, _ => ⟨rfl, rfl⟩
  | .v _, _ => ⟨rfl, rfl⟩
  | .sl f id off len sz, h => by
    have := hm id (show mb id = true from h)
    simp [ren, allL, idsD, ltId, Nat.blt_eq, this.1, this.2]
  | .slr id off len room sz, h => by
    have := hm id (show mb id = true from h)
    simp [ren, allL, idsD, ltId, Nat.blt_eq, this.1, this.2]
  | .ptr id off, h => by
    have := hm id (show mb id = true from h)
    simp [ren, allL, idsD, ltId, Nat.blt_eq, this.1, this.2]
  | .agg cs, h => by have := gcs_renL hm cs h; simp only [ren, idsD, this.1, this.2, and_self]
  | .tup cs, h => by have := gcs_renL hm cs h; simp only [ren, idsD, this.1, this.2, and_self]
  | .fn f cs, h => by have := gcs_renL hm cs h; simp only [ren, idsD, this.1, this.2, and_self]
theorem gcs_renL {sg : List Nat} {mb : Nat → Bool} {s : Nat → Nat} (hm : ∀ j, mb j = true → s (inN sg j) = j ∧ inN sg j < sg.length) : ∀ (l : List D), idsL mb l = true → idsL (ltId sg.length) (renL allL (inN sg) l) = true ∧ renL allL s (renL allL (inN sg) l) = l
  | [], _ => ⟨rfl, rfl⟩
  | d :: l, h => by
    simp only [idsL, Bool.and_eq_true] at h
    have h1 := gcs_ren hm d h.1
    have h2 := gcs_renL hm l h.2
    simp [renL, idsL, h1.1, h1.2, h2.1, h2.2]
end
def memR (sg : List Nat) (j : Nat) : Bool := memB sg j && Nat.blt j 1000000000
def gtD (sg : List Nat) (d : D) : D := bif idsD (memR sg) d then ren allL (inN sg) d else .dead
def gtE (sg : List Nat) : Env → Env
  | [] => []
  | (s, d) :: e => (s, gtD sg d) :: gtE sg e
def gtO (sg : List Nat) : AObj → Option AObj
  | .p cs => some (.p cs)
  | .r cs => bif idsL (memR sg) cs then some (.r (renL allL (inN sg) cs)) else none
def gtObs (sg : List Nat) (ob : Obs) : List Nat → Nat → Obs
  | [], _ => []
  | j :: l, i => match obL ob j with
    | some o => (match gtO sg o with | some o' => (i, o') :: gtObs sg ob l (i + 1) | none => gtObs sg ob l (i + 1))
    | none => gtObs sg ob l (i + 1)
theorem lk_gtE (sg : List Nat) (t : Nat) : ∀ (e : Env), lk (gtE sg e) t = gtD sg (lk e t)
  | [] => rfl
  | (s, d) :: e => by
    simp only [gtE, lk]
    cases s == t <;> simp [lk_gtE sg t e]
theorem gtObs_spec {sg : List Nat} {ob : Obs} {i : Nat} {o' : AObj} : ∀ (l : List Nat) (i0 : Nat), obL (gtObs sg ob l i0) i = some o' → ∃ m, i = i0 + m ∧ m < l.length ∧ ∃ o, obL ob (nth l m) = some o ∧ gtO sg o = some o'
  | [], _, h => by simp [gtObs, obL] at h
  | j :: l, i0, h => by
    have rec' : obL (gtObs sg ob l (i0 + 1)) i = some o' → ∃ m, i = i0 + m ∧ m < (j :: l).length ∧ ∃ o, obL ob (nth (j :: l) m) = some o ∧ gtO sg o = some o' := fun h => by
      obtain ⟨m, h1, h2, h3⟩ := gtObs_spec l (i0 + 1) h
      exact ⟨m + 1, by omega, by simp; omega, by simpa [nth] using h3⟩
    simp only [gtObs] at h
    split at h
    · rename_i o ho
      split at h
      · rename_i o2 ho2
        simp only [obL] at h
        cases hi : i0 == i with
        | true =>
          simp only [hi, cond_true, Option.some.injEq] at h
          subst h
          exact ⟨0, (beq_iff_eq.1 hi).symm, by simp, o, by simpa [nth] using ho, ho2⟩
        | false =>
          simp only [hi, cond_false] at h
          exact rec' h
      · exact rec' h
    · exact rec' h
def tOk (bs : Nat) (sg : List Nat) (ob : Obs) : Bool :=
  ndB sg && ((List.range bs).all fun i => nth sg i == i || Nat.ble 1000000000 (nth sg i)) && Nat.ble bs sg.length && Nat.ble sg.length 1000000000 && ((List.range sg.length).all fun i => Nat.blt i bs || Nat.blt (nth sg i) 1000000000) && ((keysOf ob).all fun i => Nat.blt i 1000000000)
def cmpT (bs : Nat) (sg : List Nat) (st : St) : Option St :=
  match st with
  | ⟨[], e, ob, _, []⟩ => bif tOk bs sg ob then some ⟨[], gtE sg e, gtObs sg ob sg 0, sg.length, []⟩ else none
  | _ => none
theorem cmpT_ok {sz bs : Nat} {st st' : St} (sg : List Nat) (h : cmpT bs sg st = some st') : Wk sz bs st st' := by
  unfold cmpT at h
  split at h
  · rename_i e ob nx
    cases hc : tOk bs sg ob with
    | false => simp [hc] at h
    | true =>
      simp only [hc, cond_true, Option.some.injEq] at h
      subst h
      simp only [tOk, Bool.and_eq_true] at hc
      obtain ⟨⟨⟨⟨⟨h1, h2⟩, h3⟩, h4⟩, h5⟩, h6⟩ := hc
      have hkey : ∀ i o, obL ob i = some o → i < 1000000000 := fun i o ho => by
        have hm := keysOf_obL (l := ob) (i := i) (by show obL ob i ≠ none; rw [ho]; simp)
        have := List.all_eq_true.1 h6 _ hm
        simpa [Nat.blt_eq] using this
      let s : Nat → Nat := fun i => if i < bs then i else nth sg i
      have hs : ∀ i, nth sg i < 1000000000 → s i = nth sg i := fun i hi => by
        show (if i < bs then i else nth sg i) = nth sg i
        split
        · rename_i hb
          have := List.all_eq_true.1 h2 i (List.mem_range.2 hb)
          simp only [Bool.or_eq_true, beq_iff_eq, Nat.ble_eq] at this
          omega
        · rfl
      have hmb : ∀ j, memR sg j = true → s (inN sg j) = j ∧ inN sg j < sg.length := fun j hj => by
        simp only [memR, Bool.and_eq_true, Nat.blt_eq] at hj
        obtain ⟨a, b⟩ := memB_inN hj.1
        exact ⟨by rw [hs _ (by rw [a]; exact hj.2), a], b⟩
      have hO : ∀ i o, obL (gtObs sg ob sg 0) i = some o → i < sg.length ∧ s i = nth sg i ∧ ∃ y, obL ob (nth sg i) = some y ∧ gtO sg y = some o := fun i o ho => by
        obtain ⟨m, e1, e2, y, e3, e4⟩ := gtObs_spec sg 0 ho
        have : i = m := by omega
        subst this; exact ⟨e2, hs _ (hkey _ _ e3), y, e3, e4⟩
      refine Wk_ren s (fun i hi => ?_) (by simpa [Nat.ble_eq] using h3) (by simpa [Nat.ble_eq] using h4) (fun t => ?_) (fun i o ho => ?_) (fun i j o o' ho ho' he => ?_) (fun i o ho => ?_) (fun i o ho => hkey i o ho)
      · show (if i < bs then i else nth sg i) = i
        rw [if_pos hi]
      · show lk (gtE sg e) t = .dead ∨ (idsD (ltId sg.length) (lk (gtE sg e) t) = true ∧ lk e t = ren allL s (lk (gtE sg e) t))
        rw [lk_gtE]
        unfold gtD
        cases hh : idsD (memR sg) (lk e t) with
        | false => exact .inl rfl
        | true =>
          have := gcs_ren hmb _ hh
          exact .inr ⟨this.1, this.2.symm⟩
      · obtain ⟨e2, es, y, hy, hg⟩ := hO i o ho
        refine ⟨e2, ?_⟩
        rw [es]
        cases y with
        | p cs =>
          simp only [gtO, Option.some.injEq] at hg
          subst hg
          refine ⟨fun d hd => ?_, hy⟩
          obtain ⟨p, _, rfl⟩ := List.mem_map.1 hd
          rfl
        | r cs =>
          simp only [gtO] at hg
          cases hh : idsL (memR sg) cs with
          | false => simp [hh] at hg
          | true =>
            simp only [hh, cond_true, Option.some.injEq] at hg
            subst hg
            have := gcs_renL hmb cs hh
            refine ⟨fun d hd => ?_, ?_⟩
            · have hall : ∀ (l : List D), idsL (ltId sg.length) l = true → ∀ d ∈ l, idsD (ltId sg.length) d = true := by
                intro l
                induction l with
                | nil => simp
                | cons a l ih =>
                  intro hl d hd
                  simp only [idsL, Bool.and_eq_true] at hl
                  rcases List.mem_cons.1 hd with rfl | hd
                  · exact hl.1
                  · exact ih hl.2 d hd
              exact hall _ this.1 d hd
            · rw [hy]; simp only [renO, ← renL_map, this.2]
      · obtain ⟨a1, c1, _⟩ := hO i o ho
        obtain ⟨a2, c2, _⟩ := hO j o' ho'
        have b1 := ndB_idx i h1 a1
        have b2 := ndB_idx j h1 a2
        rw [c1, c2] at he
        rw [he, b2] at b1
        simpa using b1.symm
      · obtain ⟨a1, c1, y, hy, _⟩ := hO i o ho
        rw [c1]
        exact hkey _ _ hy
  · cases h
end Go.V
