/-
  THE ENGINE, PART 13: the logic of code over abstract states.
-/
import Derived.Test.YteidcinajdehkaaQFV12
set_option linter.unusedSimpArgs false
set_option linter.unusedVariables false
namespace Go.V
structure TR where
  dst : Option Nat
  sl : List Nat
  rd : List Nat
  wr : List Nat
  al : List Nat
def Row.tr (r : Row) : TR := ⟨r.dst, r.slots, r.reads, r.writes, r.al⟩
def disjB (a b : List Nat) : Bool := a.all fun x => !b.contains x
def apartB (a b : TR) : Bool :=
  (match a.dst with | some s => !b.sl.contains s && (match b.dst with | some t => !(t == s) | none => true) | none => true) &&
  (match b.dst with | some s => !a.sl.contains s | none => true) && disjB a.wr b.rd && disjB a.wr b.wr && disjB b.wr a.rd
def okTbl (ops : Array Oper) (l : List TR) : Bool :=
  (List.range l.length).all fun j => (List.range j).all fun i =>
    match l[i]?, l[j]? with
    | some a, some b => disjB a.al b.al && (apartB a b || edgeT ops 6 j i)
    | _, _ => true
theorem disjB_spec {a b : List Nat} (h : disjB a b = true) : ∀ x ∈ a, x ∉ b := by
  intro x hx
  have := List.all_eq_true.1 h x hx
  simpa using this
theorem apartB_spec {a b : Row} (h : apartB a.tr b.tr = true) : Apart a b := by
  simp only [apartB, Bool.and_eq_true] at h
  obtain ⟨⟨⟨⟨h1, h2⟩, h3⟩, h4⟩, h5⟩ := h
  refine ⟨fun s hs => ?_, fun s hs => ?_, fun i hi => ⟨disjB_spec h3 i hi, disjB_spec h4 i hi⟩, fun i hi => disjB_spec h5 i hi⟩
  · simp only [Row.tr, hs, Bool.and_eq_true] at h1
    refine ⟨by simpa using h1.1, fun hb => ?_⟩
    rw [hb] at h1
    simp at h1
  · simp only [Row.tr, hs] at h2
    simpa using h2
theorem okTbl_spec {ops : Array Oper} {rows : List Row} (h : okTbl ops (rows.map Row.tr) = true) :
    (∀ (i j : Nat) ri rj, rows[i]? = some ri → rows[j]? = some rj → i < j → edgeT ops 6 j i = true ∨ Apart ri rj) ∧
    (∀ (i j : Nat) ri rj, rows[i]? = some ri → rows[j]? = some rj → i ≠ j → ∀ q ∈ ri.al, q ∉ rj.al) := by
  have key : ∀ (i j : Nat) ri rj, rows[i]? = some ri → rows[j]? = some rj → i < j → disjB ri.al rj.al = true ∧ (apartB ri.tr rj.tr = true ∨ edgeT ops 6 j i = true) := by
    intro i j ri rj hi hj hij
    have hjl : j < rows.length := (List.getElem?_eq_some_iff.1 hj).1
    have h1 := List.all_eq_true.1 h j (by simpa using hjl)
    have h2 := List.all_eq_true.1 h1 i (List.mem_range.2 hij)
    simp only [List.getElem?_map, hi, hj, Option.map_some, Bool.and_eq_true, Bool.or_eq_true] at h2
    exact h2
  refine ⟨fun i j ri rj hi hj hij => ((key i j ri rj hi hj hij).2.imp_left apartB_spec).symm, fun i j ri rj hi hj hne q hq hq2 => ?_⟩
  rcases Nat.lt_or_gt_of_ne hne with hlt | hgt
  · exact disjB_spec (key i j ri rj hi hj hlt).1 q hq hq2
  · exact disjB_spec (key j i rj ri hj hi hgt).1 q hq2 hq
def St.eff (st : St) (r : Row) : St :=
  { st with tm := (match r.dst with | some t => (t, r.d) :: st.tm | none => st.tm), ob := applyW st.ob r.wr, ex := r.al ++ st.ex }
def bump (ex : List Nat) (m : Nat) : Nat :=
  match ex with
  | [] => m
  | i :: l => bump l (bif Nat.ble m i then i + 1 else m)
theorem bump_le : ∀ (ex : List Nat) (m : Nat), m ≤ bump ex m ∧ ∀ i ∈ ex, i < bump ex m
  | [], m => ⟨Nat.le_refl _, by simp⟩
  | i :: l, m => by
    obtain ⟨h1, h2⟩ := bump_le l (bif Nat.ble m i then i + 1 else m)
    simp only [bump]
    cases hb : Nat.ble m i with
    | true =>
      have := Nat.le_of_ble_eq_true hb
      simp only [hb, cond_true] at h1 h2 ⊢
      exact ⟨by omega, fun j hj => by rcases List.mem_cons.1 hj with rfl | hj; · omega
                                      · exact h2 j hj⟩
    | false =>
      have : ¬ m ≤ i := fun h => by rw [Nat.ble_eq_true_of_le h] at hb; cases hb
      simp only [hb, cond_false] at h1 h2 ⊢
      exact ⟨h1, fun j hj => by rcases List.mem_cons.1 hj with rfl | hj; · omega
                                · exact h2 j hj⟩
def St.fl (st : St) : St := ⟨[], flush st.tm st.env, st.ob, bump st.ex st.nx, []⟩
mutual
def idsD (p : Nat → Bool) : D → Bool
  | .dead => true
  | .v _ => true
  | .sl _ id _ _ _ => p id
  | .slr id _ _ _ _ => p id
  | .ptr id _ => p id
  | .agg cs => idsL p cs
  | .tup cs => idsL p cs
  | .fn _ cs => idsL p cs
def idsL (p : Nat → Bool) : List D → Bool
  | [] => true
  | d :: ds => idsD p d && idsL p ds
end
def frId (bs i : Nat) : Bool := Nat.blt i bs || Nat.ble 1000000000 i
structure FrOk (bs : Nat) (fr : Ob) : Prop where
  low : ∀ i, i < 1000000000 → fr i = none
  ids : ∀ i o, fr i = some o → ∀ d ∈ o.cells, idsD (frId bs) d = true
def ovl (f fr : Ob) : Ob := fun i => match f i with | some o => some o | none => fr i
def exS (st : St) (i : Nat) : Prop := i ∈ st.ex ∨ 1000000000 ≤ i
theorem ovl_some {f fr : Ob} {i : Nat} {o : AObj} (h : f i = some o) : ovl f fr i = some o := by simp [ovl, h]
theorem upd_ovl {f fr : Ob} {bs : Nat} (hfr : FrOk bs fr) : ∀ (l : List (Nat × Option AObj)), (∀ x ∈ l, x.1 < 1000000000) → ovl (upd f l) fr = upd (ovl f fr) l
  | [], _ => rfl
  | (j, o) :: l, h => by
    have ih := upd_ovl (f := f) hfr l (fun x hx => h x (by simp [hx]))
    funext i
    have ihi := congrFun ih i
    simp only [ovl, upd] at ihi ⊢
    by_cases e : i = j
    · simp only [e, if_true]
      cases o with
      | some o => rfl
      | none => exact hfr.low j (h (j, none) (by simp))
    · simp only [e, if_false]; exact ihi
theorem ovl_applyW {fr : Ob} {bs : Nat} (hfr : FrOk bs fr) (ob : Obs) (l : List (Nat × Option AObj)) (h : ∀ x ∈ l, x.1 < 1000000000) : ovl (obL (applyW ob l)) fr = upd (ovl (obL ob) fr) l := by
  rw [obL_applyW]; exact upd_ovl hfr l h
abbrev SatS (fr : Ob) (sz : Nat) (a : Act) (w : World) (ρ : Rho) (st : St) : Prop := Sat sz a w ρ st.get (ovl (obL st.ob) fr) st.nx (exS st)
theorem St.eff_get (st : St) (r : Row) : (st.eff r).get = setE st.get r.dst r.d := by
  funext s
  unfold St.get St.eff
  cases r.dst with
  | none => rfl
  | some t =>
    simp only [lkT, setE]
    by_cases h : s = t
    · subst h; simp
    · have : (t == s) = false := by simpa using fun e => h e.symm
      simp [h, this]
theorem SatS.fl {fr : Ob} {sz : Nat} {a : Act} {w : World} {ρ : Rho} {st : St} (h : SatS fr sz a w ρ st) : SatS fr sz a w ρ st.fl where
  defers := h.defers
  size := h.size
  rep := h.rep
  env := fun s => by
    show RD w _ ρ _ (lk (flush st.tm st.env) s)
    rcases lk_flush st.tm st.env s with e | e
    · rw [e]; exact h.env s
    · rw [e]; exact .dead _
  fr := fun i hi hn => by
    obtain ⟨h1, h2⟩ := bump_le st.ex st.nx
    have hi' : bump st.ex st.nx ≤ i := hi
    exact h.fr i (by omega) (fun hm => by
      rcases hm with hm | hm
      · have := h2 i hm; omega
      · exact hn (.inr hm))
def Wl (P : Program) (sz : Nat) (ops : Array Oper) : List Oper → List TR → St → (List TR → St → Prop) → Prop
  | [], tbl, st, K => K tbl st
  | o :: l, tbl, st, K => ∃ r : Row, RowOk P sz ops o r ∧ (∀ x ∈ r.rs, st.get x.1 = x.2) ∧ (∀ x ∈ r.ro, obL st.ob x.1 = some x.2) ∧ (∀ q ∈ r.al, st.nx ≤ q ∧ ¬ exS st q) ∧ (∀ x ∈ r.wr, x.1 < 1000000000) ∧
      Wl P sz ops l (r.tr :: tbl) (st.eff r) K
section
variable {P : Program} {sz : Nat} {ops : Array Oper}
theorem Wl_seq {fr : Ob} {bs : Nat} (hfr : FrOk bs fr) {Q : Exit → Act → World → Prop} {K : List TR → St → Prop} {w0 : World} {ρ0 : Rho} {ob0 : Ob} : ∀ (l : List Oper) (tbl : List TR) (st : St) (a : Act) (w : World) (ρ : Rho), Wl P sz ops l tbl st K → SatS fr sz a w ρ st → Evo w0 ρ0 ob0 w ρ (ovl (obL st.ob) fr) →
    (∀ tbl' st' a' w' ρ', K tbl' st' → SatS fr sz a' w' ρ' st' → Evo w0 ρ0 ob0 w' ρ' (ovl (obL st'.ob) fr) → Q .normal a' w') → wpList P ops Q l a w
  | [], tbl, st, a, w, ρ, h, hs, he, hQ => hQ tbl st a w ρ h hs he
  | o :: l, tbl, st, a, w, ρ, h, hs, he, hQ => by
    obtain ⟨r, hrow, h1, h2, h3, h3w, h4⟩ := h
    obtain ⟨hdst, hrd, hex⟩ := hrow
    unfold wpList
    refine hex a w ρ (ovl (obL st.ob) fr) hs.defers hs.size hs.rep (fun x hx => by rw [← h1 x hx]; exact hs.env x.1) (fun x hx => ovl_some (h2 x hx)) (fun q hq => hs.fr q (h3 q hq).1 (h3 q hq).2) _ _ (fun v w' ρ' a1 a2 a3 a4 => ?_)
    have hob : ovl (obL (st.eff r).ob) fr = upd (ovl (obL st.ob) fr) r.wr := ovl_applyW hfr _ _ h3w
    have hsat := hs.row (dst := o.dst) hdst a1 a2 a3 a4
    refine Wl_seq hfr l _ _ _ _ ρ' h4 ?_ (by rw [hob]; exact he.trans a3) hQ
    show Sat sz _ _ _ (st.eff r).get (ovl (obL (st.eff r).ob) fr) st.nx _
    rw [hob, St.eff_get, hrd]
    exact ⟨hsat.defers, hsat.size, hsat.rep, hsat.env, fun i hi hn => hsat.fr i hi (fun hm => hn (by
      show i ∈ r.al ++ st.ex ∨ _
      rw [List.mem_append]
      rcases hm with (hm | hm) | hm
      · exact .inl (.inr hm)
      · exact .inr hm
      · exact .inl (.inl hm)))⟩
theorem envF_shift (X : Nat → Bool) : ∀ (rows : List Row) (k : Nat) (e : Nat → D), envF X (k + 1) rows e = envF (fun j => X (j + 1)) k rows e
  | [], _, _ => rfl
  | _ :: rows, k, e => by simp only [envF]; exact envF_shift X rows (k + 1) _
theorem obF_shift (X : Nat → Bool) : ∀ (rows : List Row) (k : Nat) (e : Ob), obF X (k + 1) rows e = obF (fun j => X (j + 1)) k rows e
  | [], _, _ => rfl
  | _ :: rows, k, e => by simp only [obF]; exact obF_shift X rows (k + 1) _
theorem Wl_rows {fr : Ob} {bs : Nat} (hfr : FrOk bs fr) {K : List TR → St → Prop} : ∀ (l : List Oper) (tbl : List TR) (st : St), Wl P sz ops l tbl st K →
    ∃ (rows : List Row) (st' : St), rows.length = l.length ∧ (∀ (j : Nat) o r, l[j]? = some o → rows[j]? = some r → RowOk P sz ops o r) ∧
      (∀ (i : Nat) r, rows[i]? = some r → (∀ x ∈ r.rs, envF (fun j => decide (j < i)) 0 rows st.get x.1 = x.2) ∧ (∀ x ∈ r.ro, obF (fun j => decide (j < i)) 0 rows (ovl (obL st.ob) fr) x.1 = some x.2) ∧ ∀ q ∈ r.al, st.nx ≤ q ∧ ¬ exS st q) ∧
      st'.get = envF (fun _ => true) 0 rows st.get ∧ ovl (obL st'.ob) fr = obF (fun _ => true) 0 rows (ovl (obL st.ob) fr) ∧ st'.nx = st.nx ∧ (∀ q, q ∈ st'.ex ↔ q ∈ st.ex ∨ ∃ r ∈ rows, q ∈ r.al) ∧ K ((rows.map Row.tr).reverse ++ tbl) st'
  | [], tbl, st, h => ⟨[], st, rfl, by simp, by simp, rfl, rfl, rfl, by simp, h⟩
  | o :: l, tbl, st, h => by
    obtain ⟨r, hrow, h1, h2, h3, h3w, h4⟩ := h
    obtain ⟨rows, st', g1, g2, g3, g4, g5, g6, g7, g8⟩ := Wl_rows hfr l _ _ h4
    have hob : ovl (obL (st.eff r).ob) fr = upd (ovl (obL st.ob) fr) r.wr := ovl_applyW hfr _ _ h3w
    refine ⟨r :: rows, st', by simp [g1], fun j o' r' ho hr => ?_, fun i r' hr => ?_, ?_, ?_, g6, fun q => ?_, by simpa using g8⟩
    · cases j with
      | zero => simp at ho hr; subst ho; subst hr; exact hrow
      | succ j => exact g2 j o' r' (by simpa using ho) (by simpa using hr)
    · cases i with
      | zero =>
        simp at hr; subst hr
        have e1 : envF (fun j => decide (j < 0)) 0 (r :: rows) st.get = st.get := by
          have : (fun j : Nat => decide (j < 0)) = fun _ => false := by funext j; simp
          rw [this, envF_false]
        have e2 : obF (fun j => decide (j < 0)) 0 (r :: rows) (ovl (obL st.ob) fr) = ovl (obL st.ob) fr := by
          have : (fun j : Nat => decide (j < 0)) = fun _ => false := by funext j; simp
          rw [this, obF_false]
        rw [e1, e2]
        exact ⟨h1, fun x hx => ovl_some (h2 x hx), h3⟩
      | succ i =>
        obtain ⟨k1, k2, k3⟩ := g3 i r' (by simpa using hr)
        have e0 : (fun j : Nat => decide (j + 1 < i + 1)) = fun j => decide (j < i) := by funext j; simp
        have e1 : envF (fun j => decide (j < i + 1)) 0 (r :: rows) st.get = envF (fun j => decide (j < i)) 0 rows (st.eff r).get := by
          simp only [envF]
          rw [envF_shift, e0, St.eff_get]
          simp
        have e2 : obF (fun j => decide (j < i + 1)) 0 (r :: rows) (ovl (obL st.ob) fr) = obF (fun j => decide (j < i)) 0 rows (ovl (obL (st.eff r).ob) fr) := by
          simp only [obF]
          rw [obF_shift, e0, hob]
          simp
        rw [e1, e2]
        exact ⟨k1, k2, fun q hq => ⟨(k3 q hq).1, fun hm => (k3 q hq).2 (by
          show q ∈ r.al ++ st.ex ∨ _
          rcases hm with hm | hm
          · exact .inl (by simp [hm])
          · exact .inr hm)⟩⟩
    · rw [g4]
      simp only [envF, if_true]
      rw [envF_shift, St.eff_get]
    · rw [g5]
      simp only [obF, if_true]
      rw [obF_shift, hob]
    · rw [g7]
      show q ∈ r.al ++ st.ex ∨ _ ↔ _
      simp only [List.mem_append, List.mem_cons]
      constructor
      · rintro ((h | h) | ⟨x, hx, h⟩)
        · exact .inr ⟨r, .inl rfl, h⟩
        · exact .inl h
        · exact .inr ⟨x, .inr hx, h⟩
      · rintro (h | ⟨x, rfl | hx, h⟩)
        · exact .inl (.inr h)
        · exact .inl (.inl h)
        · exact .inr ⟨x, hx, h⟩
structure EvoB (bs : Nat) (w : World) (ρ : Rho) (ob : Ob) (w' : World) (ρ' : Rho) (ob' : Ob) : Prop where
  os : w'.os = w.os
  tape : w'.tape = w.tape
  output : w'.output = w.output
  size : w.heap.size ≤ w'.heap.size
  keep : ∀ b, b < w.heap.size → ¬ Own ρ ob b → w'.heap[b]? = w.heap[b]?
  bsz : ∀ b, b < w.heap.size → bsz w' b = bsz w b
  own : ∀ b, b < w.heap.size → Own ρ' ob' b → Own ρ ob b
  rho : ∀ i x, (i < bs ∨ 1000000000 ≤ i) → ρ i = some x → ρ' i = some x
theorem Evo.toB {w w' : World} {ρ ρ' : Rho} {ob ob' : Ob} (bs : Nat) (h : Evo w ρ ob w' ρ' ob') : EvoB bs w ρ ob w' ρ' ob' :=
  ⟨h.os, h.tape, h.output, h.size, h.keep, h.bsz, h.own, fun i x _ => h.rho i x⟩
theorem EvoB.refl (bs : Nat) (w : World) (ρ : Rho) (ob : Ob) : EvoB bs w ρ ob w ρ ob := (Evo.refl w ρ ob).toB bs
theorem EvoB.trans {bs : Nat} {w w1 w2 : World} {ρ ρ1 ρ2 : Rho} {ob ob1 ob2 : Ob} (h : EvoB bs w ρ ob w1 ρ1 ob1) (k : EvoB bs w1 ρ1 ob1 w2 ρ2 ob2) : EvoB bs w ρ ob w2 ρ2 ob2 where
  os := k.os.trans h.os
  tape := k.tape.trans h.tape
  output := k.output.trans h.output
  size := Nat.le_trans h.size k.size
  keep := fun b hb hn => (k.keep b (Nat.lt_of_lt_of_le hb h.size) (fun x => hn (h.own b hb x))).trans (h.keep b hb hn)
  bsz := fun b hb => (k.bsz b (Nat.lt_of_lt_of_le hb h.size)).trans (h.bsz b hb)
  own := fun b hb x => h.own b hb (k.own b (Nat.lt_of_lt_of_le hb h.size) x)
  rho := fun i x hi e => k.rho i x hi (h.rho i x hi e)
def WC (P : Program) (sz bs : Nat) (c : Code) (st : St) (Q : Exit → St → Prop) : Prop :=
  ∀ fr, FrOk bs fr → ∀ a w ρ, SatS fr sz a w ρ st → c.wp P (fun e a' w' => ∃ st' ρ', Q e st' ∧ SatS fr sz a' w' ρ' st' ∧ EvoB bs w ρ (ovl (obL st.ob) fr) w' ρ' (ovl (obL st'.ob) fr)) a w
theorem WC_region (hm : P.follows .mixedOrders = true) {id bs : Nat} {draw : Bool} {st : St} {Q : Exit → St → Prop}
    (h : Wl P sz ops ops.toList [] st (fun tbl st' => (draw = true → backB ops = true ∧ okTbl ops tbl.reverse = true) ∧ Q .normal st'.fl)) : WC P sz bs (.region id ops draw) st Q := by
  intro fr hfr a w ρ hs
  cases draw with
  | false =>
    refine wp_region_list (Wl_seq hfr ops.toList [] st a w ρ h hs (Evo.refl _ _ _) fun tbl' st' a' w' ρ' hK hs' he => ?_)
    exact ⟨st'.fl, ρ', hK.2, hs'.fl, he.toB bs⟩
  | true =>
    obtain ⟨rows, st', g1, g2, g3, g4, g5, g6, g7, g8⟩ := Wl_rows hfr ops.toList [] st h
    simp only [List.append_nil, List.reverse_reverse, forall_const] at g8
    obtain ⟨⟨hb, hok⟩, hQ⟩ := g8
    obtain ⟨c1, c2⟩ := okTbl_spec hok
    refine wp_region_any hm ?_
    refine drawn_any (sz := sz) (rows := rows) (env0 := st.get) (ob0 := ovl (obL st.ob) fr) (nx := st.nx) (ex := exS st) (w0 := w) (ρ0 := ρ) (fun i o r ho hr => g2 i o r (by simpa using ho) hr) g3 c1 c2 (by simpa using g1) hb (fun a' w' ρ' hs' he' => ?_)
      ops.size (Array.replicate ops.size false) a w.drew ρ (by simp) ?_ ?_
    · refine ⟨st'.fl, ρ', hQ, SatS.fl ?_, by show EvoB _ _ _ _ _ _ (ovl (obL st'.ob) fr); rw [g5]; exact he'.toB bs⟩
      show Sat sz a' w' ρ' st'.get (ovl (obL st'.ob) fr) st'.nx _
      rw [g4, g5, g6]
      exact ⟨hs'.defers, hs'.size, hs'.rep, hs'.env, fun i hi hn => hs'.fr i hi (fun hx => hn (by
        show i ∈ st'.ex ∨ _
        rw [g7]
        rcases hx with (hx | hx) | hx
        · exact .inl (.inl hx)
        · exact .inr hx
        · exact .inl (.inr hx)))⟩
    · unfold unl
      refine Nat.le_trans (List.length_filter_le _ _) (by simp)
    · have eX : (fun j => (Array.replicate ops.size false).getD j false) = fun _ => false := by
        funext j
        simp only [Array.getD_eq_getD_getElem?, Array.getElem?_replicate]
        split <;> rfl
      rw [eX]
      refine ⟨?_, ?_, fun j hj => by cases hj⟩
      · rw [envF_false, obF_false]
        have hd := Evo.drew w ρ (ovl (obL st.ob) fr)
        refine ⟨hs.defers, hs.size, hs.rep.of_evo_same hd (fun _ _ => rfl), fun s => (hs.env s).evo hd, fun i hi hn => hs.fr i hi (fun hx => hn (.inl hx))⟩
      · rw [obF_false]; exact Evo.drew w ρ _
end
end Go.V
