/-
  THE ENGINE, PART 20: a call in a list of operations; states taken for others: objects forgotten, renamed, or seen as pure data.
-/
import Derived.Test.YteidcinajdehkaaQFV19
set_option linter.unusedSimpArgs false
set_option linter.unusedVariables false
namespace Go.V
section calls
variable {P : Program} {T : Tab} {sz bs : Nat} {k : List It} {st : St} {Q : St → Prop} {draw : Bool} {all : Array Oper} {tbl : List TR} {l : List Oper} {o : Oper}
theorem Wp_row {r : Row} (h : RowOk P sz all o r) (h1 : ∀ x ∈ r.rs, st.get x.1 = x.2) (h2 : ∀ x ∈ r.ro, obL st.ob x.1 = some x.2) (h3 : freshB st.nx st.ex r.al r.wr = true) (hrd : r.dst = o.dst)
    (h4 : Wp P sz bs (.ops draw all (tblS draw r.tr tbl) l :: k) (st.effR o.dst r.d r.wr r.al) Q) : Wp P sz bs (.ops draw all tbl (o :: l) :: k) st Q := by
  refine ⟨r, h, h1, h2, (freshB_ok h3).1, (freshB_ok h3).2, ?_⟩
  have e : st.eff r = st.effR o.dst r.d r.wr r.al := by rw [← hrd]; rfl
  rw [e]; exact Wl_tblS h4
theorem Wp_callG {f : FuncId} {bc : Nat} {argc : List D} {obc obr : Obs} {r : D} (hF : Fn P f bc argc obc (fun d ob' => d = r ∧ ob' = obr)) (sg : List Nat) {ds : List D} {sl : List Nat} (hcb : callB P f = true)
    (hcal : calD P st.get o.op = some (f, ds)) (hg : gsel all st.get o.guard = .run sl)
    (hargs : argc = renL allL (inN sg) ds) (hbs : sg.length = bc) (hnd : ∀ i, i < bc → idx sg (nth sg i) = some i)
    (hobc : ∀ i, i < bc → ∃ x, obL st.ob (nth sg i) = some x ∧ obL obc i = some (renO allL (inN sg) x)) (hobc2 : ∀ i, bc ≤ i → obL obc i = none) (hbc : bc ≤ 1000000000)
    (hobr : ∀ i ∈ keysOf obr, i < 1000000000) (hd : dstB sz o.dst = true)
    (hfresh : freshB st.nx st.ex (newIds bc (st.nx + dstN o.dst) obr) (wrIn sg bc (st.nx + dstN o.dst) obr obr ++ wrOut sg) = true)
    (h : Wp P sz bs (.ops draw all (tblS draw ⟨o.dst, sl ++ opSlots o.op, (roOf (obL st.ob) sg).map (·.1), (wrIn sg bc (st.nx + dstN o.dst) obr obr ++ wrOut sg).map (·.1), newIds bc (st.nx + dstN o.dst) obr⟩ tbl) l :: k)
      (st.effR o.dst (ren (liveB bc obr) (outN sg bc (st.nx + dstN o.dst)) r) (wrIn sg bc (st.nx + dstN o.dst) obr obr ++ wrOut sg) (newIds bc (st.nx + dstN o.dst) obr)) Q) :
    Wp P sz bs (.ops draw all tbl (o :: l) :: k) st Q := by
  refine Wp_row (rowOk_callG (ob := obL st.ob) hF hcb hcal hg hargs hbs hbc hnd hobc hobc2 hobr hd) (fun x hx => by obtain ⟨s, _, rfl⟩ := List.mem_map.1 hx; rfl) (fun x hx => (roOf_mem hx).1) hfresh rfl ?_
  have e : (Row.tr ⟨o.dst, ren (liveB bc obr) (outN sg bc (st.nx + dstN o.dst)) r, (sl ++ opSlots o.op).map (fun s => (s, st.get s)), roOf (obL st.ob) sg, wrIn sg bc (st.nx + dstN o.dst) obr obr ++ wrOut sg, newIds bc (st.nx + dstN o.dst) obr⟩) =
      ⟨o.dst, sl ++ opSlots o.op, (roOf (obL st.ob) sg).map (·.1), (wrIn sg bc (st.nx + dstN o.dst) obr obr ++ wrOut sg).map (·.1), newIds bc (st.nx + dstN o.dst) obr⟩ := by
    simp [Row.tr, Row.slots, Row.reads, Row.writes, Function.comp_def]
  rw [e]; exact h
theorem Wp_call {f : FuncId} {bc : Nat} {argc : List D} {obc obr : Obs} {r : D} (hF : Fn P f bc argc obc (fun d ob' => d = r ∧ ob' = obr)) (sg : List Nat) {fop : Operand} {args : Array Operand} {ats : Array TypeId} {sl : List Nat} {caps : List D} (hcb : callB P f = true)
    (ho : o.op = .call ⟨.value fop, args, ats⟩) (hg : gsel all st.get o.guard = .run sl) (hfop : capsOf (evG st.get fop) = some (f, caps))
    (hargs : argc = renL allL (inN sg) (ordA (evG st.get fop) (args.toList.map (evG st.get)) caps)) (hbs : sg.length = bc) (hnd : ∀ i, i < bc → idx sg (nth sg i) = some i)
    (hobc : ∀ i, i < bc → ∃ x, obL st.ob (nth sg i) = some x ∧ obL obc i = some (renO allL (inN sg) x)) (hobc2 : ∀ i, bc ≤ i → obL obc i = none) (hbc : bc ≤ 1000000000)
    (hobr : ∀ i ∈ keysOf obr, i < 1000000000) (hd : dstB sz o.dst = true)
    (hfresh : freshB st.nx st.ex (newIds bc (st.nx + dstN o.dst) obr) (wrIn sg bc (st.nx + dstN o.dst) obr obr ++ wrOut sg) = true)
    (h : Wp P sz bs (.ops draw all (tblS draw ⟨o.dst, sl ++ opSlots o.op, (roOf (obL st.ob) sg).map (·.1), (wrIn sg bc (st.nx + dstN o.dst) obr obr ++ wrOut sg).map (·.1), newIds bc (st.nx + dstN o.dst) obr⟩ tbl) l :: k)
      (st.effR o.dst (ren (liveB bc obr) (outN sg bc (st.nx + dstN o.dst)) r) (wrIn sg bc (st.nx + dstN o.dst) obr obr ++ wrOut sg) (newIds bc (st.nx + dstN o.dst) obr)) Q) :
    Wp P sz bs (.ops draw all tbl (o :: l) :: k) st Q :=
  Wp_callG hF sg hcb (by simp only [calD, ho, hfop]) hg hargs hbs hnd hobc hobc2 hbc hobr hd hfresh h
abbrev FnP (P : Program) (f : FuncId) (ps : List PV) (p : PV) : Prop := Fn P f 0 (ps.map .v) [] (fun d ob' => d = .v p ∧ ob' = [])
theorem renL_v (live : Nat → Bool) (ψ : Nat → Nat) : ∀ (ps : List PV), renL live ψ (ps.map .v) = ps.map .v
  | [] => rfl
  | p :: ps => by simp [renL, ren, renL_v live ψ ps]
theorem Wp_callPG {f : FuncId} {ps : List PV} {p : PV} (hF : FnP P f ps p) {sl : List Nat} (hcb : callB P f = true)
    (hcal : calD P st.get o.op = some (f, ps.map .v)) (hg : gsel all st.get o.guard = .run sl)
    (hd : dstB sz o.dst = true)
    (h : Wp P sz bs (.ops draw all (tblS draw ⟨o.dst, sl ++ opSlots o.op, [], [], []⟩ tbl) l :: k) (st.effR o.dst (.v p) [] []) Q) :
    Wp P sz bs (.ops draw all tbl (o :: l) :: k) st Q := by
  refine Wp_callG hF [] hcb hcal hg (by rw [renL_v]) rfl (fun i hi => by omega) (fun i hi => by omega) (fun _ _ => rfl) (by omega) (fun i hi => by cases hi) hd rfl ?_
  exact h
theorem Wp_callP {f : FuncId} {ps : List PV} {p : PV} (hF : FnP P f ps p) {fop : Operand} {args : Array Operand} {ats : Array TypeId} {sl : List Nat} {caps : List D} (hcb : callB P f = true)
    (ho : o.op = .call ⟨.value fop, args, ats⟩) (hg : gsel all st.get o.guard = .run sl) (hfop : capsOf (evG st.get fop) = some (f, caps))
    (hargs : ordA (evG st.get fop) (args.toList.map (evG st.get)) caps = ps.map .v) (hd : dstB sz o.dst = true)
    (h : Wp P sz bs (.ops draw all (tblS draw ⟨o.dst, sl ++ opSlots o.op, [], [], []⟩ tbl) l :: k) (st.effR o.dst (.v p) [] []) Q) :
    Wp P sz bs (.ops draw all tbl (o :: l) :: k) st Q :=
  Wp_callPG hF hcb (by simp only [calD, ho, hfop, hargs]) hg hd h
end calls
theorem Wk.refl (sz bs : Nat) (st : St) : Wk sz bs st st := fun _ _ _ w ρ hs => ⟨ρ, hs, EvoB.refl bs w ρ _⟩
theorem Wk.trans {sz bs : Nat} {a b c : St} (h : Wk sz bs a b) (k : Wk sz bs b c) : Wk sz bs a c := fun fr hfr x w ρ hs =>
  let ⟨ρ1, h1, e1⟩ := h fr hfr x w ρ hs
  let ⟨ρ2, h2, e2⟩ := k fr hfr x w ρ1 h1
  ⟨ρ2, h2, e1.trans e2⟩
theorem ren_v {ψ : Nat → Nat} {d : D} {p : PV} (h : ren allL ψ d = .v p) : d = .v p := by
  cases d <;> simp [ren, allL] at h ⊢ <;> first | exact h | exact absurd h (by split <;> simp)
section mention
variable {w : World} {own own' : Nat → Prop} {ρ ρ' : Rho} {p : Nat → Bool}
mutual
theorem RD.unren {ψ : Nat → Nat} (ho : ∀ b, b < w.heap.size → own' b → own b) (hr : ∀ i x, p i = true → ρ (ψ i) = some x → ρ' i = some x) : ∀ {x : Value} (d : D), idsD p d = true → RD w own ρ x (ren allL ψ d) → RD w own' ρ' x d
  | x, .dead, _, _ => .dead x
  | x, .v q, _, h => by
    simp only [ren] at h
    cases h with | v _ _ hh => exact .v x q (hh.mono (fun _ _ _ => rfl) ho)
  | x, .sl f id off len sz, hi, h => by
    simp only [ren, allL, cond_true] at h
    cases h with
    | sl _ _ _ _ _ b o' cap r h1 h2 h3 h4 => exact .sl f id off len sz b o' cap (hr _ _ hi r) h1 h2 h3 h4
    | slN _ _ _ _ r => exact .slN f id off sz (hr _ _ hi r)
  | x, .slr id off len room sz, hi, h => by
    simp only [ren, allL, cond_true] at h
    cases h with
    | slr _ _ _ _ _ b o' cap r h1 h2 h3 h4 => exact .slr id off len room sz b o' cap (hr _ _ hi r) h1 h2 h3 h4
    | slrN _ _ _ r => exact .slrN id off sz (hr _ _ hi r)
  | x, .ptr id off, hi, h => by
    simp only [ren, allL, cond_true] at h
    cases h with | ptr _ _ b r => exact .ptr id off b (hr _ _ hi r)
  | x, .agg cs, hi, h => by
    simp only [ren] at h
    cases h with | agg vs _ h1 hh => exact .agg vs cs h1 (RDs.unren ho hr cs hi hh)
  | x, .tup cs, hi, h => by
    simp only [ren] at h
    cases h with | tup vs _ hh => exact .tup vs cs (RDs.unren ho hr cs hi hh)
  | x, .fn f cs, hi, h => by
    simp only [ren] at h
    match cs, hi, h with
    | [], hi, h => cases h with | fn _ hf vs _ hh => exact .fn f hf vs [] (RDs.unren ho hr [] hi hh)
    | [d], hi, h =>
      simp only [renL] at h
      generalize hra : ren allL ψ d = a' at h
      cases h with
      | fn _ hf vs _ hh => subst hra; exact .fn f hf vs [d] (RDs.unren ho hr [d] hi (by simpa only [renL] using hh))
      | ifc t v _ hh =>
        subst hra
        simp only [idsD, idsL, Bool.and_eq_true] at hi
        exact .ifc t v d (RD.unren ho hr d hi.1 hh)
    | [d, d2], hi, h =>
      simp only [renL] at h
      generalize hra : ren allL ψ d = a' at h
      cases h with
      | fn _ hf vs _ hh => subst hra; exact .fn f hf vs [d, d2] (RDs.unren ho hr [d, d2] hi (by simpa only [renL] using hh))
      | bf g hg v _ hh =>
        have := ren_v hra
        subst this
        simp only [idsD, idsL, Bool.and_eq_true] at hi
        exact .bf g hg v d2 (RD.unren ho hr d2 hi.2.1 hh)
    | d :: d2 :: d3 :: ds, hi, h =>
      simp only [renL] at h
      generalize hra : ren allL ψ d = a' at h
      cases h with | fn _ hf vs _ hh => subst hra; exact .fn f hf vs (d :: d2 :: d3 :: ds) (RDs.unren ho hr (d :: d2 :: d3 :: ds) hi (by simpa only [renL] using hh))
theorem RDs.unren {ψ : Nat → Nat} (ho : ∀ b, b < w.heap.size → own' b → own b) (hr : ∀ i x, p i = true → ρ (ψ i) = some x → ρ' i = some x) : ∀ {vs : List Value} (ds : List D), idsL p ds = true → RDs w own ρ vs (renL allL ψ ds) → RDs w own' ρ' vs ds
  | vs, [], _, h => by simp only [renL] at h; cases h; exact .nil
  | vs, d :: ds, hi, h => by
    simp only [renL] at h
    simp only [idsL, Bool.and_eq_true] at hi
    cases h with | cons x _ vs _ hh ht => exact .cons x d vs ds (RD.unren ho hr d hi.1 hh) (RDs.unren ho hr ds hi.2 ht)
end
mutual
theorem ren_id : ∀ (d : D), ren allL (fun i => i) d = d
  | .dead => rfl
  | .v _ => rfl
  | .sl .. => rfl
  | .slr .. => rfl
  | .ptr .. => rfl
  | .agg cs => by simp only [ren, renL_id cs]
  | .tup cs => by simp only [ren, renL_id cs]
  | .fn _ cs => by simp only [ren, renL_id cs]
theorem renL_id : ∀ (l : List D), renL allL (fun i => i) l = l
  | [] => rfl
  | d :: l => by simp only [renL, ren_id d, renL_id l]
end
theorem RD.ids (ho : ∀ b, b < w.heap.size → own' b → own b) (hr : ∀ i x, p i = true → ρ i = some x → ρ' i = some x) {x : Value} {d : D} (hi : idsD p d = true) (h : RD w own ρ x d) : RD w own' ρ' x d :=
  RD.unren (ψ := fun i => i) ho hr d hi (by rw [ren_id]; exact h)
end mention
def ltId (n : Nat) (i : Nat) : Bool := Nat.blt i n
theorem Wk_ren {sz bs : Nat} {st st' : St} (s : Nat → Nat) (hbs : ∀ i, i < bs → s i = i) (hnx : bs ≤ st'.nx) (hnx2 : st'.nx ≤ 1000000000)
    (henv : ∀ t, st'.get t = .dead ∨ (idsD (ltId st'.nx) (st'.get t) = true ∧ st.get t = ren allL s (st'.get t)))
    (hob : ∀ i o, obL st'.ob i = some o → i < st'.nx ∧ (∀ d ∈ o.cells, idsD (ltId st'.nx) d = true) ∧ obL st.ob (s i) = some (renO allL s o))
    (hinj : ∀ i j o o', obL st'.ob i = some o → obL st'.ob j = some o' → s i = s j → i = j) (hlow : ∀ i o, obL st'.ob i = some o → s i < 1000000000) (hkeys : ∀ i o, obL st.ob i = some o → i < 1000000000) : Wk sz bs st st' := by
  intro fr hfr a w ρ hs
  let ρ' : Rho := fun i => if i < st'.nx then ρ (s i) else if i < 1000000000 then none else ρ i
  have hown : ∀ b, Own ρ' (ovl (obL st'.ob) fr) b → Own ρ (ovl (obL st.ob) fr) b := by
    rintro b ⟨i, o, ho, hr⟩
    cases hi : obL st'.ob i with
    | some x =>
      obtain ⟨h1, _, h2⟩ := hob i x hi
      simp only [ρ', if_pos h1] at hr
      exact ⟨s i, _, ovl_some h2, hr⟩
    | none =>
      have hf : fr i = some o := by simpa [ovl, hi] using ho
      have hge : 1000000000 ≤ i := by
        rcases Nat.lt_or_ge i 1000000000 with h | h
        · rw [hfr.low i h] at hf; cases hf
        · exact h
      simp only [ρ'] at hr
      rw [if_neg (by omega), if_neg (by omega)] at hr
      cases hj : obL st.ob i with
      | some y => exact ⟨i, y, ovl_some hj, hr⟩
      | none => exact ⟨i, o, by simp [ovl, hj, hf], hr⟩
  have hkeep : ∀ i x, frId bs i = true → ρ i = some x → ρ' i = some x := by
    intro i x hi hx
    simp only [frId, Bool.or_eq_true, Nat.blt_eq] at hi
    simp only [ρ']
    rcases hi with hi | hi
    · rw [if_pos (by omega), hbs i hi]; exact hx
    · have := Nat.le_of_ble_eq_true hi
      rw [if_neg (by omega), if_neg (by omega)]; exact hx
  have hnew : ∀ i x, ltId st'.nx i = true → ρ (s i) = some x → ρ' i = some x := by
    intro i x hi hx
    simp only [ltId, Nat.blt_eq] at hi
    simp only [ρ', if_pos hi]; exact hx
  refine ⟨ρ', ⟨hs.defers, hs.size, ⟨fun i j b hi hj hri hrj => ?_, fun i o ho => ?_, fun x hx => (hs.rep.glob x hx).mono (fun _ _ _ => rfl) (fun b _ h => hown b h)⟩, fun t => ?_, fun i hi hn => ?_⟩, ⟨rfl, rfl, rfl, Nat.le_refl _, fun _ _ _ => rfl, fun _ _ => rfl, fun b _ h => hown b h, fun i x hi hx => hkeep i x (by
    simp only [frId, Bool.or_eq_true, Nat.blt_eq]
    rcases hi with hi | hi
    · exact .inl hi
    · exact .inr (Nat.ble_eq_true_of_le hi)) hx⟩⟩
  · -- no block twice
    have key : ∀ i, ovl (obL st'.ob) fr i ≠ none → (∃ o, obL st'.ob i = some o ∧ i < st'.nx) ∨ (obL st'.ob i = none ∧ ∃ o, fr i = some o ∧ 1000000000 ≤ i) := by
      intro i h
      cases hq : obL st'.ob i with
      | some o => exact .inl ⟨o, rfl, (hob i o hq).1⟩
      | none =>
        right
        refine ⟨rfl, ?_⟩
        cases hf : fr i with
        | none => simp [ovl, hq, hf] at h
        | some o =>
          refine ⟨o, rfl, ?_⟩
          rcases Nat.lt_or_ge i 1000000000 with h2 | h2
          · rw [hfr.low i h2] at hf; cases hf
          · exact h2
    have base : ∀ i, ovl (obL st'.ob) fr i ≠ none → ovl (obL st.ob) fr (if i < st'.nx then s i else i) ≠ none ∧ ρ' i = ρ (if i < st'.nx then s i else i) := by
      intro i h
      rcases key i h with ⟨o, ho, hlt⟩ | ⟨hn, o, hf, hge⟩
      · rw [if_pos hlt]
        exact ⟨by rw [ovl_some (hob i o ho).2.2]; simp, by simp only [ρ', if_pos hlt]⟩
      · rw [if_neg (by omega)]
        refine ⟨?_, by simp only [ρ']; rw [if_neg (by omega), if_neg (by omega)]⟩
        cases hj : obL st.ob i with
        | some y => rw [ovl_some hj]; simp
        | none => simp [ovl, hj, hf]
    obtain ⟨b1, b2⟩ := base i hi
    obtain ⟨c1, c2⟩ := base j hj
    have hsame := hs.rep.inj _ _ b b1 c1 (b2 ▸ hri) (c2 ▸ hrj)
    rcases key i hi with ⟨o, ho, hlt⟩ | ⟨_, o, hf, hge⟩ <;> rcases key j hj with ⟨o2, ho2, hlt2⟩ | ⟨_, o2, hf2, hge2⟩
    · rw [if_pos hlt, if_pos hlt2] at hsame
      exact hinj i j o o2 ho ho2 hsame
    · rw [if_pos hlt, if_neg (by omega)] at hsame
      have := hlow i o ho; omega
    · rw [if_neg (by omega), if_pos hlt2] at hsame
      have := hlow j o2 ho2; omega
    · rwa [if_neg (by omega), if_neg (by omega)] at hsame
  · cases hq : obL st'.ob i with
    | some x =>
      have e : o = x := by rw [ovl_some hq] at ho; exact (Option.some.inj ho).symm
      subst e
      obtain ⟨h1, h2, h3⟩ := hob i o hq
      obtain ⟨q, hq2, hro⟩ := hs.rep.obj (s i) _ (ovl_some h3)
      refine ⟨q, by simp only [ρ', if_pos h1]; exact hq2, ?_⟩
      cases q with
      | none =>
        simp only [RO, renO_cells, List.map_eq_nil_iff] at hro ⊢; exact hro
      | some b =>
        obtain ⟨c, e, hb, hl, hc⟩ := hro
        rw [renO_cells] at hl hc
        refine ⟨c, e, hb, by simpa using hl, fun j d hj => ?_⟩
        obtain ⟨u, u1, u2, u3⟩ := hc j (ren allL s d) (by rw [List.getElem?_map, hj]; rfl)
        exact ⟨u, u1, u2, RD.unren (fun b _ h => hown b h) hnew d (h2 d (List.mem_of_getElem? hj)) u3⟩
    | none =>
      have hf : fr i = some o := by simpa [ovl, hq] using ho
      have hge : 1000000000 ≤ i := by
        rcases Nat.lt_or_ge i 1000000000 with h | h
        · rw [hfr.low i h] at hf; cases hf
        · exact h
      have hj : obL st.ob i = none := by
        cases hj : obL st.ob i with
        | none => rfl
        | some y => have := hkeys i y hj; omega
      obtain ⟨q, hq2, hro⟩ := hs.rep.obj i o (by simp [ovl, hj, hf])
      refine ⟨q, by simp only [ρ']; rw [if_neg (by omega), if_neg (by omega)]; exact hq2, ?_⟩
      cases q with
      | none => simp only [RO] at hro ⊢; exact hro
      | some b =>
        obtain ⟨c, e, hb, hl, hc⟩ := hro
        exact ⟨c, e, hb, hl, fun j d hjd => let ⟨u, u1, u2, u3⟩ := hc j d hjd; ⟨u, u1, u2, RD.ids (fun b _ h => hown b h) hkeep (hfr.ids i o hf d (List.mem_of_getElem? hjd)) u3⟩⟩
  · rcases henv t with h | ⟨h1, h2⟩
    · rw [h]; exact .dead _
    · have := hs.env t
      rw [h2] at this
      exact RD.unren (fun b _ h => hown b h) hnew _ h1 this
  · simp only [ρ']
    rw [if_neg (by omega)]
    rcases Nat.lt_or_ge i 1000000000 with h | h
    · rw [if_pos h]
    · exact absurd (Or.inr h) hn
mutual
def fzD (id : Nat) (cs : List PV) : D → D
  | .dead => .dead
  | .v p => .v p
  | .sl f i off len sz => bif i == id then .v (.lst f len ((cs.drop off).take (len * sz))) else .sl f i off len sz
  | .slr i off len room sz => bif i == id then .v (.lst false len ((cs.drop off).take (len * sz))) else .slr i off len room sz
  | .ptr i off => bif i == id then .v (.ipt (cs.drop off)) else .ptr i off
  | .agg ds => aggOf (fzL id cs ds)
  | .tup ds => tupOf (fzL id cs ds)
  | .fn f ds => fnOf f (fzL id cs ds)
def fzL (id : Nat) (cs : List PV) : List D → List D
  | [] => []
  | d :: ds => fzD id cs d :: fzL id cs ds
end
theorem fzL_map (id : Nat) (cs : List PV) : ∀ (l : List D), fzL id cs l = l.map (fzD id cs)
  | [] => rfl
  | d :: l => by simp [fzL, fzL_map id cs l]
section freeze
variable {w : World} {own own' : Nat → Prop} {ρ : Rho} {id : Nat} {cs : List PV}
mutual
theorem RD.fz (ho : ∀ b, b < w.heap.size → own' b → own b) (hid : ∀ b, ρ id = some (some b) → RC w own' b 0 cs) : ∀ {x : Value} {d : D}, RD w own ρ x d → RD w own' ρ x (fzD id cs d)
  | _, _, .dead x => .dead x
  | _, _, .v x p hh => .v x p (hh.mono (fun _ _ _ => rfl) ho)
  | _, _, .sl f i off len sz b o' cap r h1 h2 h3 h4 => by
    simp only [fzD]
    cases hi : i == id with
    | false => exact .sl f i off len sz b o' cap r h1 h2 h3 h4
    | true =>
      have := beq_iff_eq.1 hi; subst this
      refine .v _ _ (.lst f len cap b o' _ h1 h2 h3 ?_)
      rcases h4 with h4 | ⟨rfl, _⟩
      · have : len = 0 := by omega
        subst this; simp; exact .nil _ _
      · have := ((hid b r).drop o').take (len * sz)
        rwa [Nat.zero_add] at this
  | _, _, .slN f i off sz r => by
    simp only [fzD]
    cases hi : i == id with
    | false => exact .slN f i off sz r
    | true => simp; exact .v _ _ (.lstN f)
  | _, _, .slr i off len room sz b o' cap r h1 h2 h3 h4 => by
    simp only [fzD]
    cases hi : i == id with
    | false => exact .slr i off len room sz b o' cap r h1 h2 h3 h4
    | true =>
      have := beq_iff_eq.1 hi; subst this
      refine .v _ _ (.lst false len cap b o' _ (Nat.le_trans h1 h2) (fun h => by cases h) h3 ?_)
      rcases h4 with h4 | ⟨rfl, _⟩
      · have : len = 0 := by omega
        subst this; simp; exact .nil _ _
      · have := ((hid b r).drop o').take (len * sz)
        rwa [Nat.zero_add] at this
  | _, _, .slrN i off sz r => by
    simp only [fzD]
    cases hi : i == id with
    | false => exact .slrN i off sz r
    | true => simp; exact .v _ _ (.lstN false)
  | _, _, .ptr i off b r => by
    simp only [fzD]
    cases hi : i == id with
    | false => exact .ptr i off b r
    | true =>
      have := beq_iff_eq.1 hi; subst this
      have := (hid b r).drop off
      rw [Nat.zero_add] at this
      exact .v _ _ (.ipt b off _ this)
  | _, _, .agg vs ds h1 hh => by simp only [fzD]; exact aggOf_RD (RDs.fz ho hid hh) h1
  | _, _, .tup vs ds hh => by simp only [fzD]; exact tupOf_RD (RDs.fz ho hid hh)
  | _, _, .fn f hf vs ds hh => by simp only [fzD]; exact fnOf_RD hf (RDs.fz ho hid hh)
  | _, _, .ifc t v d hh => by simp only [fzD, fzL]; exact fnOf_one (RD.fz ho hid hh)
  | _, _, .bf f hf v d hh => by simp only [fzD, fzL]; exact fnOf_bf hf (RD.fz ho hid hh)
theorem RDs.fz (ho : ∀ b, b < w.heap.size → own' b → own b) (hid : ∀ b, ρ id = some (some b) → RC w own' b 0 cs) : ∀ {vs : List Value} {ds : List D}, RDs w own ρ vs ds → RDs w own' ρ vs (fzL id cs ds)
  | _, _, .nil => .nil
  | _, _, .cons x d vs ds hh ht => .cons x _ vs _ (RD.fz ho hid hh) (RDs.fz ho hid ht)
end
end freeze
def fzEnv (id : Nat) (cs : List PV) : Env → Env
  | [] => []
  | (s, d) :: e => (s, fzD id cs d) :: fzEnv id cs e
def fzO (id : Nat) (cs : List PV) : AObj → AObj
  | .p ps => .p ps
  | .r ds => objOf (fzL id cs ds)
def fzObs (id : Nat) (cs : List PV) : Obs → Obs
  | [] => []
  | (i, o) :: l => bif i == id then fzObs id cs l else (i, fzO id cs o) :: fzObs id cs l
def St.fz (st : St) (id : Nat) (cs : List PV) : St := ⟨fzEnv id cs st.tm, fzEnv id cs st.env, fzObs id cs st.ob, st.nx, st.ex⟩
theorem lk_fzEnv (id : Nat) (cs : List PV) (s : Nat) : ∀ (e : Env), lk (fzEnv id cs e) s = fzD id cs (lk e s)
  | [] => rfl
  | (a, d) :: e => by
    simp only [fzEnv, lk]
    cases a == s <;> simp [lk_fzEnv id cs s e]
theorem lkT_fzEnv (id : Nat) (cs : List PV) (s : Nat) (e : Env) : ∀ (t : Env), lkT (fzEnv id cs t) (fzEnv id cs e) s = fzD id cs (lkT t e s)
  | [] => lk_fzEnv id cs s e
  | (a, d) :: t => by
    simp only [fzEnv, lkT]
    cases a == s <;> simp [lkT_fzEnv id cs s e t]
theorem obL_fzObs (id : Nat) (cs : List PV) (i : Nat) : ∀ (l : Obs), obL (fzObs id cs l) i = if i = id then none else (obL l i).map (fzO id cs)
  | [] => by simp [fzObs, obL]
  | (a, o) :: l => by
    simp only [fzObs]
    cases ha : a == id with
    | true =>
      have := beq_iff_eq.1 ha; subst this
      simp only [cond_true, obL_fzObs a cs i l, obL]
      by_cases hi : i = a
      · simp [hi]
      · have : (a == i) = false := by simpa using fun e => hi e.symm
        simp [hi, this]
    | false =>
      simp only [cond_false, obL, obL_fzObs id cs i l]
      cases hai : a == i with
      | true =>
        have := beq_iff_eq.1 hai; subst this
        have : ¬ a = id := by simpa using ha
        simp [this]
      | false => simp
theorem fzO_cells (id : Nat) (cs : List PV) (o : AObj) : (fzO id cs o).cells = o.cells.map (fzD id cs) := by
  cases o with
  | p ps => simp only [fzO, AObj.cells, List.map_map]; apply List.map_congr_left; intro p _; simp [fzD]
  | r ds => simp only [fzO, objOf_cells, fzL_map]; rfl
theorem Wk_freezeO {sz bs : Nat} {st : St} (id : Nat) (cs : List PV) (ao : AObj) (h : obL st.ob id = some ao) (hao : ao.cells = cs.map .v) (hid : bs ≤ id) (hid2 : id < 1000000000) : Wk sz bs st (st.fz id cs) := by
  intro fr hfr a w ρ hs
  have hself : ovl (obL st.ob) fr id = some ao := ovl_some h
  have hsub : ∀ i o, ovl (obL (st.fz id cs).ob) fr i = some o → i ≠ id ∧ ∃ y, ovl (obL st.ob) fr i = some y ∧ (o = fzO id cs y ∨ o = y ∧ fr i = some y) := by
    intro i o ho
    have hfz : obL (st.fz id cs).ob i = if i = id then none else (obL st.ob i).map (fzO id cs) := obL_fzObs id cs i st.ob
    by_cases hi : i = id
    · subst hi
      simp only [ovl, hfz, if_true] at ho
      rw [hfr.low i hid2] at ho; cases ho
    · refine ⟨hi, ?_⟩
      simp only [ovl, hfz, if_neg hi] at ho ⊢
      cases hy : obL st.ob i with
      | some y => simp [hy] at ho; exact ⟨y, rfl, .inl ho.symm⟩
      | none => simp [hy] at ho; exact ⟨o, ho, .inr ⟨rfl, ho⟩⟩
  have hown : ∀ b, Own ρ (ovl (obL (st.fz id cs).ob) fr) b → Own ρ (ovl (obL st.ob) fr) b := by
    rintro b ⟨i, o, ho, hr⟩
    obtain ⟨_, y, hy, _⟩ := hsub i o ho
    exact ⟨i, y, hy, hr⟩
  have hRC : ∀ b, ρ id = some (some b) → RC w (Own ρ (ovl (obL (st.fz id cs).ob) fr)) b 0 cs := by
    intro b hb
    obtain ⟨x, hx, hro⟩ := hs.rep.obj id _ hself
    rw [hb] at hx; cases hx
    obtain ⟨c, e, hbb, hl, hc⟩ := hro
    refine RC.mk fun j p hj => ?_
    obtain ⟨u, u1, u2, u3⟩ := hc j (.v p) (by rw [hao]; simp [hj])
    refine ⟨u, by rw [Nat.zero_add, cell_of_row w b j c e _ hbb]; exact u1, u2, ?_, ?_⟩
    · rintro ⟨i, o, ho, hr⟩
      obtain ⟨hne, y, hy, _⟩ := hsub i o ho
      exact hne (hs.rep.inj i id b (by rw [hy]; simp) (by rw [hself]; simp) hr hb)
    · cases u3 with | v _ _ u3 => exact u3.mono (fun _ _ _ => rfl) (fun b _ h => hown b h)
  refine ⟨ρ, ⟨hs.defers, hs.size, ⟨fun i j b hi hj hri hrj => ?_, fun i o ho => ?_, fun x hx => (hs.rep.glob x hx).mono (fun _ _ _ => rfl) (fun b _ h => hown b h)⟩, fun s => ?_, hs.fr⟩, ⟨rfl, rfl, rfl, Nat.le_refl _, fun _ _ _ => rfl, fun _ _ => rfl, fun b _ h => hown b h, fun _ _ _ h => h⟩⟩
  · cases hxi : ovl (obL (st.fz id cs).ob) fr i with
    | none => exact absurd hxi hi
    | some x =>
      cases hxj : ovl (obL (st.fz id cs).ob) fr j with
      | none => exact absurd hxj hj
      | some x2 =>
        obtain ⟨_, y, hy, _⟩ := hsub i x hxi
        obtain ⟨_, y2, hy2, _⟩ := hsub j x2 hxj
        exact hs.rep.inj i j b (by rw [hy]; simp) (by rw [hy2]; simp) hri hrj
  · obtain ⟨hne, y, hy, hcase⟩ := hsub i o ho
    obtain ⟨x, hx, hro⟩ := hs.rep.obj i y hy
    refine ⟨x, hx, ?_⟩
    cases x with
    | none =>
      rcases hcase with rfl | ⟨rfl, _⟩
      · simp only [RO, fzO_cells, List.map_eq_nil_iff] at hro ⊢; exact hro
      · simp only [RO] at hro ⊢; exact hro
    | some b =>
      obtain ⟨c, e, hbb, hl, hc⟩ := hro
      rcases hcase with rfl | ⟨rfl, hf⟩
      · refine ⟨c, e, hbb, by rw [fzO_cells]; simpa using hl, fun j d hj => ?_⟩
        rw [fzO_cells, List.getElem?_map] at hj
        cases hd : y.cells[j]? with
        | none => simp [hd] at hj
        | some d0 =>
          simp only [hd, Option.map_some, Option.some.injEq] at hj
          obtain ⟨u, u1, u2, u3⟩ := hc j d0 hd
          exact ⟨u, u1, u2, hj ▸ u3.fz (fun b _ h => hown b h) hRC⟩
      · exact ⟨c, e, hbb, hl, fun j d hj => let ⟨u, u1, u2, u3⟩ := hc j d hj; ⟨u, u1, u2, RD.ids (p := fun _ => true) (fun b _ h => hown b h) (fun _ _ _ h => h) (by
          have : ∀ (d : D), idsD (fun _ => true) d = true := fun d => by
            have := ids_ren (p := fun _ => true) (live := allL) (ψ := fun i => i) (fun _ => rfl) d
            rwa [ren_id] at this
          exact this d) u3⟩⟩
  · show RD w _ ρ _ (lkT (fzEnv id cs st.tm) (fzEnv id cs st.env) s)
    rw [lkT_fzEnv]
    exact (hs.env s).fz (fun b _ h => hown b h) hRC
theorem Wk_freeze {sz bs : Nat} {st : St} (id : Nat) (cs : List PV) (h : obL st.ob id = some (.p cs)) (hid : bs ≤ id) (hid2 : id < 1000000000) : Wk sz bs st (st.fz id cs) := Wk_freezeO id cs _ h rfl hid hid2
def FinQ (T : Tab) (sz bs : Nat) (rs : List ResultVar) (Qr : D → Obs → Prop) (st : St) : Prop := ∃ st', Wk sz bs st st' ∧ resQ T st' rs (fun ds => Qr (retD ds) st'.ob)
theorem Fn_of {P : Program} {T : Tab} {sz bs : Nat} (hT : TOk P T) {f : FuncId} {fn : Func} {c : Code} {args : List D} {ob : Obs} {Qr : D → Obs → Prop} (dom : List Nat) (rs : List ResultVar) (hf : P.funcs[f]? = some fn) (hb : fn.body = some c) (hn : fn.ntmps = sz) (hrs : fn.results = rs.toArray) (hl : args.length ≤ sz)
    (h : Wp P sz bs [.code c] (initSt dom bs args ob) (FinQ T sz bs rs Qr)) : Fn P f bs args ob Qr := by
  intro fr hfr vals w ρ hrep hargs hfresh
  have hlen := hargs.len
  have hvs : vals.size = args.length := by simpa using hlen
  refine calls_of_wp hf hb ?_
  have hsat : SatS fr sz { tmps := vals ++ Array.replicate (fn.ntmps - vals.size) undef, defers := [] } w ρ (initSt dom bs args ob) := by
    refine ⟨rfl, by simp; omega, hrep, fun s => ?_, fun i hi hn => hfresh i hi ?_⟩
    · show RD w _ ρ _ (lk (initEnv args dom) s)
      rcases lk_initEnv args s dom with e | e
      · rw [e]
        by_cases hs : s < args.length
        · have ha : args[s]? = some args[s] := List.getElem?_eq_getElem hs
          obtain ⟨v, hv, hr⟩ := hargs.get ha
          have hv' : vals[s]? = some v := by simpa using hv
          have e1 : (vals ++ Array.replicate (fn.ntmps - vals.size) undef).getD s undef = v := by
            simp only [Array.getD_eq_getD_getElem?]
            rw [Array.getElem?_append_left (by omega), hv']; rfl
          have e2 : args.getD s .dead = args[s] := by simp [List.getD, ha]
          rw [e1, e2]; exact hr
        · have e2 : args.getD s .dead = .dead := by simp [List.getD, List.getElem?_eq_none (Nat.le_of_not_lt hs)]
          rw [e2]; exact .dead _
      · rw [e]; exact .dead _
    · rcases Nat.lt_or_ge i 1000000000 with hh | hh
      · exact hh
      · exact absurd (Or.inr hh) hn
  refine wp_mono (h fr hfr _ w ρ hsat) fun e a' w' ⟨st1, ρ1, hq, hs1, he1⟩ => ?_
  have fin : (∃ st', Wk sz bs st1 st' ∧ resQ T st' rs (fun ds => Qr (retD ds) st'.ob)) → ∃ v, (results fn a'.tmps).run P w' = .ok v w' ∧ ∃ v2 d ob' ρ', Ending.returned v = .returned v2 ∧ Qr d ob' ∧ RD w' (Own ρ' (ovl (obL ob') fr)) ρ' v2 d ∧ Rep w' ρ' (ovl (obL ob') fr) ∧ EvoB bs w ρ (ovl (obL ob) fr) w' ρ' (ovl (obL ob') fr) := by
    rintro ⟨st', hwk, hr⟩
    obtain ⟨ρ', hs', he⟩ := hwk fr hfr _ _ _ hs1
    obtain ⟨vs, ds, h1, h2, h3, h4⟩ := resQ_sound hT hs' _ _ hr
    refine ⟨_, run_results fn a'.tmps w' vs (by rw [hrs]; simpa using h1), _, retD ds, st'.ob, ρ', rfl, h3, ?_, hs'.rep, he1.trans he⟩
    match vs, ds, h4 with
    | [], [], .nil => exact tupOf_RD .nil
    | [v], [d], .cons _ _ _ _ h .nil => exact h
    | v :: v2 :: vs, d :: d2 :: ds, h => exact tupOf_RD h
  cases e with
  | normal => exact ⟨hs1.defers, fin hq⟩
  | ret => exact ⟨hs1.defers, fin hq⟩
  | _ => exact hq.elim
end Go.V
