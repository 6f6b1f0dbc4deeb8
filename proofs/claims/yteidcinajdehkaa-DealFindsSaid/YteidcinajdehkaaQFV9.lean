/-
  THE ENGINE, PART 9: append, copy; parts of aggregates.
-/
import Derived.Test.YteidcinajdehkaaQFV8
set_option linter.unusedSimpArgs false
set_option linter.unusedVariables false
namespace Go.V
section ops
variable {P : Program} {T : Tab} {w : World} {ρ : Rho} {ob : Ob}
def AObj.sub : AObj → Nat → Nat → AObj
  | .p cs, off, k => .p ((cs.drop off).take k)
  | .r cs, off, k => .r ((cs.drop off).take k)
theorem AObj.sub_cells (o : AObj) (off k : Nat) : (o.sub off k).cells = (o.cells.drop off).take k := by
  cases o <;> simp [AObj.sub, AObj.cells, List.map_drop, List.map_take]
def AObj.cut (o : AObj) (k : Nat) : AObj :=
  match o with
  | .p cs => bif Nat.beq cs.length k then .p cs else .p (cs.take k)
  | .r cs => bif Nat.beq cs.length k then .r cs else .r (cs.take k)
theorem AObj.cut_cells (o : AObj) (k : Nat) : (o.cut k).cells = o.cells.take k := by
  cases o <;> simp only [AObj.cut] <;> rename_i cs <;> cases h : Nat.beq cs.length k <;> simp [AObj.cells, List.map_take]
  · have := Nat.eq_of_beq_eq_true h
    simp [← List.map_take, ← this]
  · have := Nat.eq_of_beq_eq_true h
    simp [← this]
def AObj.app : AObj → AObj → AObj
  | .p cs, .p ds => .p (cs ++ ds)
  | .p cs, .r ds => .r (cs.map .v ++ ds)
  | .r cs, .p ds => .r (cs ++ ds.map .v)
  | .r cs, .r ds => .r (cs ++ ds)
theorem AObj.app_cells (o x : AObj) : (o.app x).cells = o.cells ++ x.cells := by
  cases o <;> cases x <;> simp [AObj.app, AObj.cells]
def srcR (ob : Ob) (x : D) (sz : Nat) : Option (Nat × AObj × List Nat) :=
  match x with
  | .v .nl => some (0, .p [], [])
  | .v (.lst _ n cs) => some (n, .p cs, [])
  | .sl _ id off n sz' => bif sz' == sz then (match ob id with | some o => some (n, o.sub off (n * sz), [id]) | none => none) else none
  | _ => none
theorem src_sound (hrep : Rep w ρ ob) {vx : Value} {dx : D} {sz m : Nat} {news : AObj} {rd : List Nat} (hx : RD w (Own ρ ob) ρ vx dx) (h : srcR ob dx sz = some (m, news, rd)) (hl : news.cells.length = m * sz) :
    (vx = .slice none 0 0 ∧ m = 0) ∨
    ∃ a cap, ∃ vs : List Value, vx = .slice (some a) m cap ∧ vs.length = m * sz ∧ (∀ (j : Nat) v, vs[j]? = some v → w.cell? (a.add j) = some v) ∧ (∀ u ∈ vs, u.oneCell' = true) ∧ RDs w (Own ρ ob) ρ vs news.cells := by
  unfold srcR at h
  split at h
  · cases hx with | v _ _ hx =>
    cases hx
    simp only [Option.some.injEq, Prod.mk.injEq] at h
    exact .inl ⟨rfl, h.1.symm⟩
  · rename_i f n cs
    cases hx with | v _ _ hx =>
    simp only [Option.some.injEq, Prod.mk.injEq] at h
    obtain ⟨rfl, rfl, rfl⟩ := h
    cases hx with
    | lstN f => exact .inl ⟨rfl, rfl⟩
    | lst0 f a => exact .inr ⟨a, 0, [], rfl, by simp, fun j v hv => (by simp at hv), fun u hu => (by cases hu), by simpa [AObj.cells] using RDs.nil⟩
    | lst f n cap b off cs a1 a2 a3 hc =>
      obtain ⟨vs, h1, h2, h3⟩ := cells_list (f := fun j => w.cell? ⟨b, off + j, none⟩) (cs := cs) (R := RP w (Own ρ ob))
        (fun j p hj => let ⟨v, b1, b2, _, b4⟩ := hc.get hj; ⟨v, b1, b2, b4⟩)
      refine .inr ⟨⟨b, off, none⟩, cap, vs, rfl, by rw [h1]; simpa [AObj.cells] using hl, fun j v hv => by rw [addr_add]; exact (h2 j v hv).1, fun u hu => ?_, (RPs.mk h1 h3).to_v⟩
      obtain ⟨j, hj, rfl⟩ := List.mem_iff_getElem.1 hu
      exact (h2 j _ (List.getElem?_eq_getElem hj)).2
  · rename_i f id off n sz'
    cases hsz : sz' == sz with
    | false => simp [hsz] at h
    | true =>
      have e := beq_iff_eq.1 hsz
      subst e
      simp only [beq_self_eq_true, cond_true] at h
      split at h
      · rename_i o ho
        simp only [Option.some.injEq, Prod.mk.injEq] at h
        obtain ⟨rfl, rfl, rfl⟩ := h
        cases hx with
        | slN => exact .inl ⟨rfl, rfl⟩
        | sl f id off n sz b o' cap hr a1 a2 a3 a4 =>
          obtain ⟨x, hx, hro⟩ := hrep.obj id o ho
          rw [hr] at hx; cases hx
          obtain ⟨c, e, hb, hlc, hc⟩ := hro
          have hoff : n * sz' ≠ 0 → o' = off := by
            intro hne
            rcases a4 with a4 | ⟨a4, _⟩
            · exfalso; have : n = 0 := by omega
              subst this; simp at hne
            · exact a4
          obtain ⟨vs, h1, h2, h3⟩ := cells_list (f := fun j => w.cell? ⟨b, off + j, none⟩) (cs := (o.sub off (n * sz')).cells) (R := RD w (Own ρ ob) ρ)
            (fun j d hj => by
              rw [AObj.sub_cells, List.getElem?_take] at hj
              split at hj
              · rw [List.getElem?_drop] at hj
                obtain ⟨u, u1, u2, u3⟩ := hc _ d hj
                exact ⟨u, by rw [cell_of_row w b _ c e _ hb]; exact u1, u2, u3⟩
              · cases hj)
          refine .inr ⟨⟨b, o', none⟩, cap, vs, rfl, by rw [h1, hl], fun j v hv => ?_, fun u hu => ?_, RDs.mk h1 h3⟩
          · have hj : j < vs.length := by
              rcases Nat.lt_or_ge j vs.length with hh | hh
              · exact hh
              · rw [List.getElem?_eq_none hh] at hv; cases hv
            rw [hoff (by rw [h1, hl] at hj; omega), addr_add]; exact (h2 j v hv).1
          · obtain ⟨j, hj, rfl⟩ := List.mem_iff_getElem.1 hu
            exact (h2 j _ (List.getElem?_eq_getElem hj)).2
      · cases h
  · cases h
def appendR (T : Tab) (ob : Ob) (ats : Array TypeId) (s x : D) (id : Nat) : R :=
  match ats[0]? with
  | none => .bad
  | some t =>
    match elemT T t with
    | none => .bad
    | some i =>
      match srcR ob x i.size with
      | none => .bad
      | some (m, news, rd) =>
        match s with
        | .v .nl => .ok (.sl false id 0 m i.size) [(id, some news)] [id] rd (ats = #[t, t] ∧ news.cells.length = m * i.size ∧ m ≤ 1099511627776 ∧ i.bytes ≤ 128)
        | .v (.lst true n cs) => .ok (.sl false id 0 (n + m) i.size) [(id, some ((AObj.p cs).app news))] [id] rd (ats = #[t, t] ∧ news.cells.length = m * i.size ∧ cs.length = n * i.size ∧ 0 < m ∧ n + m ≤ 1099511627776 ∧ i.bytes ≤ 128)
        | .sl _ sid off n sz =>
          match ob sid with
          | some o => .ok (.sl false id 0 (n + m) i.size) [(id, some ((o.cut (n * i.size)).app news)), (sid, none)] [id] (sid :: rd) (ats = #[t, t] ∧ news.cells.length = m * i.size ∧ n * i.size ≤ o.cells.length ∧ off = 0 ∧ sz = i.size ∧ n + m ≤ 1099511627776 ∧ i.bytes ≤ 128 ∧ 0 < i.size)
          | none => .bad
        | _ => .bad
theorem upd_two (ob : Ob) (a b : Nat) (x y : Option AObj) : upd ob [(a, x), (b, y)] = fun j => if j = a then x else if j = b then y else ob j := rfl
theorem Rep.cut' {w : World} {ρ : Rho} {ob : Ob} (h : Rep w ρ ob) {sid : Nat} {o o' : AObj} (ho : ob sid = some o) (k : Nat) (hk : o'.cells = o.cells.take k) :
    Rep w ρ (fun j => if j = sid then some (o') else ob j) ∧ Evo w ρ ob w ρ (fun j => if j = sid then some (o') else ob j) := by
  have hevo : Evo w ρ ob w ρ (fun j => if j = sid then some (o') else ob j) := by
    refine ⟨rfl, rfl, rfl, Nat.le_refl _, fun _ _ _ => rfl, fun _ _ => rfl, fun b _ ⟨i, q, hq, hr⟩ => ?_, fun _ _ h => h⟩
    by_cases hi : i = sid
    · subst hi; exact ⟨i, o, ho, hr⟩
    · simp only [hi, if_false] at hq; exact ⟨i, q, hq, hr⟩
  refine ⟨⟨fun i j b hi hj hri hrj => ?_, fun i q hq => ?_, h.glob_evo hevo⟩, hevo⟩
  · have nn : ∀ i, (if i = sid then some (o') else ob i) ≠ none → ob i ≠ none := by
      intro i h; by_cases hi : i = sid
      · subst hi; rw [ho]; simp
      · simpa [hi] using h
    exact h.inj i j b (nn i hi) (nn j hj) hri hrj
  · have key : ∃ q', ob i = some q' ∧ ∃ n, q.cells = q'.cells.take n := by
      by_cases hi : i = sid
      · subst hi
        simp only [if_true, Option.some.injEq] at hq
        subst hq
        exact ⟨o, ho, k, hk⟩
      · simp only [hi, if_false] at hq; exact ⟨q, hq, q.cells.length, by simp⟩
    obtain ⟨q', hq', n, hn⟩ := key
    obtain ⟨x, hx, hro⟩ := h.obj i q' hq'
    refine ⟨x, hx, ?_⟩
    rw [hn]
    cases x with
    | none => have e : q'.cells = [] := by simpa [RO] using hro
              simp [RO, e]
    | some b =>
      obtain ⟨c, e, hb, hl, hc⟩ := hro
      refine ⟨c, e, hb, by rw [List.length_take]; omega, fun j d hj => ?_⟩
      rw [List.getElem?_take] at hj
      split at hj
      · obtain ⟨u, hu, h1, hd⟩ := hc j d hj
        exact ⟨u, hu, h1, hd.evo hevo⟩
      · cases hj
theorem Rep.cut {w : World} {ρ : Rho} {ob : Ob} (h : Rep w ρ ob) {sid : Nat} {o : AObj} (ho : ob sid = some o) (k : Nat) :
    Rep w ρ (fun j => if j = sid then some (o.cut k) else ob j) ∧ Evo w ρ ob w ρ (fun j => if j = sid then some (o.cut k) else ob j) := h.cut' ho k (o.cut_cells k)
theorem Rep.drop_id {w : World} {ρ : Rho} {ob : Ob} (h : Rep w ρ ob) (id : Nat) : Rep w ρ (fun j => if j = id then none else ob j) ∧ Evo w ρ ob w ρ (fun j => if j = id then none else ob j) := by
  have hevo : Evo w ρ ob w ρ (fun j => if j = id then none else ob j) := by
    refine ⟨rfl, rfl, rfl, Nat.le_refl _, fun _ _ _ => rfl, fun _ _ => rfl, fun b _ ⟨i, o, ho, hr⟩ => ?_, fun _ _ h => h⟩
    by_cases hi : i = id
    · simp [hi] at ho
    · simp only [hi, if_false] at ho; exact ⟨i, o, ho, hr⟩
  refine ⟨⟨fun i j b hi hj hri hrj => ?_, fun i o ho => ?_, h.glob_evo hevo⟩, hevo⟩
  · have nn : ∀ i, (if i = id then none else ob i) ≠ none → ob i ≠ none := by
      intro i h; by_cases hi : i = id
      · simp [hi] at h
      · simpa [hi] using h
    exact h.inj i j b (nn i hi) (nn j hj) hri hrj
  · by_cases hi : i = id
    · simp [hi] at ho
    · simp only [hi, if_false] at ho
      obtain ⟨x, hx, hro⟩ := h.obj i o ho
      refine ⟨x, hx, ?_⟩
      cases x with
      | none => simpa [RO] using hro
      | some b =>
        obtain ⟨c, e, hb, hl, hc⟩ := hro
        exact ⟨c, e, hb, hl, fun j d hj => let ⟨u, hu, h1, hd⟩ := hc j d hj; ⟨u, hu, h1, hd.evo hevo⟩⟩
theorem Rep.rename {w : World} {ρ : Rho} {ob : Ob} (h : Rep w ρ ob) {id sid : Nat} {o o2 : AObj} (ho : ob sid = some o) (hoo : o2.cells = o.cells) (hid : ρ id = none) :
    Rep w (fun i => if i = id then ρ sid else ρ i) (fun j => if j = id then some o2 else if j = sid then none else ob j) ∧
    Evo w ρ ob w (fun i => if i = id then ρ sid else ρ i) (fun j => if j = id then some o2 else if j = sid then none else ob j) := by
  have hne : id ≠ sid := by
    intro e; subst e; obtain ⟨x, hx, _⟩ := h.obj id o ho; rw [hid] at hx; cases hx
  have hevo : Evo w ρ ob w (fun i => if i = id then ρ sid else ρ i) (fun j => if j = id then some o2 else if j = sid then none else ob j) := by
    refine ⟨rfl, rfl, rfl, Nat.le_refl _, fun _ _ _ => rfl, fun _ _ => rfl, fun b _ ⟨i, q, hq, hr⟩ => ?_, fun i x hx => ?_⟩
    · by_cases hi : i = id
      · simp only [hi, if_true] at hr; exact ⟨sid, o, ho, hr⟩
      · simp only [hi, if_false] at hq hr
        by_cases hs : i = sid
        · simp [hs] at hq
        · simp only [hs, if_false] at hq; exact ⟨i, q, hq, hr⟩
    · by_cases hi : i = id
      · subst hi; rw [hid] at hx; cases hx
      · simp only [hi, if_false]; exact hx
  refine ⟨⟨fun i j b hi hj hri hrj => ?_, fun i q hq => ?_, h.glob_evo hevo⟩, hevo⟩
  · have base : ∀ i, (if i = id then some o2 else if i = sid then none else ob i) ≠ none → ob (if i = id then sid else i) ≠ none ∧ (if i = id then ρ sid else ρ i) = ρ (if i = id then sid else i) := by
      intro i hi
      by_cases h1 : i = id
      · simp only [h1, if_true]; exact ⟨by rw [ho]; simp, trivial⟩
      · simp only [h1, if_false] at hi ⊢
        by_cases h2 : i = sid
        · simp [h2] at hi
        · simp only [h2, if_false] at hi; exact ⟨hi, trivial⟩
    obtain ⟨b1, b2⟩ := base i hi
    obtain ⟨c1, c2⟩ := base j hj
    have := h.inj _ _ b b1 c1 (b2 ▸ hri) (c2 ▸ hrj)
    by_cases h1 : i = id <;> by_cases h2 : j = id
    · omega
    · simp only [h1, h2, if_true, if_false] at this hj
      simp [← this] at hj
    · simp only [h1, h2, if_true, if_false] at this hi
      simp [this] at hi
    · simpa [h1, h2] using this
  · have key : ∃ i' q', ob i' = some q' ∧ q.cells = q'.cells ∧ (if i = id then ρ sid else ρ i) = ρ i' := by
      by_cases h1 : i = id
      · simp only [h1, if_true, Option.some.injEq] at hq ⊢; subst hq; exact ⟨sid, o, ho, hoo, rfl⟩
      · simp only [h1, if_false] at hq ⊢
        by_cases h2 : i = sid
        · simp [h2] at hq
        · simp only [h2, if_false] at hq; exact ⟨i, q, hq, rfl, rfl⟩
    obtain ⟨i', q', hi', hqq, hr'⟩ := key
    obtain ⟨x, hx, hro⟩ := h.obj i' q' hi'
    refine ⟨x, by rw [hr']; exact hx, ?_⟩
    rw [hqq]
    cases x with
    | none => simpa [RO] using hro
    | some b =>
      obtain ⟨c, e, hb, hl, hc⟩ := hro
      exact ⟨c, e, hb, hl, fun j d hj => let ⟨u, hu, h1, hd⟩ := hc j d hj; ⟨u, hu, h1, hd.evo hevo⟩⟩
theorem Rep.nilobj {w : World} {ρ : Rho} {ob : Ob} (h : Rep w ρ ob) {id : Nat} {o : AObj} (hid : ρ id = none) (ho : o.cells = []) :
    Rep w (fun i => if i = id then some none else ρ i) (fun j => if j = id then some o else ob j) ∧
    Evo w ρ ob w (fun i => if i = id then some none else ρ i) (fun j => if j = id then some o else ob j) := by
  have hevo : Evo w ρ ob w (fun i => if i = id then some none else ρ i) (fun j => if j = id then some o else ob j) := by
    refine ⟨rfl, rfl, rfl, Nat.le_refl _, fun _ _ _ => rfl, fun _ _ => rfl, fun b _ ⟨i, q, hq, hr⟩ => ?_, fun i x hx => ?_⟩
    · by_cases hi : i = id
      · simp [hi] at hr
      · simp only [hi, if_false] at hq hr; exact ⟨i, q, hq, hr⟩
    · by_cases hi : i = id
      · subst hi; rw [hid] at hx; cases hx
      · simp only [hi, if_false]; exact hx
  refine ⟨⟨fun i j b hi hj hri hrj => ?_, fun i q hq => ?_, h.glob_evo hevo⟩, hevo⟩
  · by_cases h1 : i = id
    · simp [h1] at hri
    · by_cases h2 : j = id
      · simp [h2] at hrj
      · simp only [h1, h2, if_false] at *; exact h.inj i j b hi hj hri hrj
  · by_cases hi : i = id
    · simp only [hi, if_true, Option.some.injEq] at hq ⊢; subst hq; exact ⟨none, rfl, ho⟩
    · simp only [hi, if_false] at hq ⊢
      obtain ⟨x, hx, hro⟩ := h.obj i q hq
      refine ⟨x, hx, ?_⟩
      cases x with
      | none => simpa [RO] using hro
      | some b =>
        obtain ⟨c, e, hb, hl, hc⟩ := hro
        exact ⟨c, e, hb, hl, fun j d hj => let ⟨u, hu, h1, hd⟩ := hc j d hj; ⟨u, hu, h1, hd.evo hevo⟩⟩
theorem RDs.evo {w w' : World} {ρ ρ' : Rho} {ob ob' : Ob} (h : Evo w ρ ob w' ρ' ob') {vs : List Value} {ds : List D} (hd : RDs w (Own ρ ob) ρ vs ds) : RDs w' (Own ρ' ob') ρ' vs ds :=
  RDs.mono h.keep h.own h.bsz h.rho hd
theorem RDs.app {own : Nat → Prop} : ∀ {vs us : List Value} {ds es : List D}, RDs w own ρ vs ds → RDs w own ρ us es → RDs w own ρ (vs ++ us) (ds ++ es)
  | _, _, _, _, .nil, h => h
  | _, _, _, _, .cons x d vs ds h t, k => .cons x d _ _ h (t.app k)
theorem grow_out {r : Result Next} {ob2 : Ob} {id : Nat} (hrep2 : Rep w ρ ob2) (hevo2 : Evo w ρ ob w ρ ob2) (hid : ρ id = none) (all : List Value) (oc : AObj) (hcells : RDs w (Own ρ ob) ρ all oc.cells) (h1 : ∀ u ∈ all, u.oneCell' = true)
    (cs zc : Array Value) (need cap sz : Nat) (e : TypeId) (hcs : cs = all.toArray) (hlen : all.length = need * sz) (hz : zc.size = (cap - need) * sz) (hcap : need ≤ cap) (hm : cap ≤ maxLen)
    (hr : r = .ok (.value (.slice (some ⟨w.heap.size, 0, none⟩) need cap)) (w.drew.alloc (.cells (cs ++ zc) e))) :
    ∃ v w' ρ', r = .ok (.value v) w' ∧ RD w' (Own ρ' (fun j => if j = id then some oc else ob2 j)) ρ' v (.sl false id 0 need sz) ∧ Rep w' ρ' (fun j => if j = id then some oc else ob2 j) ∧ Evo w ρ ob w' ρ' (fun j => if j = id then some oc else ob2 j) ∧ ∀ i, i ∉ [id] → ρ' i = ρ i := by
  subst hcs
  have hd : Evo w ρ ob2 w.drew ρ ob2 := Evo.drew w ρ ob2
  have hrep3 : Rep w.drew ρ ob2 := hrep2.of_evo_same hd (fun _ _ => rfl)
  have hcells3 : RDs w.drew (Own ρ ob2) ρ all oc.cells := RDs.evo hd (RDs.evo hevo2 hcells)
  obtain ⟨s1, s2⟩ := alloc_step (id := id) (c := all.toArray ++ zc) (e := e) (o := oc) hrep3 hid (by rw [← hcells.len]; simp) (fun j d hj => by
    obtain ⟨u, hu, hd⟩ := hcells3.get hj
    have hlt : j < all.length := by
      rcases Nat.lt_or_ge j all.length with hh | hh
      · exact hh
      · rw [List.getElem?_eq_none hh] at hu; cases hu
    refine ⟨u, ?_, h1 u (List.mem_of_getElem? hu), hd⟩
    rw [Array.getElem?_append_left (by simpa using hlt)]
    simpa using hu)
  refine ⟨_, _, _, hr, ?_, s1, hevo2.trans (hd.trans s2), fun i hi => by simp at hi; simp [hi]⟩
  refine .sl false id 0 need sz w.heap.size 0 cap (by simp) hcap (fun h => by cases h) hm (.inr ⟨rfl, ?_⟩)
  unfold bsz
  rw [show w.heap.size = w.drew.heap.size from rfl, heap_alloc_new w.drew _]
  simp only [Array.size_append, List.size_toArray, hlen, hz, ← Nat.add_mul, Nat.zero_add]
  exact Nat.mul_le_mul_right _ (by omega)
theorem run_append_empty (t ty e : TypeId) (i : TypeInfo) (ht : P.underlying t = some (.slice e)) (hi : P.info? e = some i) (a : Option Addr) (n c : Nat) (hnc : n ≤ c) :
    (Builtin.append_ #[t, t] ty #[.slice a n c, .slice none 0 0]).run P w = .ok (.slice a n c) w := by
  cases a <;> simp [Builtin.append_, run_underlying ht, sizeOf, typeInfo, hi, Builtin.lenOf, hnc, Builtin.firstCells, storeCells]
theorem run_append_in (t ty e e2 : TypeId) (i : TypeInfo) (ht : P.underlying t = some (.slice e)) (hi : P.info? e = some i)
    (g o sLen sCap : Nat) (cur : Array Value) (hg : w.heap[g]? = some (.cells cur e2 (0, 0)))
    (a : Addr) (m c : Nat) (news : List Value) (hl : news.length = m * i.size) (hnews : ∀ (j : Nat) u, news[j]? = some u → w.cell? (a.add j) = some u) (h1 : ∀ u ∈ news, u.oneCell' = true)
    (hroom : sLen + m ≤ sCap) (hfit : o + sLen * i.size + news.length ≤ cur.size) :
    (Builtin.append_ #[t, t] ty #[.slice (some ⟨g, o, none⟩) sLen sCap, .slice (some a) m c]).run P w =
      .ok (.slice (some ⟨g, o, none⟩) (sLen + m) sCap) (w.setRow g (cur.toList.take (o + sLen * i.size) ++ news ++ cur.toList.drop (o + sLen * i.size + news.length)).toArray) := by
  have hf := run_firstCells_some (P := P) w i.size m a m c news hl hnews
  have hst := run_storeCells_at P g (o + sLen * i.size) e2 news 0 cur w hg (by simpa using hfit) h1
  simp only [Nat.add_zero] at hst
  simp [Builtin.append_, run_underlying ht, sizeOf, typeInfo, hi, Builtin.lenOf, hroom, hf, addr_add, hst]
def SrcS (w : World) (own : Nat → Prop) (ρ : Rho) (vy : Value) (m sz : Nat) (news : AObj) : Prop :=
  (vy = .slice none 0 0 ∧ m = 0) ∨
    ∃ a cap, ∃ vs : List Value, vy = .slice (some a) m cap ∧ vs.length = m * sz ∧ (∀ (j : Nat) v, vs[j]? = some v → w.cell? (a.add j) = some v) ∧ (∀ u ∈ vs, u.oneCell' = true) ∧ RDs w own ρ vs news.cells
theorem append_bound {j : TypeInfo} {i : TI} (g3 : j.bytes = i.bytes) : ∀ k : Nat, k ≤ 1099511627776 → i.bytes ≤ 128 → k * j.bytes ≤ 140737488355328 := by
  intro k hk hb
  have : k * j.bytes ≤ 1099511627776 * 128 := Nat.mul_le_mul hk (by omega)
  omega
theorem append_onNil {r : Result Next} {t ty e : TypeId} {j : TypeInfo} {z : Value} {i : TI} {vy : Value} {m id : Nat} {news : AObj} (h1 : P.underlying t = some (.slice e)) (g1 : P.info? e = some j) (g2 : j.size = i.size) (g3 : j.bytes = i.bytes) (g4 : j.zero = some z) (g6 : z.cells.size = i.size)
    (hS : SrcS w (Own ρ ob) ρ vy m i.size news) (hrun : ∀ v w', (Builtin.append_ #[t, t] ty #[.slice none 0 0, vy]).run P w = .ok v w' → r = .ok (.value v) w') (ob2 : Ob) (oc : AObj) (hrep2 : Rep w ρ ob2) (hevo2 : Evo w ρ ob w ρ ob2) (hid : ρ id = none) (hl : news.cells.length = m * i.size)
    (hm : m ≤ 1099511627776) (hb : i.bytes ≤ 128) (hoc : oc.cells = news.cells) :
    ∃ v w' ρ', r = .ok (.value v) w' ∧ RD w' (Own ρ' (fun j => if j = id then some oc else ob2 j)) ρ' v (.sl false id 0 m i.size) ∧ Rep w' ρ' (fun j => if j = id then some oc else ob2 j) ∧ Evo w ρ ob w' ρ' (fun j => if j = id then some oc else ob2 j) ∧ ∀ i, i ∉ [id] → ρ' i = ρ i := by
  have hzc : ∀ k, (Builtin.zeroCells z.cells k).size = k * i.size := by intro k; rw [size_zeroCells, g6]
  have bound := append_bound (i := i) g3
  have nilcase : m = 0 → (Builtin.append_ #[t, t] ty #[.slice none 0 0, vy]).run P w = .ok (.slice none 0 0) w → ∃ v w' ρ', r = .ok (.value v) w' ∧ RD w' (Own ρ' (fun j => if j = id then some oc else ob2 j)) ρ' v (.sl false id 0 m i.size) ∧ Rep w' ρ' (fun j => if j = id then some oc else ob2 j) ∧ Evo w ρ ob w' ρ' (fun j => if j = id then some oc else ob2 j) ∧ ∀ i, i ∉ [id] → ρ' i = ρ i := by
    intro hm0 hr
    subst hm0
    obtain ⟨n1, n2⟩ := hrep2.nilobj (o := oc) hid (by rw [hoc]; exact List.eq_nil_of_length_eq_zero (by simpa using hl))
    exact ⟨_, w, _, hrun _ _ hr, .slN false id 0 i.size (by simp), n1, hevo2.trans n2, fun q hq => by simp at hq; simp [hq]⟩
  rcases hS with ⟨rfl, hm0⟩ | ⟨a', cap, vs, rfl, e1, e2, e3, e4⟩
  · exact nilcase hm0 (run_append_empty t ty e j h1 g1 none 0 0 (Nat.le_refl _))
  · rcases Nat.eq_zero_or_pos m with hm0 | hm0
    · refine nilcase hm0 ?_
      subst hm0
      have hf := run_firstCells_some (P := P) w j.size 0 a' 0 cap vs (by rw [e1, g2]) e2
      have hv0 : vs = [] := List.eq_nil_of_length_eq_zero (by simpa using e1)
      subst hv0
      simp [Builtin.append_, run_underlying h1, sizeOf, typeInfo, g1, Builtin.lenOf, hf]
    · have hr := run_append_nil (P := P) w t ty e j z h1 g1 g4 a' m cap vs (by rw [e1, g2]) e2 hm0 (by omega) (by have := bound m hm hb; omega)
      exact grow_out hrep2 hevo2 hid vs oc (by rw [hoc]; exact e4) e3 vs.toArray _ m (grownCap w m 0 e) i.size e rfl e1 (hzc _) (grownCap_ge w m 0 e) (grownCap_le_maxLen w m 0 e (by simp only [maxLen]; omega)) (hrun _ _ hr)
theorem append_onSl {r : Result Next} {t ty e : TypeId} {j : TypeInfo} {z : Value} {i : TI} {vx vy : Value} {m id sid n : Nat} {f : Bool} {news ao : AObj} (h1 : P.underlying t = some (.slice e)) (g1 : P.info? e = some j) (g2 : j.size = i.size) (g3 : j.bytes = i.bytes) (g4 : j.zero = some z) (g6 : z.cells.size = i.size)
    (hrep : Rep w ρ ob) (hS : SrcS w (Own ρ ob) ρ vy m i.size news) (hrun : ∀ v w', (Builtin.append_ #[t, t] ty #[vx, vy]).run P w = .ok v w' → r = .ok (.value v) w') (hx : RD w (Own ρ ob) ρ vx (.sl f sid 0 n i.size)) (hao : ob sid = some ao)
    (hid : ρ id = none) (s2 : news.cells.length = m * i.size) (s3 : ao.cells.length = n * i.size) (s6 : n + m ≤ 1099511627776) (s7 : i.bytes ≤ 128) :
    ∃ v w' ρ', (r = .ok (.value v) w' ∨ (r = .ok .skip w' ∧ v = undef)) ∧ RD w' (Own ρ' (fun j => if j = id then some (ao.app news) else if j = sid then none else ob j)) ρ' v (.sl false id 0 (n + m) i.size) ∧
      Rep w' ρ' (fun j => if j = id then some (ao.app news) else if j = sid then none else ob j) ∧ Evo w ρ ob w' ρ' (fun j => if j = id then some (ao.app news) else if j = sid then none else ob j) ∧ ∀ i, i ∉ [id] → ρ' i = ρ i := by
  have hzc : ∀ k, (Builtin.zeroCells z.cells k).size = k * i.size := by intro k; rw [size_zeroCells, g6]
  have bound := append_bound (i := i) g3
  obtain ⟨hrep2, hevo2⟩ := hrep.drop_id sid
  cases hx with
  | slN _ _ _ _ hr =>
    have hao0 : ao.cells = [] := List.eq_nil_of_length_eq_zero (by simpa using s3)
    obtain ⟨v, w', ρ', a1, a2, a3, a4, a5⟩ := append_onNil h1 g1 g2 g3 g4 g6 hS hrun _ (ao.app news) hrep2 hevo2 hid s2 (by omega) s7 (by rw [AObj.app_cells, hao0, List.nil_append])
    exact ⟨v, w', ρ', .inl a1, by rw [Nat.zero_add]; exact a2, a3, a4, a5⟩
  | sl _ _ _ _ _ b o' cap hr a1 a2 a3 a4 =>
    obtain ⟨q0, hq0, hro⟩ := hrep.obj sid ao hao
    rw [hr] at hq0; cases hq0
    obtain ⟨c, e2, hb, hlc, hc⟩ := hro
    have same : m = 0 → (Builtin.append_ #[t, t] ty #[.slice (some ⟨b, o', none⟩) n cap, vy]).run P w = .ok (.slice (some ⟨b, o', none⟩) n cap) w →
        ∃ v w' ρ', (r = .ok (.value v) w' ∨ (r = .ok .skip w' ∧ v = undef)) ∧ RD w' (Own ρ' (fun j => if j = id then some (ao.app news) else if j = sid then none else ob j)) ρ' v (.sl false id 0 (n + m) i.size) ∧
          Rep w' ρ' (fun j => if j = id then some (ao.app news) else if j = sid then none else ob j) ∧ Evo w ρ ob w' ρ' (fun j => if j = id then some (ao.app news) else if j = sid then none else ob j) ∧ ∀ i, i ∉ [id] → ρ' i = ρ i := by
      intro hm0 hrr
      subst hm0
      have hn0 : news.cells = [] := List.eq_nil_of_length_eq_zero (by simpa using s2)
      obtain ⟨n1, n2⟩ := hrep.rename (o2 := ao.app news) hao (by rw [AObj.app_cells, hn0, List.append_nil]) hid
      exact ⟨_, w, _, .inl (hrun _ _ hrr), .sl false id 0 n i.size b o' cap (by simp [hr]) a1 (fun h => by cases h) a3 a4, n1, n2, fun q hq => by simp at hq; simp [hq]⟩
    rcases hS with ⟨rfl, hm0⟩ | ⟨a', cap', vs, rfl, f1, f2, f3, f4⟩
    · exact same hm0 (run_append_empty t ty e j h1 g1 _ n cap a1)
    · rcases Nat.eq_zero_or_pos m with hm0 | hm0
      · refine same hm0 ?_
        subst hm0
        have hf := run_firstCells_some (P := P) w j.size 0 a' 0 cap' vs (by rw [f1, g2]) f2
        have hv0 : vs = [] := List.eq_nil_of_length_eq_zero (by simpa using f1)
        subst hv0
        simp [Builtin.append_, run_underlying h1, sizeOf, typeInfo, g1, Builtin.lenOf, hf, a1, storeCells]
      · have hcell : ∀ (k : Nat) (d : D), ao.cells[k]? = some d → ∃ u, w.cell? ⟨b, k, none⟩ = some u ∧ u.oneCell' = true ∧ RD w (Own ρ ob) ρ u d := fun k d hk => by
          obtain ⟨u, u1, u2, u3⟩ := hc k d hk
          exact ⟨u, by rw [cell_of_row w b k c e2 _ hb]; exact u1, u2, u3⟩
        by_cases hroom : n + m ≤ cap
        · obtain ⟨rfl, hfit⟩ : o' = 0 ∧ 0 + cap * i.size ≤ bsz w b := by
            rcases a4 with a4 | a4
            · omega
            · exact a4
          have hcs : bsz w b = c.size := by unfold bsz; rw [hb]
          have hmul : (n + m) * i.size ≤ cap * i.size := Nat.mul_le_mul_right _ hroom
          rw [Nat.add_mul] at hmul
          have hr2 := run_append_in (P := P) (w := w) t ty e e2 j h1 g1 b 0 n cap c hb a' m cap' vs (by rw [f1, g2]) f2 f3 hroom (by rw [f1, g2]; omega)
          rw [g2] at hr2
          simp only [Nat.zero_add] at hr2
          obtain ⟨w1, w2⟩ := write_step (w' := w.setRow b (c.toList.take (n * i.size) ++ vs ++ c.toList.drop (n * i.size + vs.length)).toArray) (o' := ao.app news) hrep hao hr hb (setRow_eq w b c _ e2 hb) (by simp; omega) (by rw [AObj.app_cells]; simp [s3, s2]; omega) (fun k d hk => by
            rw [AObj.app_cells, List.getElem?_append] at hk
            rw [splice_get c vs (n * i.size) k (by omega)]
            by_cases hkn : k < ao.cells.length
            · rw [if_pos hkn] at hk
              rw [if_neg (by omega)]
              exact hc k d hk
            · rw [if_neg hkn] at hk
              obtain ⟨u, hu, hd⟩ := f4.get hk
              have hkl : k - ao.cells.length < vs.length := by
                rcases Nat.lt_or_ge (k - ao.cells.length) vs.length with hh | hh
                · exact hh
                · rw [List.getElem?_eq_none hh] at hu; cases hu
              rw [if_pos (by omega), ← s3]
              exact ⟨u, hu, f3 u (List.mem_of_getElem? hu), hd⟩)
          obtain ⟨n1, n2⟩ := w1.rename (sid := sid) (o2 := ao.app news) (id := id) (o := ao.app news) (by simp) rfl hid
          have hfun : (fun j => if j = id then some (ao.app news) else if j = sid then none else if j = sid then some (ao.app news) else ob j) = (fun j => if j = id then some (ao.app news) else if j = sid then none else ob j) := by
            funext j; by_cases q1 : j = id <;> by_cases q2 : j = sid <;> simp [q1, q2]
          rw [hfun] at n1 n2
          refine ⟨_, _, _, .inl (hrun _ _ hr2), .sl false id 0 (n + m) i.size b 0 cap (by simp [hr]) hroom (fun h => by cases h) a3 (.inr ⟨rfl, ?_⟩), n1, w2.trans n2, fun q hq => by simp at hq; simp [hq]⟩
          rw [w2.bsz b (Array.getElem?_eq_some_iff.1 hb).1]; exact hfit
        · have ho0 : n * i.size ≠ 0 → o' = 0 := by
            intro hne
            rcases a4 with a4 | a4
            · exfalso; have : n = 0 := by omega
              subst this; simp at hne
            · exact a4.1
          obtain ⟨os, k1, k2, k3⟩ := cells_list (f := fun k => w.cell? ⟨b, k, none⟩) (cs := ao.cells) (R := RD w (Own ρ ob) ρ) (fun k d hk => hcell k d hk)
          have hr2 := run_append_grow (P := P) w t ty e j z h1 g1 g4 ⟨b, o', none⟩ n cap os (by rw [k1, s3, g2]) (fun k v hv => by
            have hk : k < os.length := by
              rcases Nat.lt_or_ge k os.length with hh | hh
              · exact hh
              · rw [List.getElem?_eq_none hh] at hv; cases hv
            rw [ho0 (by rw [k1, s3] at hk; omega), addr_add, Nat.zero_add]
            exact (k2 k v hv).1) a' m cap' vs (by rw [f1, g2]) f2 (by omega) (by omega) (growslice_fits (by omega) (bound _ s6 s7))
          have hall : RDs w (Own ρ ob) ρ (os ++ vs) (ao.app news).cells := by
            rw [AObj.app_cells]; exact RDs.app (RDs.mk k1 k3) f4
          obtain ⟨v, w', ρ', b1, b2, b3, b4, b5⟩ := grow_out (ob := ob) hrep2 hevo2 hid (os ++ vs) _ hall (fun u hu => by
            rcases List.mem_append.1 hu with hu | hu
            · obtain ⟨j, hj, rfl⟩ := List.mem_iff_getElem.1 hu
              exact (k2 j _ (List.getElem?_eq_getElem hj)).2
            · exact f3 u hu) (os.toArray ++ vs.toArray) _ (n + m) (grownCap w (n + m) cap e) i.size e (by simp) (by rw [List.length_append, k1, s3, f1, Nat.add_mul]) (hzc _) (grownCap_ge w _ _ e) (grownCap_le_maxLen w _ _ e (by simp only [maxLen]; omega)) (hrun _ _ hr2)
          exact ⟨v, w', ρ', .inl b1, b2, b3, b4, b5⟩
theorem append_sound (hT : TOk P T) (hrep : Rep w ρ ob) (x y : Operand) (ats : Array TypeId) (ev : Operand → Value) (dx dy : D) (vx vy : Value) (hvx : ev x = vx) (hvy : ev y = vy) (hx : RD w (Own ρ ob) ρ vx dx) (hy : RD w (Own ρ ob) ρ vy dy) (o : Oper)
    (ho : o.op = .call { callee := .builtin .append, args := #[x, y], argTypes := ats }) (id : Nat) :
    Outs ((execOp ev o).run P w) w ρ ob (appendR T ob ats dx dy id) := by
  have hrun : ∀ v w', (Builtin.append_ ats o.type #[vx, vy]).run P w = .ok v w' → (execOp ev o).run P w = .ok (.value v) w' := fun v w' hv =>
    run_call ev o .append #[x, y] ats ho _ _ Builtin.append_ (fun _ => rfl) (by simpa [hvx, hvy] using hv)
  unfold appendR
  split
  · exact .bad
  rename_i t ht
  split
  · exact .bad
  rename_i i hi
  obtain ⟨e, h1, h2⟩ := elemT_ok hT hi
  obtain ⟨j, z, g1, g2, g3, g4, g5, g6⟩ := hT.info h2
  split
  · exact .bad
  rename_i m news rd hsrc
  have hzc : ∀ k, (Builtin.zeroCells z.cells k).size = k * i.size := by intro k; rw [size_zeroCells, g6]
  have bound := append_bound (i := i) g3
  split
  · cases hx with | v _ _ hx =>
    cases hx
    intro d wr al rd' side he hs hal
    simp only [R.ok.injEq] at he
    obtain ⟨rfl, rfl, rfl, rfl, rfl⟩ := he
    obtain ⟨s1, s2, s3, s4⟩ := hs
    subst s1
    obtain ⟨v, w', ρ', a1, a2, a3, a4, a5⟩ := append_onNil h1 g1 g2 g3 g4 g6 (src_sound hrep hy hsrc s2) hrun ob news hrep (Evo.refl _ _ _) (hal id (by simp)) s2 s3 s4 rfl
    exact ⟨v, w', ρ', .inl a1, a2, a3, a4, a5⟩
  · rename_i n cs
    cases hx with | v _ _ hx =>
    intro d wr al rd' side he hs hal
    simp only [R.ok.injEq] at he
    obtain ⟨rfl, rfl, rfl, rfl, rfl⟩ := he
    obtain ⟨s1, s2, s3, s4, s5, s6⟩ := hs
    cases hx with
    | lstN f =>
      subst s1
      obtain ⟨v, w', ρ', a1, a2, a3, a4, a5⟩ := append_onNil h1 g1 g2 g3 g4 g6 (src_sound hrep hy hsrc s2) hrun ob ((AObj.p []).app news) hrep (Evo.refl _ _ _) (hal id (by simp)) s2 (by omega) s6 (by rw [AObj.app_cells]; simp [AObj.cells])
      exact ⟨v, w', ρ', .inl a1, by rw [Nat.zero_add]; exact a2, a3, a4, a5⟩
    | lst0 f a0 =>
      subst s1
      rcases src_sound hrep hy hsrc s2 with ⟨_, hm0⟩ | ⟨a', cap', vs, rfl, e1, e2, e3, e4⟩
      · omega
      · have hr := run_append_grow (P := P) w t o.type e j z h1 g1 g4 a0 0 0 [] (by simp) (fun j v hv => by simp at hv) a' m cap' vs (by rw [e1, g2]) e2 (by omega) (by omega) (growslice_fits (by omega) (bound _ s5 s6))
        obtain ⟨v, w', ρ', b1, b2, b3, b4, b5⟩ := grow_out (ob := ob) hrep (Evo.refl _ _ _) (hal id (by simp)) vs _ (show RDs w (Own ρ ob) ρ vs ((AObj.p []).app news).cells by rw [AObj.app_cells]; simpa [AObj.cells] using e4) e3 (#[] ++ vs.toArray) _ (0 + m) (grownCap w (0 + m) 0 e) i.size e (by simp) (by rw [e1, Nat.zero_add]) (hzc _) (grownCap_ge w _ _ e) (grownCap_le_maxLen w _ _ e (by simp only [maxLen]; omega)) (hrun _ _ hr)
        exact ⟨v, w', ρ', .inl b1, b2, b3, b4, b5⟩
    | lst f n cap b off cs a1 a2 a3 hc =>
      have hcap := a2 rfl
      subst hcap
      subst s1
      rcases src_sound hrep hy hsrc s2 with ⟨_, hm0⟩ | ⟨a', cap', vs, rfl, e1, e2, e3, e4⟩
      · omega
      · obtain ⟨os, f1, f2, f3⟩ := cells_list (f := fun j => w.cell? ⟨b, off + j, none⟩) (cs := cs) (R := RP w (Own ρ ob))
          (fun j p hj => let ⟨v, b1, b2, _, b4⟩ := hc.get hj; ⟨v, b1, b2, b4⟩)
        have hr := run_append_grow (P := P) w t o.type e j z h1 g1 g4 ⟨b, off, none⟩ cap cap os (by rw [f1, s3, g2]) (fun j v hv => by rw [addr_add]; exact (f2 j v hv).1) a' m cap' vs (by rw [e1, g2]) e2 (by omega) (by omega) (growslice_fits (by omega) (bound _ s5 s6))
        have hall : RDs w (Own ρ ob) ρ (os ++ vs) ((AObj.p cs).app news).cells := by
          rw [AObj.app_cells]; exact RDs.app (RPs.mk f1 f3).to_v e4
        obtain ⟨v, w', ρ', b1, b2, b3, b4, b5⟩ := grow_out (ob := ob) hrep (Evo.refl _ _ _) (hal id (by simp)) (os ++ vs) _ hall (fun u hu => by
          rcases List.mem_append.1 hu with hu | hu
          · obtain ⟨j, hj, rfl⟩ := List.mem_iff_getElem.1 hu
            exact (f2 j _ (List.getElem?_eq_getElem hj)).2
          · exact e3 u hu) (os.toArray ++ vs.toArray) _ (cap + m) (grownCap w (cap + m) cap e) i.size e (by simp) (by rw [List.length_append, f1, s3, e1, Nat.add_mul]) (hzc _) (grownCap_ge w _ _ e) (grownCap_le_maxLen w _ _ e (by simp only [maxLen]; omega)) (hrun _ _ hr)
        exact ⟨v, w', ρ', .inl b1, b2, b3, b4, b5⟩
  · rename_i f sid off n sz
    split
    · rename_i ao hao
      intro d wr al rd' side he hs hal
      simp only [R.ok.injEq] at he
      obtain ⟨rfl, rfl, rfl, rfl, rfl⟩ := he
      obtain ⟨s1, s2, s3, s4, s5, s6, s7, s8⟩ := hs
      have hid := hal id (by simp)
      unfold Out
      rw [upd_two]
      subst s1 s4 s5
      obtain ⟨hrep1, hevo1⟩ := hrep.cut hao (n * i.size)
      have hS1 : SrcS w (Own ρ (fun j => if j = sid then some (ao.cut (n * i.size)) else ob j)) ρ vy m i.size news := by
        rcases src_sound hrep hy hsrc s2 with h | ⟨a', cap', vs, f0, f1, f2, f3, f4⟩
        · exact .inl h
        · exact .inr ⟨a', cap', vs, f0, f1, f2, f3, f4.evo hevo1⟩
      obtain ⟨v, w', ρ', k1, k2, k3, k4, k5⟩ := append_onSl (ao := ao.cut (n * i.size)) h1 g1 g2 g3 g4 g6 hrep1 hS1 hrun (hx.evo hevo1) (by simp) hid s2 (by rw [AObj.cut_cells, List.length_take]; omega) s6 s7
      have hfun : (fun j => if j = id then some ((ao.cut (n * i.size)).app news) else if j = sid then none else if j = sid then some (ao.cut (n * i.size)) else ob j) = (fun j => if j = id then some ((ao.cut (n * i.size)).app news) else if j = sid then none else ob j) := by
        funext j; by_cases q1 : j = id <;> by_cases q2 : j = sid <;> simp [q1, q2]
      rw [hfun] at k2 k3 k4
      exact ⟨v, w', ρ', k1, k2, k3, hevo1.trans k4, k5⟩
    · exact .bad
  · exact .bad
def copyR (T : Tab) (ob : Ob) (ats : Array TypeId) (s x : D) : R :=
  match ats[0]? with
  | none => .bad
  | some t =>
    match elemT T t with
    | none => .bad
    | some i =>
      match srcR ob x i.size, s with
      | some (m, news, rd), .sl _ sid off n sz =>
        match ob sid with
        | some o => .ok (.v (.int .i64 (min m n : Nat))) [(sid, some (putO o off (news.sub 0 (min m n * i.size))))] [] (sid :: rd) (news.cells.length = m * i.size ∧ off + n * i.size ≤ o.cells.length ∧ sz = i.size ∧ 0 < i.size)
        | none => .bad
      | _, _ => .bad
theorem run_copy (t ty e : TypeId) (ats : Array TypeId) (i : TypeInfo) (ha : ats[0]? = some t) (ht : P.underlying t = some (.slice e)) (hi : P.info? e = some i) (g o dLen dCap : Nat) (cur : Array Value) (e2 : TypeId) (hg : w.heap[g]? = some (.cells cur e2 (0, 0)))
    (a : Addr) (m c : Nat) (news : List Value) (hl : news.length = min m dLen * i.size) (hnews : ∀ (j : Nat) u, news[j]? = some u → w.cell? (a.add j) = some u) (h1 : ∀ u ∈ news, u.oneCell' = true) (hfit : o + news.length ≤ cur.size) :
    (Builtin.copy_ ats ty #[.slice (some ⟨g, o, none⟩) dLen dCap, .slice (some a) m c]).run P w = .ok (goInt ((min m dLen : Nat) : Int)) (w.setRow g (cur.toList.take o ++ news ++ cur.toList.drop (o + news.length)).toArray) := by
  have hf := run_firstCells_some (P := P) w i.size (min m dLen) a m c news hl hnews
  have hst := run_storeCells_at P g o e2 news 0 cur w hg (by simpa using hfit) h1
  simp only [Nat.add_zero] at hst
  have hmin : Nat.min m dLen = min m dLen := rfl
  simp [Builtin.copy_, ha, run_underlying ht, sizeOf, typeInfo, hi, Builtin.lenOf, hmin, hf, hst]
theorem run_copy_none (t ty e : TypeId) (ats : Array TypeId) (i : TypeInfo) (ha : ats[0]? = some t) (ht : P.underlying t = some (.slice e)) (hi : P.info? e = some i) (d : Option Addr) (dLen dCap : Nat) (a : Option Addr) (m c : Nat) (h0 : min m dLen = 0) :
    (Builtin.copy_ ats ty #[.slice d dLen dCap, .slice a m c]).run P w = .ok (goInt 0) w := by
  have hmin : Nat.min m dLen = 0 := h0
  cases a <;> cases d <;> simp [Builtin.copy_, ha, run_underlying ht, sizeOf, typeInfo, hi, Builtin.lenOf, hmin, Builtin.firstCells, storeCells, loadCells, loadCellsFrom]
theorem copy_sound (hT : TOk P T) (hrep : Rep w ρ ob) (x y : Operand) (ats : Array TypeId) (ev : Operand → Value) (dx dy : D) (vx vy : Value) (hvx : ev x = vx) (hvy : ev y = vy) (hx : RD w (Own ρ ob) ρ vx dx) (hy : RD w (Own ρ ob) ρ vy dy) (o : Oper)
    (ho : o.op = .call { callee := .builtin .copy, args := #[x, y], argTypes := ats }) :
    Outs ((execOp ev o).run P w) w ρ ob (copyR T ob ats dx dy) := by
  have hrun : ∀ v w', (Builtin.copy_ ats o.type #[vx, vy]).run P w = .ok v w' → (execOp ev o).run P w = .ok (.value v) w' := fun v w' hv =>
    run_call ev o .copy #[x, y] ats ho _ _ Builtin.copy_ (fun _ => rfl) (by simpa [hvx, hvy] using hv)
  unfold copyR
  split
  · exact .bad
  rename_i t ht
  split
  · exact .bad
  rename_i i hi
  obtain ⟨e, h1, h2⟩ := elemT_ok hT hi
  obtain ⟨j, z, g1, g2, g3, g4, g5, g6⟩ := hT.info h2
  split
  · rename_i m news rd f sid off n sz hsrc
    split
    · rename_i ao hao
      intro d wr al rd' side he hs hal
      simp only [R.ok.injEq] at he
      obtain ⟨rfl, rfl, rfl, rfl, rfl⟩ := he
      obtain ⟨s2, s3, s4, s5⟩ := hs
      subst s4
      have hupd : upd ob [(sid, some (putO ao off (news.sub 0 (min m n * i.size))))] = fun j => if j = sid then some (putO ao off (news.sub 0 (min m n * i.size))) else ob j := rfl
      have hS := src_sound hrep hy hsrc s2
      -- nothing is copied
      have hnone : min m n = 0 → (Builtin.copy_ ats o.type #[vx, vy]).run P w = .ok (goInt 0) w → Out ((execOp ev o).run P w) w ρ ob (.v (.int .i64 (min m n : Nat))) [(sid, some (putO ao off (news.sub 0 (min m n * i.size))))] [] := by
        intro h0 hr
        have hc : (putO ao off (news.sub 0 (min m n * i.size))).cells = ao.cells := by
          rw [putO_cells, AObj.sub_cells, h0]; simp [putD]
        obtain ⟨n1, n2⟩ := hrep.cut' (o' := putO ao off (news.sub 0 (min m n * i.size))) hao ao.cells.length (by rw [hc]; simp)
        refine ⟨_, w, ρ, .inl (hrun _ _ hr), ?_, by rw [hupd]; exact n1, by rw [hupd]; exact n2, fun _ _ => rfl⟩
        rw [h0]; exact .v _ _ (.int _ _)
      have hvy' : ∃ a c, vy = .slice a m c := by
        rcases hS with ⟨rfl, rfl⟩ | ⟨a', cap', vs, rfl, _⟩
        · exact ⟨_, _, rfl⟩
        · exact ⟨_, _, rfl⟩
      obtain ⟨ay, cy, hvy'⟩ := hvy'
      cases hx with
      | slN f sid off sz hr => exact hnone (by simp) (by rw [hvy']; exact run_copy_none t o.type e ats j ht h1 g1 _ _ _ _ _ _ (by simp))
      | sl f sid off n sz b o' cap hr a1 a2 a3 a4 =>
        rcases Nat.eq_zero_or_pos (min m n) with h0 | h0
        · exact hnone h0 (by rw [hvy']; exact run_copy_none t o.type e ats j ht h1 g1 _ _ _ _ _ _ h0)
        · have hoff : o' = off := by
            rcases a4 with a4 | ⟨a4, _⟩
            · exfalso; omega
            · exact a4
          subst hoff
          rcases hS with ⟨_, rfl⟩ | ⟨a', cap', vs, hv, f1, f2, f3, f4⟩
          · simp at h0
          · subst hv
            obtain ⟨q0, hq0, hro⟩ := hrep.obj sid ao hao
            rw [hr] at hq0; cases hq0
            obtain ⟨c, e2, hb, hlc, hc⟩ := hro
            have hk1 : min m n * i.size ≤ m * i.size := Nat.mul_le_mul_right _ (Nat.min_le_left _ _)
            have hk2 : min m n * i.size ≤ n * i.size := Nat.mul_le_mul_right _ (Nat.min_le_right _ _)
            have hcs : bsz w b = c.size := by unfold bsz; rw [hb]
            obtain ⟨us, hus⟩ : ∃ us, us = vs.take (min m n * i.size) := ⟨_, rfl⟩
            have hul : us.length = min m n * i.size := by rw [hus, List.length_take, f1]; omega
            have hr2 := run_copy (P := P) (w := w) t o.type e ats j ht h1 g1 b o' n cap c e2 hb a' m cap' us (by rw [hul, g2]) (fun k u hu => f2 k u (by
              rw [hus, List.getElem?_take] at hu
              split at hu
              · exact hu
              · cases hu)) (fun u hu => f3 u (List.mem_of_mem_take (hus ▸ hu))) (by omega)
            obtain ⟨w1, w2⟩ := write_step (w' := w.setRow b (c.toList.take o' ++ us ++ c.toList.drop (o' + us.length)).toArray) (o' := putO ao o' (news.sub 0 (min m n * i.size))) hrep hao hr hb (setRow_eq w b c _ e2 hb) (by simp; omega) (by rw [putO_cells, putD_len]; simp; omega) (fun k d hk => by
              have hnl : (news.sub 0 (min m n * i.size)).cells.length = us.length := by rw [AObj.sub_cells, hul]; simp; omega
              rw [putO_cells, putD_get _ _ _ _ (by omega)] at hk
              rw [splice_get c us o' k (by omega), ← hnl]
              split at hk
              · rename_i hcond
                rw [if_pos hcond]
                rw [AObj.sub_cells, List.drop_zero, List.getElem?_take] at hk
                split at hk
                · rename_i hlt
                  obtain ⟨u, hu, hd⟩ := f4.get hk
                  exact ⟨u, by rw [hus, List.getElem?_take, if_pos hlt]; exact hu, f3 u (List.mem_of_getElem? hu), hd⟩
                · cases hk
              · rename_i hcond
                rw [if_neg hcond]
                exact hc k d hk)
            refine ⟨_, _, ρ, .inl (hrun _ _ hr2), ?_, by rw [hupd]; exact w1, by rw [hupd]; exact w2, fun _ _ => rfl⟩
            exact .v _ _ (.int _ _)
    · exact .bad
  · exact .bad
def D.norm : D → D
  | .slr id off n _ sz => .sl false id off n sz
  | d => d
theorem RD.norm {own : Nat → Prop} {v : Value} {d : D} (h : RD w own ρ v d) : RD w own ρ v d.norm := by
  cases h with
  | slr id off len room sz b o' cap hr h1 h2 h3 h4 => exact .sl false id off len sz b o' cap hr (Nat.le_trans h1 h2) (fun h => by cases h) h3 h4
  | slrN id off sz hr => exact .slN false id off sz hr
  | dead => exact .dead _
  | v _ _ h => exact .v _ _ h
  | sl f id off len sz b o' cap hr h1 h2 h3 h4 => exact .sl f id off len sz b o' cap hr h1 h2 h3 h4
  | slN f id off sz hr => exact .slN f id off sz hr
  | ptr id off b hr => exact .ptr id off b hr
  | agg vs cs h1 h => exact .agg vs cs h1 h
  | tup vs cs h => exact .tup vs cs h
  | fn f hf vs cs h => exact .fn f hf vs cs h
  | ifc t v d h => exact .ifc t v d h
  | bf f hf v d h => exact .bf f hf v d h
theorem RD.room {own : Nat → Prop} {v : Value} {f : Bool} {id off n sz : Nat} (h : RD w own ρ v (.sl f id off n sz)) : RD w own ρ v (.slr id off n n sz) := by
  cases h with
  | sl f id off len sz b o' cap hr h1 h2 h3 h4 => exact .slr id off n n sz b o' cap hr (Nat.le_refl _) h1 h3 h4
  | slN f id off sz hr => exact .slrN id off sz hr
def plainB (h m : Option Int) : Bool :=
  match h, m with
  | none, none => true
  | some a, some b => decide (a = b)
  | _, _ => false
def roomR (id off n room sz' : Nat) (l h m : Option Int) (sz : Nat) : R :=
  .val (.slr id (off + (bnd l 0).toNat * sz) (bnd h n - bnd l 0).toNat ((bnd m room).toNat - (bnd l 0).toNat) sz) (0 ≤ bnd l 0 ∧ bnd l 0 ≤ bnd h n ∧ bnd h n ≤ bnd m room ∧ bnd m room ≤ room ∧ (m.isSome → h.isSome) ∧ sz' = sz)
def sliceX (T : Tab) (ob : Ob) (ty : TypeId) (x : D) (lo hi mx : Option D) : R :=
  match elemOfT T ty, ival lo, ival hi, ival mx with
  | some (some k, sz), some l, some h, some none =>
    match x with
    | .ptr id off =>
      match ob id with
      | some o => .ok (.slr id (off + (bnd l 0).toNat * sz) (bnd h k - bnd l 0).toNat (k - (bnd l 0).toNat) sz) [] [] [id] (0 ≤ bnd l 0 ∧ bnd l 0 ≤ bnd h k ∧ bnd h k ≤ k ∧ off + k * sz ≤ o.cells.length ∧ k ≤ 1099511627776)
      | none => .bad
    | .v (.ipt cs) => .val (.v (.lst false (bnd h k - bnd l 0).toNat ((cs.drop ((bnd l 0).toNat * sz)).take ((bnd h k - bnd l 0).toNat * sz)))) (0 ≤ bnd l 0 ∧ bnd l 0 ≤ bnd h k ∧ bnd h k ≤ k ∧ k ≤ 1099511627776)
    | _ => .bad
  | some (none, sz), some l, some h, some m =>
    match x with
    | .slr id off n room sz' => roomR id off n room sz' l h m sz
    | .sl _ id off n sz' => bif plainB h m then sliceR T ty x lo hi mx else roomR id off n n sz' l h m sz
    | _ => sliceR T ty x lo hi mx
  | _, _, _, _ => .bad
theorem run_slice2 {ty e : TypeId} {sz : Nat} {i : TI} (hT : TOk P T) (h1 : P.underlying ty = some (.slice e)) (h2 : tl T e = some i) (h3 : i.size = sz) (lo hi mx : Option Int) (kl kh km : IntKind) (a : Option Addr) (n c : Nat) (hnc : n ≤ c)
    (s1 : 0 ≤ bnd lo 0) (s2 : bnd lo 0 ≤ bnd hi n) (s3 : bnd hi n ≤ bnd mx c) (s4 : bnd mx c ≤ c) (s5 : mx.isSome → hi.isSome) :
    (Instr.slice ty (.slice a n c) (lo.map (.int kl)) (hi.map (.int kh)) (mx.map (.int km))).run P w = .ok (cutV lo hi mx sz (.slice a n c)) w := by
  subst h3
  have hs := hT.sizeOf h2 w
  cases lo <;> cases hi <;> cases mx <;> simp [bnd] at s1 s2 s3 s4 s5 <;>
    simp (disch := omega) [Instr.slice, run_underlying h1, Instr.sliceBounds, run_sliceBound, hs, cutV, bnd] <;> rfl
theorem run_sliceArr {ty e : TypeId} {k sz : Nat} {i : TI} (hT : TOk P T) (h1 : P.underlying ty = some (.array k e)) (h2 : tl T e = some i) (h3 : i.size = sz) (lo hi : Option Int) (kl kh : IntKind) (b off : Nat)
    (s1 : 0 ≤ bnd lo 0) (s2 : bnd lo 0 ≤ bnd hi k) (s3 : bnd hi k ≤ k) :
    (Instr.sliceAt ty (.pointer (some ⟨b, off, none⟩)) (lo.map (.int kl)) (hi.map (.int kh)) none).run P w =
      .ok (.slice (some (if k = (bnd lo 0).toNat then ⟨b, off, none⟩ else ⟨b, off + (bnd lo 0).toNat * sz, none⟩)) ((bnd hi k).toNat - (bnd lo 0).toNat) (k - (bnd lo 0).toNat)) w := by
  subst h3
  have hs := hT.sizeOf h2 w
  cases lo <;> cases hi <;> simp [bnd] at s1 s2 s3 <;>
    simp (disch := omega) [Instr.sliceAt, Instr.sureAddr, run_underlying h1, Instr.sliceBounds, run_sliceBound, hs, bnd, addr_add] <;> (try rfl)
theorem cutV_slice (lo hi mx : Option Int) (sz : Nat) (a : Option Addr) (n c : Nat) : cutV lo hi mx sz (.slice a n c) =
    .slice (if (bnd mx c).toNat = (bnd lo 0).toNat then a else a.map (·.add ((bnd lo 0).toNat * sz))) ((bnd hi n).toNat - (bnd lo 0).toNat) ((bnd mx c).toNat - (bnd lo 0).toNat) := by
  cases mx <;> simp [cutV, bnd] <;> rfl
theorem room_RD {own : Nat → Prop} {v : Value} {id off n room sz : Nat} {l h m : Option Int} (hx : RD w own ρ v (.slr id off n room sz)) (s1 : 0 ≤ bnd l 0) (s2 : bnd l 0 ≤ bnd h n) (s3 : bnd h n ≤ bnd m room) (s4 : bnd m room ≤ room) :
    ∃ a c, v = .slice a n c ∧ n ≤ c ∧ bnd h n ≤ bnd m c ∧ bnd m c ≤ c ∧
      RD w own ρ (cutV l h m sz (.slice a n c)) (.slr id (off + (bnd l 0).toNat * sz) (bnd h n - bnd l 0).toNat ((bnd m room).toNat - (bnd l 0).toNat) sz) := by
  have hlen : (bnd h ↑n - bnd l 0).toNat = (bnd h n).toNat - (bnd l 0).toNat := by omega
  cases hx with
  | slrN _ _ _ hr =>
    refine ⟨none, 0, rfl, Nat.le_refl _, by simpa using s3, by simpa using s4, ?_⟩
    have e3 : bnd m 0 ≤ 0 := by simpa using s4
    have e2 : bnd h 0 ≤ 0 := Int.le_trans (by simpa using s3) e3
    have e1 : bnd l 0 = 0 := by simp at s2; omega
    have e2' : bnd h 0 = 0 := by simp at s2; omega
    have em2 : (bnd m 0).toNat = 0 := by omega
    rw [cutV_slice]
    simp only [Int.ofNat_zero, e1, e2', em2, Nat.zero_mul, Nat.add_zero]
    simpa using RD.slrN id off sz hr
  | slr _ _ _ _ _ b o' cap hr h1 h2 h3 h4 =>
    have hmm : bnd m cap ≤ cap := by cases m <;> simp [bnd] at * <;> omega
    have hhm : bnd h n ≤ bnd m cap := by cases m <;> simp [bnd] at * <;> omega
    refine ⟨_, cap, rfl, Nat.le_trans h1 h2, hhm, hmm, ?_⟩
    have hroom : (bnd m room).toNat ≤ (bnd m cap).toNat := by cases m <;> simp [bnd] <;> omega
    rw [cutV_slice]
    simp only [Option.map_some, addr_add]
    rw [hlen]
    by_cases hml : (bnd m cap).toNat = (bnd l 0).toNat
    · rw [if_pos hml]
      exact .slr _ _ _ _ _ _ _ _ hr (by omega) (by omega) (by omega) (.inl (by omega))
    · rw [if_neg hml]
      refine .slr _ _ _ _ _ _ _ _ hr (by omega) (by omega) (by omega) (.inr ?_)
      rcases h4 with h4 | ⟨rfl, h4⟩
      · omega
      · refine ⟨rfl, ?_⟩
        have : (bnd l 0).toNat * sz + ((bnd m cap).toNat - (bnd l 0).toNat) * sz ≤ cap * sz := by rw [← Nat.add_mul]; exact Nat.mul_le_mul_right _ (by omega)
        omega
theorem sliceX_sound (hT : TOk P T) (hrep : Rep w ρ ob) (ty : TypeId) (x : Operand) (lo hi mx : Option Operand) (ev : Operand → Value) (de : Operand → D) (vx : Value) (hvx : ev x = vx) (hx : RD w (Own ρ ob) ρ vx (de x))
    (hlo : ∀ y, lo = some y → RD w (Own ρ ob) ρ (ev y) (de y)) (hhi : ∀ y, hi = some y → RD w (Own ρ ob) ρ (ev y) (de y)) (hmx : ∀ y, mx = some y → RD w (Own ρ ob) ρ (ev y) (de y)) (o : Oper) (ho : o.op = .slice ty x lo hi mx) :
    Outs ((execOp ev o).run P w) w ρ ob (sliceX T ob ty (de x) (lo.map de) (hi.map de) (mx.map de)) := by
  unfold sliceX
  split
  · rename_i k sz l h he hl hh hm
    obtain ⟨e, i, h1, h2, h3⟩ := elem_arr hT he
    obtain ⟨kl, el⟩ := ival_opt hlo hl
    obtain ⟨kh, eh⟩ := ival_opt hhi hh
    obtain ⟨km, em⟩ := ival_opt hmx hm
    have hrun : ∀ b off, vx = .pointer (some ⟨b, off, none⟩) → 0 ≤ bnd l 0 → bnd l 0 ≤ bnd h k → bnd h k ≤ k → (execOp ev o).run P w =
        .ok (.value (.slice (some (if k = (bnd l 0).toNat then ⟨b, off, none⟩ else ⟨b, off + (bnd l 0).toNat * sz, none⟩)) ((bnd h k).toNat - (bnd l 0).toNat) (k - (bnd l 0).toNat))) w := by
      intro b off hv s1 s2 s3
      have := run_sliceArr (w := w) hT h1 h2 h3 l h kl kh b off s1 s2 s3
      unfold execOp
      simp only [ho, hvx, hv, el, eh, em, Option.map_none, Sem.run_bind, this, Result.andThen_ok, Sem.run_pure]
    split
    · rename_i id off hd
      rw [hd] at hx
      split
      · rename_i ao hao
        refine .rd hrep fun ⟨s1, s2, s3, s4, s5⟩ => ?_
        cases hx with
        | ptr id off b hr =>
          obtain ⟨q, hq, hro⟩ := hrep.obj id ao hao
          rw [hr] at hq; cases hq
          obtain ⟨c, e2, hb, hlc, hc⟩ := hro
          have hbs : bsz w b = c.size := by unfold bsz; rw [hb]
          refine ⟨_, hrun b off rfl s1 s2 s3, ?_⟩
          have hlen : (bnd h ↑k - bnd l 0).toNat = (bnd h k).toNat - (bnd l 0).toNat := by omega
          rw [hlen]
          by_cases hk : k = (bnd l 0).toNat
          · rw [if_pos hk]
            exact .slr _ _ _ _ _ _ _ _ hr (by omega) (Nat.le_refl _) (by simp only [maxLen]; omega) (.inl (by omega))
          · rw [if_neg hk]
            refine .slr _ _ _ _ _ _ _ _ hr (by omega) (Nat.le_refl _) (by simp only [maxLen]; omega) (.inr ⟨rfl, ?_⟩)
            have : (bnd l 0).toNat * sz + (k - (bnd l 0).toNat) * sz ≤ k * sz := by rw [← Nat.add_mul]; exact Nat.mul_le_mul_right _ (by omega)
            omega
      · exact .bad
    · rename_i cs hd
      rw [hd] at hx
      refine .val hrep fun ⟨s1, s2, s3, s5⟩ => ?_
      cases hx with | v _ _ hx =>
      cases hx with
      | ipt b off cs hc =>
        refine ⟨_, hrun b off rfl s1 s2 s3, .v _ _ ?_⟩
        have hlen : (bnd h ↑k - bnd l 0).toNat = (bnd h k).toNat - (bnd l 0).toNat := by omega
        rw [hlen]
        by_cases hk : k = (bnd l 0).toNat
        · rw [if_pos hk]
          have h0 : (bnd h k).toNat - (bnd l 0).toNat = 0 := by omega
          rw [h0, Nat.zero_mul, List.take_zero]
          exact .lst _ _ _ _ _ _ (by omega) (fun h => by cases h) (by simp only [maxLen]; omega) (.nil _ _)
        · rw [if_neg hk]
          exact .lst _ _ _ _ _ _ (by omega) (fun h => by cases h) (by simp only [maxLen]; omega) ((hc.drop _).take _)
    · exact .bad
  · rename_i sz l h m he hl hh hm
    obtain ⟨e, i, h1, h2, h3⟩ := elem_slice hT he
    have hroom : ∀ id off n room sz', RD w (Own ρ ob) ρ vx (.slr id off n room sz') → Outs ((execOp ev o).run P w) w ρ ob (roomR id off n room sz' l h m sz) := by
      intro id off n room sz' hx
      refine .val hrep fun ⟨s1, s2, s3, s4, s5, s6⟩ => ?_
      subst s6
      obtain ⟨kl, el⟩ := ival_opt hlo hl
      obtain ⟨kh, eh⟩ := ival_opt hhi hh
      obtain ⟨km, em⟩ := ival_opt hmx hm
      obtain ⟨a, c, rfl, hnc, t1, t2, hd⟩ := room_RD hx s1 s2 s3 s4
      have := run_slice2 (w := w) hT h1 h2 h3 l h m kl kh km a n c hnc s1 s2 t1 t2 s5
      refine ⟨_, ?_, hd⟩
      unfold execOp
      simp only [ho, hvx, Instr.sliceAt, Sem.run_bind, run_underlying h1 w, Result.andThen_ok, el, eh, em, this, Sem.run_pure]
    split
    · rename_i id off n room sz' hd
      rw [hd] at hx
      exact hroom id off n room sz' hx
    · rename_i f id off n sz' hd
      cases hp : plainB h m with
      | true => simp only [cond_true]; exact slice_sound hT hrep ty x lo hi mx ev de vx hvx hx hlo hhi hmx o ho
      | false =>
        simp only [cond_false]
        rw [hd] at hx
        exact hroom id off n n sz' hx.room
    · exact slice_sound hT hrep ty x lo hi mx ev de vx hvx hx hlo hhi hmx o ho
  · exact .bad
def clearR (T : Tab) (ob : Ob) (ats : Array TypeId) (s : D) : R :=
  match ats[0]? with
  | none => .bad
  | some t =>
    match elemT T t, s with
    | some i, .sl _ sid off n sz =>
      match ob sid with
      | some o => .ok .dead [(sid, some (putO o off (zobj i.zero n)))] [] [sid] (off + n * i.size ≤ o.cells.length ∧ sz = i.size)
      | none => .bad
    | _, _ => .bad
theorem clear_sound (hT : TOk P T) (hrep : Rep w ρ ob) (x : Operand) (ats : Array TypeId) (ev : Operand → Value) (dx : D) (vx : Value) (hvx : ev x = vx) (hx : RD w (Own ρ ob) ρ vx dx) (o : Oper)
    (ho : o.op = .call { callee := .builtin .clear, args := #[x], argTypes := ats }) :
    Outs ((execOp ev o).run P w) w ρ ob (clearR T ob ats dx) := by
  have hrun : ∀ v w', (Builtin.clear_ ats o.type #[vx]).run P w = .ok v w' → (execOp ev o).run P w = .ok (.value v) w' := fun v w' hv =>
    run_call ev o .clear #[x] ats ho _ _ Builtin.clear_ (fun _ => rfl) (by simpa [hvx] using hv)
  unfold clearR
  split
  · exact .bad
  rename_i t ht
  split
  · rename_i i f sid off n sz hi
    obtain ⟨e, h1, h2⟩ := elemT_ok hT hi
    obtain ⟨j, z, g1, g2, g3, g4, g5, g6⟩ := hT.info h2
    split
    · rename_i ao hao
      intro d wr al rd' side he hs hal
      simp only [R.ok.injEq] at he
      obtain ⟨rfl, rfl, rfl, rfl, rfl⟩ := he
      obtain ⟨s3, s4⟩ := hs
      subst s4
      have hupd : upd ob [(sid, some (putO ao off (zobj i.zero n)))] = fun j => if j = sid then some (putO ao off (zobj i.zero n)) else ob j := rfl
      have hzl : i.zero.length = i.size := by rw [← ((zbs_RDs (w := w) (ρ := ρ) (own := Own ρ ob) g5).1).len]; simp [g6]
      have hnone : n = 0 → (Builtin.clear_ ats o.type #[vx]).run P w = .ok (.tuple #[]) w → Out ((execOp ev o).run P w) w ρ ob .dead [(sid, some (putO ao off (zobj i.zero n)))] [] := by
        intro h0 hr
        have hc : (putO ao off (zobj i.zero n)).cells = ao.cells := by
          rw [putO_cells, zobj_cells, h0]; simp [zrep, putD]
        obtain ⟨n1, n2⟩ := hrep.cut' (o' := putO ao off (zobj i.zero n)) hao ao.cells.length (by rw [hc]; simp)
        exact ⟨_, w, ρ, .inl (hrun _ _ hr), .dead _, by rw [hupd]; exact n1, by rw [hupd]; exact n2, fun _ _ => rfl⟩
      cases hx with
      | slN f sid off sz hr => exact hnone rfl (by simp [Builtin.clear_, ht, run_underlying h1])
      | sl f sid off n sz b o' cap hr a1 a2 a3 a4 =>
        rcases Nat.eq_zero_or_pos n with h0 | h0
        · subst h0; exact hnone rfl (by simp [Builtin.clear_, ht, run_underlying h1])
        · have hoff : o' = off := by
            rcases a4 with a4 | ⟨a4, _⟩
            · exfalso; omega
            · exact a4
          subst hoff
          obtain ⟨q0, hq0, hro⟩ := hrep.obj sid ao hao
          rw [hr] at hq0; cases hq0
          obtain ⟨c, e2, hb, hlc, hc⟩ := hro
          have hz := zeros_RDs (w := w) (ρ := ρ) (own := Own ρ ob) g5 n
          obtain ⟨us, hus⟩ : ∃ us, us = (Builtin.zeroCells z.cells n).toList := ⟨_, rfl⟩
          have hul : us.length = n * i.size := by rw [hus]; simp [size_zeroCells, g6]
          have hu1 : ∀ (q : Nat) (d : D), (zrep i.zero n)[q]? = some d → ∃ u, us[q]? = some u ∧ u.oneCell' = true ∧ RD w (Own ρ ob) ρ u d := by
            intro q d hq
            obtain ⟨u, u1, u2⟩ := hz q d hq
            exact ⟨u, by rw [hus, Array.getElem?_toList]; exact u1, u2⟩
          have hu2 : ∀ u ∈ us, u.oneCell' = true := by
            intro u hu
            obtain ⟨q, hq, rfl⟩ := List.mem_iff_getElem.1 hu
            have hlt : q < (zrep i.zero n).length := by rw [zrep_len, hzl]; omega
            obtain ⟨u', u1, u2, _⟩ := hu1 q _ (List.getElem?_eq_getElem hlt)
            rw [List.getElem?_eq_getElem hq] at u1
            simp only [Option.some.injEq] at u1
            rw [u1]; exact u2
          have hst := run_storeCells_at P b o' e2 us 0 c w hb (by simp; omega) hu2
          simp only [Nat.add_zero] at hst
          have hzero : (zeroValue e).run P w = .ok z w := by simp [zeroValue, typeInfo, g1, g4]
          have hr2 : (Builtin.clear_ ats o.type #[.slice (some ⟨b, o', none⟩) n cap]).run P w = .ok (.tuple #[]) (w.setRow b (c.toList.take o' ++ us ++ c.toList.drop (o' + us.length)).toArray) := by
            obtain ⟨n', rfl⟩ : ∃ n', n = n' + 1 := ⟨n - 1, by omega⟩
            simp [Builtin.clear_, ht, run_underlying h1, hzero, ← hus, hst]
          obtain ⟨w1, w2⟩ := write_step (w' := w.setRow b (c.toList.take o' ++ us ++ c.toList.drop (o' + us.length)).toArray) (o' := putO ao o' (zobj i.zero n)) hrep hao hr hb (setRow_eq w b c _ e2 hb) (by simp; omega) (by rw [putO_cells, putD_len]; simp; omega) (fun k d hk => by
            have hnl : (zobj i.zero n).cells.length = us.length := by rw [zobj_cells, zrep_len, hzl, hul]
            rw [putO_cells, putD_get _ _ _ _ (by omega)] at hk
            rw [splice_get c us o' k (by omega), ← hnl]
            split at hk
            · rename_i hcond
              rw [if_pos hcond]
              rw [zobj_cells] at hk
              obtain ⟨u, u1, u2, u3⟩ := hu1 _ d hk
              exact ⟨u, u1, u2, u3⟩
            · rename_i hcond
              rw [if_neg hcond]
              exact hc k d hk)
          exact ⟨_, _, ρ, .inl (hrun _ _ hr2), .dead _, by rw [hupd]; exact w1, by rw [hupd]; exact w2, fun _ _ => rfl⟩
    · exact .bad
  · exact .bad
def extO (o : AObj) (k : Nat) : AObj :=
  match o with
  | .p cs => .p (cs ++ List.replicate (k - cs.length) .nl)
  | .r cs => .r (cs ++ List.replicate (k - cs.length) .dead)
theorem extO_len (o : AObj) (k : Nat) : (extO o k).cells.length = max o.cells.length k := by
  cases o <;> simp [extO, AObj.cells] <;> omega
theorem extO_get (o : AObj) (k j : Nat) (h : j < o.cells.length) : (extO o k).cells[j]? = o.cells[j]? := by
  cases o with
  | p cs =>
    have h' : j < cs.length := by simpa [AObj.cells] using h
    simp only [extO, AObj.cells, List.map_append]
    rw [List.getElem?_append_left (by simpa using h')]
  | r cs =>
    have h' : j < cs.length := by simpa [AObj.cells] using h
    simp [extO, AObj.cells, List.getElem?_append_left h']
theorem extO_le (o : AObj) (k : Nat) (h : k ≤ o.cells.length) : extO o k = o := by
  cases o with
  | p cs =>
    have h' : k - cs.length = 0 := by have : k ≤ cs.length := by simpa [AObj.cells] using h
                                      omega
    simp [extO, h']
  | r cs =>
    have h' : k - cs.length = 0 := by have : k ≤ cs.length := by simpa [AObj.cells] using h
                                      omega
    simp [extO, h']
def appendX (T : Tab) (ob : Ob) (ats : Array TypeId) (s x : D) (id : Nat) : R :=
  match s with
  | .slr sid off n room sz =>
    match ats[0]? with
    | none => .bad
    | some t =>
      match elemT T t with
      | none => .bad
      | some i =>
        match srcR ob x i.size, ob sid with
        | some (m, news, rd), some o =>
          bif Nat.ble (n + m) room then
            .ok (.slr sid off (n + m) room i.size) [(sid, some (putO (extO o (off + (n + m) * i.size)) (off + n * i.size) news))] [] (sid :: rd) (ats = #[t, t] ∧ news.cells.length = m * i.size ∧ off + n * i.size ≤ o.cells.length ∧ sz = i.size)
          else appendR T ob ats s.norm x id
        | _, _ => .bad
  | .sl true sid off n sz =>
    match ats[0]? with
    | none => .bad
    | some t =>
      match elemT T t with
      | none => .bad
      | some i =>
        match srcR ob x i.size, ob sid with
        | some (m, news, rd), some o =>
          bif Nat.blt 0 m then
            .ok (.sl false id 0 (n + m) i.size) [(id, some ((o.sub off (n * i.size)).app news))] [id] (sid :: rd) (ats = #[t, t] ∧ news.cells.length = m * i.size ∧ off + n * i.size ≤ o.cells.length ∧ sz = i.size ∧ n + m ≤ 1099511627776 ∧ i.bytes ≤ 128)
          else appendR T ob ats s x id
        | _, _ => .bad
  | s => appendR T ob ats s x id
theorem appendX_sound (hT : TOk P T) (hrep : Rep w ρ ob) (x y : Operand) (ats : Array TypeId) (ev : Operand → Value) (dx dy : D) (vx vy : Value) (hvx : ev x = vx) (hvy : ev y = vy) (hx : RD w (Own ρ ob) ρ vx dx) (hy : RD w (Own ρ ob) ρ vy dy) (o : Oper)
    (ho : o.op = .call { callee := .builtin .append, args := #[x, y], argTypes := ats }) (id : Nat) :
    Outs ((execOp ev o).run P w) w ρ ob (appendX T ob ats dx dy id) := by
  have hrun : ∀ v w', (Builtin.append_ ats o.type #[vx, vy]).run P w = .ok v w' → (execOp ev o).run P w = .ok (.value v) w' := fun v w' hv =>
    run_call ev o .append #[x, y] ats ho _ _ Builtin.append_ (fun _ => rfl) (by simpa [hvx, hvy] using hv)
  unfold appendX
  split
  · rename_i sid off n room sz
    split
    · exact .bad
    rename_i t ht
    split
    · exact .bad
    rename_i i hi
    obtain ⟨e, h1, h2⟩ := elemT_ok hT hi
    obtain ⟨j, z, g1, g2, g3, g4, g5, g6⟩ := hT.info h2
    split
    · rename_i m news rd ao hsrc hao
      cases hroom : Nat.ble (n + m) room with
      | false => simp only [cond_false]; exact append_sound hT hrep x y ats ev _ dy vx vy hvx hvy hx.norm hy o ho id
      | true =>
        simp only [cond_true]
        have hroom := Nat.le_of_ble_eq_true hroom
        intro d wr al rd' side he hs hal
        simp only [R.ok.injEq] at he
        obtain ⟨rfl, rfl, rfl, rfl, rfl⟩ := he
        obtain ⟨s1, s2, s3, s4⟩ := hs
        subst s4 s1
        have hadd : (n + m) * i.size = n * i.size + m * i.size := Nat.add_mul _ _ _
        have hxl := extO_len ao (off + (n + m) * i.size)
        have hxg := extO_get ao (off + (n + m) * i.size)
        have hx0 := extO_le ao (off + (n + m) * i.size)
        generalize hao2 : extO ao (off + (n + m) * i.size) = ao2 at hxl hxg hx0
        have hupd : upd ob [(sid, some (putO ao2 (off + n * i.size) news))] = fun j => if j = sid then some (putO ao2 (off + n * i.size) news) else ob j := rfl
        have hS := src_sound hrep hy hsrc s2
        have hnone : m = 0 → (Builtin.append_ #[t, t] o.type #[vx, vy]).run P w = .ok vx w → Out ((execOp ev o).run P w) w ρ ob (.slr sid off (n + m) room i.size) [(sid, some (putO ao2 (off + n * i.size) news))] [] := by
          intro h0 hr
          subst h0
          have hn0 : news.cells = [] := List.eq_nil_of_length_eq_zero (by simpa using s2)
          have hc : (putO ao2 (off + n * i.size) news).cells = ao.cells := by rw [putO_cells, hn0, hx0 (by simpa using s3)]; simp [putD]
          obtain ⟨n1, n2⟩ := hrep.cut' (o' := putO ao2 (off + n * i.size) news) hao ao.cells.length (by rw [hc]; simp)
          exact ⟨_, w, ρ, .inl (hrun _ _ hr), by rw [hupd]; exact hx.evo n2, by rw [hupd]; exact n1, by rw [hupd]; exact n2, fun _ _ => rfl⟩
        have hemp : m = 0 → (Builtin.append_ #[t, t] o.type #[vx, vy]).run P w = .ok vx w := by
          intro h0
          subst h0
          have hx' : ∃ a c, vx = .slice a n c ∧ n ≤ c := by
            cases hx with
            | slr _ _ _ _ _ b o' cap hr q1 q2 q3 q4 => exact ⟨_, _, rfl, Nat.le_trans q1 q2⟩
            | slrN => exact ⟨_, _, rfl, Nat.le_refl _⟩
          obtain ⟨a, c, rfl, hac⟩ := hx'
          rcases hS with ⟨rfl, _⟩ | ⟨a', cap', vs, rfl, f1, f2, f3, f4⟩
          · exact run_append_empty t o.type e j h1 g1 a n c hac
          · have hf := run_firstCells_some (P := P) w j.size 0 a' 0 cap' vs (by rw [f1, g2]) f2
            have hv0 : vs = [] := List.eq_nil_of_length_eq_zero (by simpa using f1)
            subst hv0
            cases a <;> simp [Builtin.append_, run_underlying h1, sizeOf, typeInfo, g1, Builtin.lenOf, hf, hac, storeCells]
        rcases Nat.eq_zero_or_pos m with hm0 | hm0
        · exact hnone hm0 (hemp hm0)
        · cases hx with
          | slrN => exfalso; omega
          | slr _ _ _ _ _ b o' cap hr q1 q2 q3 q4 =>
            have hoff : o' = off ∧ off + cap * i.size ≤ bsz w b := by
              rcases q4 with q4 | q4
              · exfalso; omega
              · exact q4
            obtain ⟨rfl, hfit⟩ := hoff
            obtain ⟨q0, hq0, hro⟩ := hrep.obj sid ao hao
            rw [hr] at hq0; cases hq0
            obtain ⟨c, e2, hb, hlc, hc⟩ := hro
            have hbs : bsz w b = c.size := by simp [bsz, hb]
            have hcp : (n + m) * i.size ≤ cap * i.size := Nat.mul_le_mul_right _ (by omega)
            rcases hS with ⟨_, h0⟩ | ⟨a', cap', vs, rfl, f1, f2, f3, f4⟩
            · exfalso; omega
            · have hr2 := run_append_in (P := P) (w := w) t o.type e e2 j h1 g1 b o' n cap c hb a' m cap' vs (by rw [f1, g2]) f2 f3 (by omega) (by rw [f1, g2]; omega)
              rw [g2] at hr2
              obtain ⟨w1, w2⟩ := write_step (w' := w.setRow b (c.toList.take (o' + n * i.size) ++ vs ++ c.toList.drop (o' + n * i.size + vs.length)).toArray) (o' := putO ao2 (o' + n * i.size) news) hrep hao hr hb (setRow_eq w b c _ e2 hb) (by simp; omega) (by rw [putO_cells, putD_len]; simp; omega) (fun k d hk => by
                have hnl : news.cells.length = vs.length := by rw [s2, f1]
                rw [putO_cells, putD_get _ _ _ _ (by omega)] at hk
                rw [splice_get c vs (o' + n * i.size) k (by omega), ← hnl]
                split at hk
                · rename_i hcond
                  rw [if_pos hcond]
                  obtain ⟨u, hu, hd⟩ := f4.get hk
                  exact ⟨u, hu, f3 u (List.mem_of_getElem? hu), hd⟩
                · rename_i hcond
                  rw [if_neg hcond]
                  have hk2 : k < ao2.cells.length := by
                    rcases Nat.lt_or_ge k ao2.cells.length with hh | hh
                    · exact hh
                    · rw [List.getElem?_eq_none hh] at hk; cases hk
                  rw [hxg k (by omega)] at hk
                  exact hc k d hk)
              refine ⟨_, _, ρ, .inl (hrun _ _ hr2), ?_, by rw [hupd]; exact w1, by rw [hupd]; exact w2, fun _ _ => rfl⟩
              exact .slr _ _ _ _ _ _ _ _ hr hroom q2 q3 (.inr ⟨rfl, by rw [w2.bsz b (Array.getElem?_eq_some_iff.1 hb).1]; exact hfit⟩)
    · exact .bad
  · rename_i sid off n sz
    split
    · exact .bad
    rename_i t ht
    split
    · exact .bad
    rename_i i hi
    obtain ⟨e, h1, h2⟩ := elemT_ok hT hi
    obtain ⟨j, z, g1, g2, g3, g4, g5, g6⟩ := hT.info h2
    split
    · rename_i m news rd ao hsrc hao
      cases hm0 : Nat.blt 0 m with
      | false => simp only [cond_false]; exact append_sound hT hrep x y ats ev _ dy vx vy hvx hvy hx hy o ho id
      | true =>
        simp only [cond_true]
        have hm0 : 0 < m := by simpa [Nat.blt_eq] using hm0
        intro d wr al rd' side he hs hal
        simp only [R.ok.injEq] at he
        obtain ⟨rfl, rfl, rfl, rfl, rfl⟩ := he
        obtain ⟨s1, s2, s3, s4, s6, s7⟩ := hs
        subst s4 s1
        have hid := hal id (by simp)
        have hS := src_sound hrep hy hsrc s2
        have hzc : ∀ k, (Builtin.zeroCells z.cells k).size = k * i.size := by intro k; rw [size_zeroCells, g6]
        have bound := append_bound (i := i) g3
        have hupd : upd ob [(id, some ((ao.sub off (n * i.size)).app news))] = fun j => if j = id then some ((ao.sub off (n * i.size)).app news) else ob j := rfl
        unfold Out
        rw [hupd]
        cases hx with
        | slN f sid off sz hr =>
          obtain ⟨v, w', ρ', a1, a2, a3, a4, a5⟩ := append_onNil (r := (execOp ev o).run P w) h1 g1 g2 g3 g4 g6 hS hrun ob ((ao.sub off (0 * i.size)).app news) hrep (Evo.refl _ _ _) hid s2 (by omega) s7 (by rw [AObj.app_cells, AObj.sub_cells]; simp)
          exact ⟨v, w', ρ', .inl a1, by rw [Nat.zero_add]; exact a2, a3, a4, a5⟩
        | sl f sid off n sz b o' cap hr a1 a2 a3 a4 =>
          have hcap := a2 rfl
          subst hcap
          obtain ⟨q0, hq0, hro⟩ := hrep.obj sid ao hao
          rw [hr] at hq0; cases hq0
          obtain ⟨c, e2, hb, hlc, hc⟩ := hro
          rcases hS with ⟨_, h0⟩ | ⟨a', cap', vs, rfl, f1, f2, f3, f4⟩
          · exfalso; omega
          · obtain ⟨os, k1, k2, k3⟩ := cells_list (f := fun k => w.cell? ⟨b, off + k, none⟩) (cs := (ao.sub off (cap * i.size)).cells) (R := RD w (Own ρ ob) ρ) (fun k d hk => by
              rw [AObj.sub_cells, List.getElem?_take] at hk
              split at hk
              · rw [List.getElem?_drop] at hk
                obtain ⟨u, u1, u2, u3⟩ := hc _ d hk
                exact ⟨u, by rw [cell_of_row w b _ c e2 _ hb]; exact u1, u2, u3⟩
              · cases hk)
            have hsl : (ao.sub off (cap * i.size)).cells.length = cap * i.size := by rw [AObj.sub_cells]; simp; omega
            have hr2 := run_append_grow (P := P) w t o.type e j z h1 g1 g4 ⟨b, o', none⟩ cap cap os (by rw [k1, hsl, g2]) (fun k v hv => by
              have hk : k < os.length := by
                rcases Nat.lt_or_ge k os.length with hh | hh
                · exact hh
                · rw [List.getElem?_eq_none hh] at hv; cases hv
              have ho' : o' = off := by
                rcases a4 with a4 | a4
                · exfalso; rw [k1, hsl, a4] at hk; simp at hk
                · exact a4.1
              rw [ho', addr_add]
              exact (k2 k v hv).1) a' m cap' vs (by rw [f1, g2]) f2 (by omega) (by omega) (growslice_fits (by omega) (bound _ s6 s7))
            have hall : RDs w (Own ρ ob) ρ (os ++ vs) ((ao.sub off (cap * i.size)).app news).cells := by
              rw [AObj.app_cells]; exact RDs.app (RDs.mk k1 k3) f4
            obtain ⟨v, w', ρ', b1, b2, b3, b4, b5⟩ := grow_out (ob := ob) hrep (Evo.refl _ _ _) hid (os ++ vs) _ hall (fun u hu => by
              rcases List.mem_append.1 hu with hu | hu
              · obtain ⟨j, hj, rfl⟩ := List.mem_iff_getElem.1 hu
                exact (k2 j _ (List.getElem?_eq_getElem hj)).2
              · exact f3 u hu) (os.toArray ++ vs.toArray) _ (cap + m) (grownCap w (cap + m) cap e) i.size e (by simp) (by rw [List.length_append, k1, hsl, f1, Nat.add_mul]) (hzc _) (grownCap_ge w _ _ e) (grownCap_le_maxLen w _ _ e (by simp only [maxLen]; omega)) (hrun _ _ hr2)
            exact ⟨v, w', ρ', .inl b1, b2, b3, b4, b5⟩
    · exact .bad
  · exact append_sound hT hrep x y ats ev _ dy vx vy hvx hvy hx hy o ho id
end ops
def appendY (T : Tab) (ob : Ob) (ats : Array TypeId) (s x : D) (id : Nat) : R :=
  match s, x with
  | .v .nl, .v (.int _ n) =>
    match ats.toList with
    | [t, t2] =>
      match elemT T t, intK (tl T t2) with
      | some i, some _ => .ok (.sl false id 0 n.toNat i.size) [(id, some (.p []))] [id] [] (0 ≤ n ∧ n ≤ 1099511627776 ∧ i.bytes ≤ 128)
      | _, _ => .bad
    | _ => .bad
  | .sl true sid off n sz, .v (.fn f [.bool false]) =>
    bif (f == 999999) && (n == 0) then (match ats.toList with | [t, t2] => (match elemT T t with | some _ => bif t == t2 then .val (.sl true sid off 0 sz) True else .bad | none => .bad) | _ => .bad) else .bad
  | s, x => appendX T ob ats s x.norm id
theorem run_append_make {P : Program} (w : World) (t t2 ty e : TypeId) (kk : IntKind) (i : TypeInfo) (z : Value) (ht : P.underlying t = some (.slice e)) (ht2 : P.underlying t2 = some (.int kk)) (hi : P.info? e = some i) (hz : i.zero = some z)
    (k : IntKind) (n : Int) (h0 : 0 < n) (h1 : n ≤ 1099511627776) (h48 : n.toNat * i.bytes ≤ 140737488355328) (hzs : z.cells.size = i.size) :
    ∃ cs : Array Value, cs.size = grownCap w n.toNat 0 e * i.size ∧ (Builtin.append_ #[t, t2] ty #[.slice none 0 0, .int k n]).run P w =
      .ok (.slice (some ⟨w.heap.size, 0, none⟩) n.toNat (grownCap w n.toNat 0 e)) (w.drew.alloc (.cells cs e)) := by
  obtain ⟨m, rfl⟩ : ∃ m : Nat, n = (m : Int) := ⟨n.toNat, by omega⟩
  have hm : m ≠ 0 := by omega
  have hm' : 0 < m := by omega
  rw [Int.toNat_natCast] at h48 ⊢
  have hwr : IntKind.i64.wrap (m : Int) = (m : Int) := by
    simp only [IntKind.wrap, IntKind.signed, IntKind.bits]
    simp
    omega
  have hmz : i.size ≠ 0 → m * i.size ≠ 0 := fun h => Nat.mul_ne_zero hm h
  have h63' : ¬ (9223372036854775807 < (m : Int)) := by omega
  have hb : (m : Int) * (i.bytes : Int) ≤ 140737488355328 := by
    have h : ((m * i.bytes : Nat) : Int) ≤ 140737488355328 := by omega
    rwa [Int.natCast_mul] at h
  have h48a : ¬ (281474976710656 < (m : Int) * (i.bytes : Int)) := by omega
  have h48' : ¬ (281474976710656 < Builtin.nextslicecap m 0 * i.bytes) := by rw [nextslicecap_zero hm']; omega
  have hneg : ¬ ((m : Int) < 0) := by omega
  have hge := grownCap_ge w m 0 e
  by_cases hs : i.size = 0
  · refine ⟨Builtin.zeroCells z.cells (grownCap w m 0 e - m), by rw [size_zeroCells, hzs, hs]; simp, ?_⟩
    simp [Builtin.append_, run_underlying ht, run_underlying ht2, sizeOf, typeInfo, zeroValue, hi, hz, asInt, asIntOf, hwr, hneg, h48a, hm, h63', h48', Question.forced, run_firstCells_none, newRow, grownCap, hs]
  · refine ⟨Builtin.zeroCells z.cells m ++ Builtin.zeroCells z.cells (grownCap w m 0 e - m), by rw [Array.size_append, size_zeroCells, size_zeroCells, hzs, ← Nat.add_mul]; congr 1; omega, ?_⟩
    have hmz := hmz hs
    simp [Builtin.append_, hmz, run_underlying ht, run_underlying ht2, sizeOf, typeInfo, zeroValue, hi, hz, asInt, asIntOf, hwr, hneg, h48a, hm, h63', h48', Question.forced, run_firstCells_none, newRow, grownCap, hs]
theorem run_append_make0 {P : Program} (w : World) (t t2 ty e : TypeId) (kk : IntKind) (i : TypeInfo) (ht : P.underlying t = some (.slice e)) (ht2 : P.underlying t2 = some (.int kk)) (hi : P.info? e = some i) (k : IntKind) :
    (Builtin.append_ #[t, t2] ty #[.slice none 0 0, .int k 0]).run P w = .ok (.slice none 0 0) w := by
  have hwr : IntKind.i64.wrap 0 = 0 := by decide
  simp [Builtin.append_, run_underlying ht, run_underlying ht2, sizeOf, typeInfo, hi, asInt, asIntOf, hwr]
theorem appendY_sound {P : Program} {T : Tab} {w : World} {ρ : Rho} {ob : Ob} (hT : TOk P T) (hrep : Rep w ρ ob) (x y : Operand) (ats : Array TypeId) (ev : Operand → Value) (dx dy : D) (vx vy : Value) (hvx : ev x = vx) (hvy : ev y = vy) (hx : RD w (Own ρ ob) ρ vx dx) (hy : RD w (Own ρ ob) ρ vy dy) (o : Oper)
    (ho : o.op = .call { callee := .builtin .append, args := #[x, y], argTypes := ats }) (id : Nat) :
    Outs ((execOp ev o).run P w) w ρ ob (appendY T ob ats dx dy id) := by
  unfold appendY
  split
  · rename_i k n
    split
    · rename_i t t2 hats
      have hA : ats = #[t, t2] := by
        have : ats = ats.toList.toArray := by simp
        rw [this, hats]
      split
      · rename_i i kk hi hk
        obtain ⟨e, h1, h2⟩ := elemT_ok hT hi
        obtain ⟨j, z, g1, g2, g3, g4, g5, g6⟩ := hT.info h2
        obtain ⟨i2, hi2, hik⟩ := intK_some hk
        have hu2 := hT.int hi2 hik
        have hrun : ∀ v w', (Builtin.append_ ats o.type #[vx, vy]).run P w = .ok v w' → (execOp ev o).run P w = .ok (.value v) w' := fun v w' hv =>
          run_call ev o .append #[x, y] ats ho _ _ Builtin.append_ (fun _ => rfl) (by simpa [hvx, hvy] using hv)
        cases hx with | v _ _ hx =>
        cases hx
        cases hy with | v _ _ hy =>
        cases hy
        rw [hA] at hrun
        intro d wr al rd' side he hs hal
        simp only [R.ok.injEq] at he
        obtain ⟨rfl, rfl, rfl, rfl, rfl⟩ := he
        obtain ⟨s1, s2, s3⟩ := hs
        have hid : ρ id = none := hal id (by simp)
        have key : ∃ v w' ρ', (execOp ev o).run P w = .ok (.value v) w' ∧ RD w' (Own ρ' (fun j => if j = id then some (AObj.p []) else ob j)) ρ' v (.sl false id 0 n.toNat i.size) ∧ Rep w' ρ' (fun j => if j = id then some (AObj.p []) else ob j) ∧ Evo w ρ ob w' ρ' (fun j => if j = id then some (AObj.p []) else ob j) ∧ ∀ i, i ∉ [id] → ρ' i = ρ i := by
          rcases Int.lt_or_eq_of_le s1 with hn | hn
          · have hb := append_bound (j := j) (i := i) g3 n.toNat (by omega) s3
            obtain ⟨cs, c1, c2⟩ := run_append_make (P := P) w t t2 o.type e kk j z h1 hu2 g1 g4 k n hn s2 hb (by rw [g6, g2])
            have hd : Evo w ρ ob w.drew ρ ob := Evo.drew w ρ ob
            have hrep3 : Rep w.drew ρ ob := hrep.of_evo_same hd (fun _ _ => rfl)
            obtain ⟨q1, q2⟩ := alloc_step (id := id) (c := cs) (e := e) (o := AObj.p []) hrep3 hid (by simp [AObj.cells]) (fun j d hj => by simp [AObj.cells] at hj)
            refine ⟨_, _, _, hrun _ _ c2, ?_, q1, hd.trans q2, fun i hi => by simp at hi; simp [hi]⟩
            refine .sl false id 0 n.toNat i.size w.heap.size 0 (grownCap w n.toNat 0 e) (by simp) (grownCap_ge w n.toNat 0 e) (fun h => by cases h) (grownCap_le_maxLen w n.toNat 0 e (by simp only [maxLen]; omega)) (.inr ⟨rfl, ?_⟩)
            unfold bsz
            rw [show w.heap.size = w.drew.heap.size from rfl, heap_alloc_new w.drew _]
            simp only [c1, g2, Nat.zero_add]
            exact Nat.le_refl _
          · subst hn
            obtain ⟨n1, n2⟩ := hrep.nilobj (o := AObj.p []) hid rfl
            exact ⟨_, w, _, hrun _ _ (run_append_make0 w t t2 o.type e kk j h1 hu2 g1 k), .slN false id 0 i.size (by simp), n1, n2, fun q hq => by simp at hq; simp [hq]⟩
        obtain ⟨v, w', ρ', k1, k2, k3, k4, k5⟩ := key
        exact ⟨v, w', ρ', .inl k1, k2, k3, k4, k5⟩
      · exact .bad
    · exact .bad
  · rename_i sid off n sz f
    cases hb : (f == 999999) && (n == 0) with
    | false => exact .bad
    | true =>
    simp only [Bool.and_eq_true] at hb
    have hn0 := beq_iff_eq.1 hb.2
    subst hn0
    simp only [cond_true]
    split
    · rename_i t t2 hats
      split
      · rename_i i hi
        cases htt : t == t2 with
        | false => exact .bad
        | true =>
        have htt := beq_iff_eq.1 htt
        subst htt
        have hA : ats = #[t, t] := by
          have : ats = ats.toList.toArray := by simp
          rw [this, hats]
        obtain ⟨e, h1, h2⟩ := elemT_ok hT hi
        obtain ⟨j, z, g1, g2, g3, g4, g5, g6⟩ := hT.info h2
        have hrun : ∀ v w', (Builtin.append_ ats o.type #[vx, vy]).run P w = .ok v w' → (execOp ev o).run P w = .ok (.value v) w' := fun v w' hv =>
          run_call ev o .append #[x, y] ats ho _ _ Builtin.append_ (fun _ => rfl) (by simpa [hvx, hvy] using hv)
        rw [hA] at hrun
        cases hy with | v _ _ hy =>
        have hy2 : RD w (Own ρ ob) ρ vy (.v (.lst false 0 [])) := .v _ _ (RP_nn_lst hy hb.1 false rfl)
        have hS := src_sound (sz := i.size) (m := 0) (news := .p []) (rd := []) hrep hy2 rfl (by simp [AObj.cells])
        have hemp : (Builtin.append_ #[t, t] o.type #[vx, vy]).run P w = .ok vx w := by
          have hx' : ∃ a c, vx = .slice a 0 c := by
            cases hx with
            | sl _ _ _ _ _ b o' cap hr q1 q2 q3 q4 => exact ⟨_, _, rfl⟩
            | slN => exact ⟨_, _, rfl⟩
          obtain ⟨a, c, rfl⟩ := hx'
          rcases hS with ⟨rfl, _⟩ | ⟨a', cap', vs, rfl, f1, f2, f3, f4⟩
          · exact run_append_empty t o.type e j h1 g1 a 0 c (Nat.zero_le _)
          · have hf := run_firstCells_some (P := P) w j.size 0 a' 0 cap' vs (by rw [f1, g2]) f2
            have hv0 : vs = [] := List.eq_nil_of_length_eq_zero (by simpa using f1)
            subst hv0
            cases a <;> simp [Builtin.append_, run_underlying h1, sizeOf, typeInfo, g1, Builtin.lenOf, hf, storeCells]
        exact .val hrep fun _ => ⟨vx, hrun _ _ hemp, hx⟩
      · exact .bad
    · exact .bad
  · exact appendX_sound hT hrep x y ats ev _ _ vx vy hvx hvy hx hy.norm o ho id
def capR (T : Tab) (argTypes : Array TypeId) (x : D) : R :=
  match argTypes[0]? with
  | some t => bif isSlice (tl T t) then (match x with | .v .nl => .val (.v (.int .i64 0)) True | _ => .bad) else .bad
  | none => .bad
theorem cap_sound {P : Program} {T : Tab} {w : World} {ρ : Rho} {ob : Ob} (hT : TOk P T) (hrep : Rep w ρ ob) (x : Operand) (ats : Array TypeId) (ev : Operand → Value) (dx : D) (vx : Value) (hvx : ev x = vx) (hx : RD w (Own ρ ob) ρ vx dx) (o : Oper)
    (ho : o.op = .call { callee := .builtin .cap, args := #[x], argTypes := ats }) :
    Outs ((execOp ev o).run P w) w ρ ob (capR T ats dx) := by
  unfold capR
  split
  · rename_i t ht
    cases hs : isSlice (tl T t) with
    | false => exact .bad
    | true =>
      obtain ⟨e, he⟩ := isSlice_ok hT hs
      have hrun : ∀ a n c, vx = .slice a n c → (execOp ev o).run P w = .ok (.value (.int .i64 c)) w := by
        intro a n c hv
        refine run_call ev o .cap #[x] ats ho _ _ Builtin.cap_ (fun _ => rfl) ?_
        simp [Builtin.cap_, ht, hvx, hv, run_underlying he, goInt]
      simp only [cond_true]
      split
      · cases hx with | v _ _ hx =>
        cases hx
        exact .val hrep fun _ => ⟨_, hrun _ _ _ rfl, .v _ _ (.int _ _)⟩
      · exact .bad
  · exact .bad
end Go.V
