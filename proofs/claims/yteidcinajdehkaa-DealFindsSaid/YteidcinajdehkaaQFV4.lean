/-
  THE ENGINE, PART 4: the operations, continued: stores, new blocks, slices, places, built-ins.
-/
import Derived.Test.YteidcinajdehkaaQFV3
set_option linter.unusedSimpArgs false
set_option linter.unusedVariables false
namespace Go.V
section ops
variable {P : Program} {T : Tab} {w : World} {ρ : Rho} {ob : Ob}
def fieldAt : List (Nat × TypeId) → Nat → Option (Nat × TypeId)
  | [], _ => none
  | f :: _, 0 => some f
  | _ :: l, n + 1 => fieldAt l n
theorem fieldAt_get : ∀ (l : List (Nat × TypeId)) (n : Nat), fieldAt l n = l[n]?
  | [], _ => by simp [fieldAt]
  | _ :: _, 0 => by simp [fieldAt]
  | _ :: l, n + 1 => by simp [fieldAt, fieldAt_get l n]
def structF (i : Option TI) (f : Nat) : Option (Nat × TypeId) :=
  match i with
  | some ⟨.struct fs, _, _, _⟩ => fieldAt fs f
  | _ => none
def fieldAddrR (T : Tab) (s : TypeId) (f : Nat) (x : D) : R :=
  match structF (tl T s) f with
  | none => .bad
  | some (off, _) =>
    match x with
    | .v (.ipt cs) => .val (.v (.ipt (cs.drop off))) True
    | .ptr id o => .val (.ptr id (o + off)) True
    | _ => .bad
theorem structF_ok (hT : TOk P T) {s : TypeId} {f off : Nat} {ty : TypeId} (h : structF (tl T s) f = some (off, ty)) :
    ∃ (fields : Array Field) (fd : Field), P.underlying s = some (.struct fields) ∧ fields[f]? = some fd ∧ fd.offset = off ∧ fd.type = ty ∧ ∃ i, P.info? ty = some i ∧ i.size ≠ 0 := by
  unfold structF at h
  split at h
  · rename_i fs i1 i2 i3 hi
    obtain ⟨d, hd, hb⟩ := hT.desc hi
    cases d <;> simp only [kb, Bool.and_eq_true, beq_iff_eq, Bool.false_eq_true, List.all_eq_true, decide_eq_true_eq] at hb
    rename_i fields
    rw [fieldAt_get, ← hb.1] at h
    simp only [List.getElem?_map] at h
    cases hf : fields.toList[f]? with
    | none => simp [hf] at h
    | some fd =>
      simp only [hf, Option.map_some, Option.some.injEq, Prod.mk.injEq] at h
      have hm := (hb.2 fd (List.mem_of_getElem? hf)).1
      rw [h.2] at hm
      refine ⟨fields, fd, hd, by simpa using hf, h.1, h.2, ?_⟩
      cases hi : P.info? ty with
      | none => simp [hi] at hm
      | some i => exact ⟨i, rfl, by simpa [hi] using hm⟩
  · cases h
theorem fieldAddr_sound (hT : TOk P T) (hrep : Rep w ρ ob) (s : TypeId) (f : Nat) (x : Operand) (ev : Operand → Value) (dx : D) (vx : Value) (hvx : ev x = vx) (hx : RD w (Own ρ ob) ρ vx dx) (o : Oper) (ho : o.op = .fieldAddr s x f) :
    Outs ((execOp ev o).run P w) w ρ ob (fieldAddrR T s f dx) := by
  unfold fieldAddrR
  split
  · exact .bad
  · rename_i off ty hs
    obtain ⟨fields, fd, h1, h2, h3, h4, i, h5, h6⟩ := structF_ok hT hs
    have hrun : ∀ b q, vx = .pointer (some ⟨b, q, none⟩) → (execOp ev o).run P w = .ok (.value (.pointer (some ⟨b, q + off, none⟩))) w := by
      intro b q hv
      simp [execOp, ho, hvx, hv, Instr.fieldAt, run_underlying h1, h2, Instr.sureAddr, fieldPlace, sizeOf, typeInfo, h4, h5, h6, h3, addr_add]
    split
    · rename_i cs
      cases hx with | v _ _ hx =>
      cases hx with
      | ipt b q cs hc => exact .val hrep fun _ => ⟨_, hrun b q rfl, .v _ _ (.ipt b (q + off) _ (hc.drop off))⟩
    · rename_i id q
      cases hx with
      | ptr id q b hr => exact .val hrep fun _ => ⟨_, hrun b q rfl, .ptr _ _ _ hr⟩
    · exact .bad
def elemOfT (T : Tab) (ty : TypeId) : Option (Option Nat × Nat) :=   -- (array's length, element's cells)
  match tl T ty with
  | some ⟨.slice e, _, _, _⟩ => (match tl T e with | some i => some (none, i.size) | none => none)
  | some ⟨.arr n e, _, _, _⟩ => (match tl T e with | some i => some (some n, i.size) | none => none)
  | _ => none
theorem elem_slice (hT : TOk P T) {ty : TypeId} {sz : Nat} (h : elemOfT T ty = some (none, sz)) : ∃ e i, P.underlying ty = some (.slice e) ∧ tl T e = some i ∧ i.size = sz := by
  unfold elemOfT at h
  split at h
  · rename_i e i1 i2 i3 hi
    split at h
    · rename_i j hj; simp at h; exact ⟨e, j, hT.slice hi rfl, hj, h⟩
    · cases h
  · split at h <;> simp at h
  · cases h
theorem elem_arr (hT : TOk P T) {ty : TypeId} {n sz : Nat} (h : elemOfT T ty = some (some n, sz)) : ∃ e i, P.underlying ty = some (.array n e) ∧ tl T e = some i ∧ i.size = sz := by
  unfold elemOfT at h
  split at h
  · split at h <;> simp at h
  · rename_i n' e i1 i2 i3 hi
    split at h
    · rename_i j hj; simp at h; obtain ⟨rfl, rfl⟩ := h; exact ⟨e, j, hT.arr hi rfl, hj, rfl⟩
    · cases h
  · cases h
def indexAddrR (T : Tab) (ty : TypeId) (x i : D) : R :=
  match elemOfT T ty, i with
  | some (none, sz), .v (.int _ j) =>
    match x with
    | .v (.lst _ n cs) => .val (.v (.ipt (cs.drop (j.toNat * sz)))) (0 ≤ j ∧ j < n)
    | .sl _ id off n sz' => .val (.ptr id (off + j.toNat * sz)) (0 ≤ j ∧ j < n ∧ sz' = sz ∧ 0 < sz)
    | _ => .bad
  | some (some n, sz), .v (.int _ j) =>
    match x with
    | .v (.ipt cs) => .val (.v (.ipt (cs.drop (j.toNat * sz)))) (0 ≤ j ∧ j < n)
    | .ptr id off => .val (.ptr id (off + j.toNat * sz)) (0 ≤ j ∧ j < n)
    | _ => .bad
  | _, _ => .bad
theorem indexAddr_sound (hT : TOk P T) (hrep : Rep w ρ ob) (ty : TypeId) (x y : Operand) (ev : Operand → Value) (dx dy : D) (vx vy : Value) (hvx : ev x = vx) (hvy : ev y = vy) (hx : RD w (Own ρ ob) ρ vx dx) (hy : RD w (Own ρ ob) ρ vy dy) (o : Oper) (ho : o.op = .indexAddr ty x y) :
    Outs ((execOp ev o).run P w) w ρ ob (indexAddrR T ty dx dy) := by
  unfold indexAddrR
  split
  · rename_i sz k j he
    obtain ⟨e, ti, h1, h2, h3⟩ := elem_slice hT he
    cases hy with | v _ _ hy =>
    cases hy
    have hrun : ∀ b q n cap, vx = .slice (some ⟨b, q, none⟩) n cap → 0 ≤ j → j < n → (execOp ev o).run P w = .ok (.value (.pointer (some ⟨b, q + j.toNat * sz, none⟩))) w := by
      intro b q n cap hv h0 hj
      simp [execOp, ho, hvx, hvy, hv, Instr.indexAt, asIntOf, run_underlying h1, h0, hj, hT.sizeOf h2, h3, addr_add]
    split
    · rename_i f n cs
      cases hx with | v _ _ hx =>
      cases hx with
      | lstN f => exact .val hrep fun h => absurd h (by omega)
      | lst0 f => exact .val hrep fun h => absurd h (by omega)
      | lst f n cap b q cs a1 a2 a3 hc => exact .val hrep fun h => ⟨_, hrun b q n cap rfl h.1 h.2, .v _ _ (.ipt _ _ _ (hc.drop _))⟩
    · rename_i f id off n sz'
      cases hx with
      | slN => exact .val hrep fun h => absurd h.2.1 (by have := h.1; omega)
      | sl f id off n sz' b q cap hr a1 a2 a3 a4 =>
        refine .val hrep fun h => ?_
        rcases a4 with a4 | ⟨rfl, a4⟩
        · exfalso; have := h.1; have := h.2.1; omega
        · exact ⟨_, hrun b q n cap rfl h.1 h.2.1, .ptr _ _ _ hr⟩
    · exact .bad
  · rename_i n sz k j he
    obtain ⟨e, ti, h1, h2, h3⟩ := elem_arr hT he
    cases hy with | v _ _ hy =>
    cases hy
    have hrun : ∀ b q, vx = .pointer (some ⟨b, q, none⟩) → 0 ≤ j → j < n → (execOp ev o).run P w = .ok (.value (.pointer (some ⟨b, q + j.toNat * sz, none⟩))) w := by
      intro b q hv h0 hj
      simp [execOp, ho, hvx, hvy, hv, Instr.indexAt, Instr.sureAddr, asIntOf, run_underlying h1, h0, hj, hT.sizeOf h2, h3, addr_add]
    split
    · rename_i cs
      cases hx with | v _ _ hx =>
      cases hx with
      | ipt b q cs hc => exact .val hrep fun h => ⟨_, hrun b q rfl h.1 h.2, .v _ _ (.ipt _ _ _ (hc.drop _))⟩
    · rename_i id off
      cases hx with
      | ptr id off b hr => exact .val hrep fun h => ⟨_, hrun b off rfl h.1 h.2, .ptr _ _ _ hr⟩
    · exact .bad
  · exact .bad
def putP (cs : List PV) (off : Nat) : List PV → List PV
  | [] => cs
  | p :: ps => putP (cs.set off p) (off + 1) ps
def putD (cs : List D) (off : Nat) : List D → List D
  | [] => cs
  | p :: ps => putD (cs.set off p) (off + 1) ps
def putO (o : AObj) (off : Nat) (x : AObj) : AObj :=
  match o, x with
  | .p cs, .p ps => .p (putP cs off ps)
  | .p cs, .r ds => .r (putD (cs.map .v) off ds)
  | .r cs, .p ps => .r (putD cs off (ps.map .v))
  | .r cs, .r ds => .r (putD cs off ds)
theorem putP_map : ∀ (ps cs : List PV) (off : Nat), (putP cs off ps).map D.v = putD (cs.map .v) off (ps.map .v)
  | [], _, _ => rfl
  | p :: ps, cs, off => by simp only [putP, putP_map ps, List.map_cons, putD, List.map_set]
theorem putO_cells (o x : AObj) (off : Nat) : (putO o off x).cells = putD o.cells off x.cells := by
  cases o <;> cases x <;> simp [putO, AObj.cells, putP_map]
theorem putD_len : ∀ (ds cs : List D) (off : Nat), (putD cs off ds).length = cs.length
  | [], _, _ => rfl
  | d :: ds, cs, off => by simp [putD, putD_len ds]
theorem putD_get : ∀ (ds cs : List D) (off j : Nat), off + ds.length ≤ cs.length → (putD cs off ds)[j]? = if off ≤ j ∧ j < off + ds.length then ds[j - off]? else cs[j]?
  | [], cs, off, j, _ => by simp [putD]; omega
  | d :: ds, cs, off, j, h => by
    simp only [List.length_cons] at h
    rw [putD, putD_get ds (cs.set off d) (off + 1) j (by simp; omega), List.getElem?_set]
    by_cases h1 : j = off
    · rw [if_neg (by omega), if_pos h1.symm, if_pos (by omega), if_pos (by simp only [List.length_cons]; omega), h1]; simp
    · by_cases h2 : off + 1 ≤ j ∧ j < off + 1 + ds.length
      · rw [if_pos h2, if_pos (by simp only [List.length_cons]; omega)]
        obtain ⟨k, rfl⟩ : ∃ k, j = off + (k + 1) := ⟨j - off - 1, by omega⟩
        rw [show off + (k + 1) - (off + 1) = k by omega, show off + (k + 1) - off = k + 1 by omega]
        simp
      · rw [if_neg h2, if_neg (fun h => h1 h.symm), if_neg (by simp only [List.length_cons]; omega)]
def storeR (T : Tab) (ob : Ob) (ty : TypeId) (x v : D) : R :=
  match tl T ty, x, boxD v with
  | some i, .ptr id off, some n =>
    match ob id with
    | some o => .ok .dead [(id, some (putO o off n))] [] [id] (n.cells.length = i.size ∧ off + n.cells.length ≤ o.cells.length)
    | none => .bad
  | _, _, _ => .bad
theorem setRow_eq (w : World) (g : Nat) (cur new : Array Value) (t : TypeId) (hg : w.heap[g]? = some (.cells cur t (0, 0))) :
    w.setRow g new = { w with heap := w.heap.setIfInBounds g (.cells new t (0, 0)) } := by
  have hlt := (Array.getElem?_eq_some_iff.1 hg).1
  cases w with
  | mk heap tape drawn os output =>
    unfold World.setRow
    congr 1
    apply Array.ext_getElem?
    intro i
    simp only [Array.getElem?_modify, Array.getElem?_setIfInBounds]
    by_cases hi : g = i
    · subst hi
      have hlt' : g < heap.size := hlt
      have hg' : heap[g] = .cells cur t (0, 0) := (Array.getElem?_eq_some_iff.1 (show heap[g]? = some (.cells cur t (0, 0)) from hg)).2
      simp [hlt', hg']
    · simp [hi]
theorem splice_get (c : Array Value) (vs : List Value) (off j : Nat) (h : off + vs.length ≤ c.size) :
    ((c.toList.take off ++ vs ++ c.toList.drop (off + vs.length)).toArray)[j]? = if off ≤ j ∧ j < off + vs.length then vs[j - off]? else c[j]? := by
  have hsz : c.toList.length = c.size := by simp
  simp only [List.getElem?_toArray, List.append_assoc, List.getElem?_append, List.length_take, hsz, List.getElem?_take, List.getElem?_drop]
  have hm : min off c.size = off := by omega
  rw [hm]
  by_cases h1 : j < off
  · simp [h1]; omega
  · rw [if_neg h1]
    by_cases h2 : j - off < vs.length
    · rw [if_pos h2, if_pos (by omega)]
    · rw [if_neg h2, if_neg (by omega), show off + vs.length + (j - off - vs.length) = j by omega]
      simp
theorem store_sound (hT : TOk P T) (hrep : Rep w ρ ob) (ty : TypeId) (x y : Operand) (ev : Operand → Value) (dx dy : D) (vx vy : Value) (hvx : ev x = vx) (hvy : ev y = vy) (hx : RD w (Own ρ ob) ρ vx dx) (hy : RD w (Own ρ ob) ρ vy dy) (o : Oper) (ho : o.op = .store ty x y) :
    Outs ((execOp ev o).run P w) w ρ ob (storeR T ob ty dx dy) := by
  unfold storeR
  split
  · rename_i i id off n hi hbx
    split
    · rename_i ao hao
      intro d wr al rd side he hs _
      simp only [R.ok.injEq] at he
      obtain ⟨rfl, rfl, rfl, rfl, rfl⟩ := he
      obtain ⟨hs1, hs2⟩ := hs
      obtain ⟨vs, hv1, hv2, hv3⟩ := box_cells hy hbx
      cases hx with
      | ptr id off b hr =>
        obtain ⟨q, hq, hro⟩ := hrep.obj id ao hao
        rw [hr] at hq; cases hq
        obtain ⟨c, e, hb, hl, hc⟩ := hro
        have hvl : vs.length = n.cells.length := hv3.len
        have hst := run_storeCells_at P b off e vs 0 c w hb (by omega) hv2
        have hrun : (execOp ev o).run P w = .ok .skip (w.setRow b (c.toList.take off ++ vs ++ c.toList.drop (off + vs.length)).toArray) := by
          have hsz : vs.length = i.size := hvl.trans hs1
          simp only [Nat.add_zero] at hst
          simp [execOp, ho, hvx, hvy, Instr.storeAt, Instr.sureAddr, storeVar, hT.sizeOf hi, hsz, hv1, hst]
        obtain ⟨h1, h2⟩ := write_step (w' := w.setRow b (c.toList.take off ++ vs ++ c.toList.drop (off + vs.length)).toArray) (o' := putO ao off n) hrep hao hr hb (setRow_eq w b c _ e hb) (by simp; omega) (by rw [putO_cells, putD_len]; simp; omega) (fun j d hj => by
          rw [putO_cells, putD_get _ _ _ _ (by omega)] at hj
          rw [splice_get c vs off j (by omega), hvl]
          split at hj
          · rename_i hcond
            rw [if_pos hcond]
            obtain ⟨u, hu, hd⟩ := hv3.get hj
            exact ⟨u, hu, hv2 u (List.mem_of_getElem? hu), hd⟩
          · rename_i hcond
            rw [if_neg hcond]
            exact hc j d hj)
        exact ⟨undef, _, ρ, .inr ⟨hrun, rfl⟩, .dead _, h1, h2, fun _ _ => rfl⟩
    · exact .bad
  · exact .bad
def boxR (x : D) (id : Nat) : R :=
  match boxD x with
  | some o => .ok (.ptr id 0) [(id, some o)] [id] [] True
  | none => .bad
theorem box_sound (hrep : Rep w ρ ob) (ty : TypeId) (x : Operand) (ev : Operand → Value) (dx : D) (vx : Value) (hvx : ev x = vx) (hx : RD w (Own ρ ob) ρ vx dx) (o : Oper) (ho : o.op = .box ty x) (id : Nat) :
    Outs ((execOp ev o).run P w) w ρ ob (boxR dx id) := by
  unfold boxR
  split
  · rename_i ao hb
    obtain ⟨vs, h1, h2, h3⟩ := box_cells hx hb
    refine .alloc fun _ => ⟨_, w, vx.cells, ty, hrep, Evo.refl _ _ _, ?_, by rw [h1]; simp [h3.len], ?_, fun ρ' ob' hr => .ptr id 0 w.heap.size hr⟩
    · simp [execOp, ho, hvx, Instr.box, newVar, newRow]
    · rw [h1]; exact h3.cells h2
  · exact .bad
def mkO : List D → List PV → Option (List PV)
  | [], acc => some acc.reverse
  | .v p :: ds, acc => mkO ds (p :: acc)
  | _ :: _, _ => none
def objOf (ds : List D) : AObj := match mkO ds [] with | some ps => .p ps | none => .r ds
theorem mkO_some : ∀ {ds : List D} {acc ps : List PV}, mkO ds acc = some ps → ps.map D.v = (acc.reverse.map D.v) ++ ds
  | [], acc, ps, h => by simp only [mkO, Option.some.injEq] at h; subst h; simp
  | .v p :: ds, acc, ps, h => by rw [mkO_some (ds := ds) h]; simp
  | .dead :: _, _, _, h => by simp [mkO] at h
  | .sl .. :: _, _, _, h => by simp [mkO] at h
  | .slr .. :: _, _, _, h => by simp [mkO] at h
  | .ptr .. :: _, _, _, h => by simp [mkO] at h
  | .agg .. :: _, _, _, h => by simp [mkO] at h
  | .tup .. :: _, _, _, h => by simp [mkO] at h
  | .fn .. :: _, _, _, h => by simp [mkO] at h
theorem objOf_cells (ds : List D) : (objOf ds).cells = ds := by
  unfold objOf
  cases h : mkO ds [] with
  | none => rfl
  | some ps => simpa [AObj.cells] using mkO_some h
theorem zbs_RDs {own : Nat → Prop} : ∀ {vs : List Value} {ds : List D}, zbs vs ds = true → RDs w own ρ vs ds ∧ ∀ u ∈ vs, u.oneCell' = true
  | [], [], _ => ⟨.nil, by simp⟩
  | [], _ :: _, h => by simp [zbs] at h
  | _ :: _, [], h => by simp [zbs] at h
  | x :: vs, d :: ds, h => by
    simp only [zbs, Bool.and_eq_true] at h
    obtain ⟨h1, h2⟩ := zbs_RDs (own := own) h.2
    have hx : RD w own ρ x d ∧ x.oneCell' = true := by
      have hz := h.1
      unfold zb at hz
      split at hz
      · rename_i k n k' n'
        simp only [Bool.and_eq_true, decide_eq_true_eq] at hz
        obtain ⟨rfl, rfl⟩ := hz
        exact ⟨.v _ _ (.int _ _), rfl⟩
      · rename_i b b'
        have := beq_iff_eq.1 hz; subst this
        exact ⟨.v _ _ (.bool _), rfl⟩
      · rename_i s s'
        simp only [Bool.and_eq_true, beq_iff_eq] at hz
        have : s = s' := by
          cases s with | mk d1 => cases s' with | mk d2 =>
          have e1 : d1 = #[] := Array.eq_empty_of_size_eq_zero hz.1
          have e2 : d2 = #[] := Array.eq_empty_of_size_eq_zero hz.2
          rw [e1, e2]
        subst this
        exact ⟨.v _ _ (.str _), rfl⟩
      · exact ⟨.v _ _ .nl, rfl⟩
      · exact ⟨.dead _, hz⟩
      · cases hz
    exact ⟨.cons x d vs ds hx.1 h1, fun u hu => by
      rcases List.mem_cons.1 hu with rfl | hu
      · exact hx.2
      · exact h2 u hu⟩
def allocR (T : Tab) (ty : TypeId) (id : Nat) : R :=
  match tl T ty with
  | some i => .ok (.ptr id 0) [(id, some (objOf i.zero))] [id] [] True
  | none => .bad
theorem alloc_sound (hT : TOk P T) (hrep : Rep w ρ ob) (ty : TypeId) (ev : Operand → Value) (o : Oper) (ho : o.op = .alloc ty) (id : Nat) :
    Outs ((execOp ev o).run P w) w ρ ob (allocR T ty id) := by
  unfold allocR
  split
  · rename_i i hi
    obtain ⟨j, z, h1, h2, h3, h4, h5, h6⟩ := hT.info hi
    obtain ⟨hz1, hz2⟩ := zbs_RDs (w := w) (ρ := ρ) (own := Own ρ ob) h5
    refine .alloc fun _ => ⟨_, w, z.cells, ty, hrep, Evo.refl _ _ _, ?_, by rw [objOf_cells, ← hz1.len]; simp, ?_, fun ρ' ob' hr => .ptr id 0 w.heap.size hr⟩
    · simp [execOp, ho, Instr.alloc, zeroValue, typeInfo, h1, h4, newVar, newRow]
    · rw [objOf_cells]; simpa using hz1.cells hz2
  · exact .bad
end ops
end Go.V
