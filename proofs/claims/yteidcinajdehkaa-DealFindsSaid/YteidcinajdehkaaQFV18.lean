/-
  THE ENGINE, PART 18: a call: names are changed on the way in and on the way out.
-/
import Derived.Test.YteidcinajdehkaaQFV17
set_option linter.unusedSimpArgs false
set_option linter.unusedVariables false
namespace Go.V
mutual
def ren (live : Nat → Bool) (ψ : Nat → Nat) : D → D
  | .dead => .dead
  | .v p => .v p
  | .sl f id off len sz => bif live id then .sl f (ψ id) off len sz else .dead
  | .slr id off len room sz => bif live id then .slr (ψ id) off len room sz else .dead
  | .ptr id off => bif live id then .ptr (ψ id) off else .dead
  | .agg cs => .agg (renL live ψ cs)
  | .tup cs => .tup (renL live ψ cs)
  | .fn f cs => .fn f (renL live ψ cs)
def renL (live : Nat → Bool) (ψ : Nat → Nat) : List D → List D
  | [] => []
  | d :: ds => ren live ψ d :: renL live ψ ds
end
def renO (live : Nat → Bool) (ψ : Nat → Nat) : AObj → AObj
  | .p cs => .p cs
  | .r cs => .r (cs.map (ren live ψ))
theorem renL_map (live : Nat → Bool) (ψ : Nat → Nat) : ∀ (l : List D), renL live ψ l = l.map (ren live ψ)
  | [] => rfl
  | d :: l => by simp [renL, renL_map live ψ l]
theorem renO_cells (live : Nat → Bool) (ψ : Nat → Nat) (o : AObj) : (renO live ψ o).cells = o.cells.map (ren live ψ) := by
  cases o with
  | p cs => simp only [renO, AObj.cells, List.map_map]; apply List.map_congr_left; intro p _; simp [ren]
  | r cs => rfl
section
variable {w w' : World} {own own' : Nat → Prop} {ρ ρ' : Rho} {live : Nat → Bool} {ψ : Nat → Nat}
mutual
theorem RD.ren (ho : ∀ b, b < w.heap.size → own' b → own b) (hr : ∀ i x, live i = true → ρ i = some x → ρ' (ψ i) = some x) : ∀ {x : Value} {d : D}, RD w own ρ x d → RD w own' ρ' x (V.ren live ψ d)
  | _, _, .dead x => by simp only [V.ren]; exact .dead x
  | _, _, .v x p hh => by simp only [V.ren]; exact .v x p (hh.mono (fun _ _ _ => rfl) ho)
  | _, _, .sl f id off len sz b o' cap r h1 h2 h3 h4 => by
    simp only [V.ren]
    cases hl : live id with
    | true => exact .sl f (ψ id) off len sz b o' cap (hr _ _ hl r) h1 h2 h3 h4
    | false => exact .dead _
  | _, _, .slN f id off sz r => by
    simp only [V.ren]
    cases hl : live id with
    | true => exact .slN f (ψ id) off sz (hr _ _ hl r)
    | false => exact .dead _
  | _, _, .slr id off len room sz b o' cap r h1 h2 h3 h4 => by
    simp only [V.ren]
    cases hl : live id with
    | true => exact .slr (ψ id) off len room sz b o' cap (hr _ _ hl r) h1 h2 h3 h4
    | false => exact .dead _
  | _, _, .slrN id off sz r => by
    simp only [V.ren]
    cases hl : live id with
    | true => exact .slrN (ψ id) off sz (hr _ _ hl r)
    | false => exact .dead _
  | _, _, .ptr id off b r => by
    simp only [V.ren]
    cases hl : live id with
    | true => exact .ptr (ψ id) off b (hr _ _ hl r)
    | false => exact .dead _
  | _, _, .agg vs cs h1 hh => by simp only [V.ren]; exact .agg vs _ h1 (RDs.ren ho hr hh)
  | _, _, .tup vs cs hh => by simp only [V.ren]; exact .tup vs _ (RDs.ren ho hr hh)
  | _, _, .fn f hf vs cs hh => by simp only [V.ren]; exact .fn f hf vs _ (RDs.ren ho hr hh)
  | _, _, .ifc t v d hh => by simp only [V.ren, renL]; exact .ifc t v _ (RD.ren ho hr hh)
  | _, _, .bf f hf v d hh => by simp only [V.ren, renL]; exact .bf f hf v _ (RD.ren ho hr hh)
theorem RDs.ren (ho : ∀ b, b < w.heap.size → own' b → own b) (hr : ∀ i x, live i = true → ρ i = some x → ρ' (ψ i) = some x) : ∀ {vs : List Value} {cs : List D}, RDs w own ρ vs cs → RDs w own' ρ' vs (renL live ψ cs)
  | _, _, .nil => .nil
  | _, _, .cons x d vs cs hh ht => .cons x _ vs _ (RD.ren ho hr hh) (RDs.ren ho hr ht)
end
theorem RO.ren (ho : ∀ b, b < w.heap.size → own' b → own b) (hr : ∀ i x, live i = true → ρ i = some x → ρ' (ψ i) = some x) {x : Option Nat} {o : AObj} (h : RO w own ρ x o.cells) : RO w own' ρ' x (renO live ψ o).cells := by
  rw [renO_cells]
  cases x with
  | none => simp only [RO] at h ⊢; simp [h]
  | some b =>
    obtain ⟨c, e, hb, hl, hc⟩ := h
    refine ⟨c, e, hb, by simpa using hl, fun j d hj => ?_⟩
    rw [List.getElem?_map] at hj
    cases hd : o.cells[j]? with
    | none => simp [hd] at hj
    | some d0 =>
      simp only [hd, Option.map_some, Option.some.injEq] at hj
      obtain ⟨u, u1, u2, u3⟩ := hc j d0 hd
      exact ⟨u, u1, u2, hj ▸ u3.ren ho hr⟩
end
mutual
theorem ren_ren {live live2 : Nat → Bool} {π ψ : Nat → Nat} (h1 : ∀ i, live i = true) (h2 : ∀ i, live2 (π i) = true ∧ ψ (π i) = i) : ∀ (d : D), ren live2 ψ (ren live π d) = d
  | .dead => rfl
  | .v _ => rfl
  | .sl f id off len sz => by simp [ren, h1, h2]
  | .slr id off len room sz => by simp [ren, h1, h2]
  | .ptr id off => by simp [ren, h1, h2]
  | .agg cs => by simp only [ren, renL_ren h1 h2 cs]
  | .tup cs => by simp only [ren, renL_ren h1 h2 cs]
  | .fn f cs => by simp only [ren, renL_ren h1 h2 cs]
theorem renL_ren {live live2 : Nat → Bool} {π ψ : Nat → Nat} (h1 : ∀ i, live i = true) (h2 : ∀ i, live2 (π i) = true ∧ ψ (π i) = i) : ∀ (l : List D), renL live2 ψ (renL live π l) = l
  | [] => rfl
  | d :: l => by simp only [renL, ren_ren h1 h2 d, renL_ren h1 h2 l]
end
def nth (l : List Nat) (i : Nat) : Nat :=
  match l, i with
  | [], _ => 0
  | a :: _, 0 => a
  | _ :: l, i + 1 => nth l i
def idx (l : List Nat) (j : Nat) : Option Nat :=
  match l with
  | [] => none
  | a :: l => bif a == j then some 0 else (match idx l j with | some n => some (n + 1) | none => none)
theorem idx_nth : ∀ {l : List Nat} {j n : Nat}, idx l j = some n → nth l n = j ∧ n < l.length
  | [], _, _, h => by simp [idx] at h
  | a :: l, j, n, h => by
    simp only [idx] at h
    cases ha : a == j with
    | true => simp only [ha, cond_true, Option.some.injEq] at h; subst h; exact ⟨beq_iff_eq.1 ha, by simp⟩
    | false =>
      simp only [ha, cond_false] at h
      split at h
      · rename_i m hm
        simp only [Option.some.injEq] at h; subst h
        obtain ⟨h1, h2⟩ := idx_nth hm
        exact ⟨by simpa [nth] using h1, by simp; omega⟩
      · cases h
def inN (sg : List Nat) (j : Nat) : Nat := match idx sg j with | some i => i | none => 1000000000 + j
def outN (sg : List Nat) (bs N : Nat) (i : Nat) : Nat := bif Nat.blt i bs then nth sg i else bif Nat.blt i 1000000000 then N + 1000 * (i - bs) else i - 1000000000
def keysOf : Obs → List Nat
  | [] => []
  | (i, _) :: l => i :: keysOf l
def liveB (bs : Nat) (ob : Obs) (i : Nat) : Bool := Nat.blt i bs || (keysOf ob).contains i
def allL (_ : Nat) : Bool := true
def newIds (bs N : Nat) : Obs → List Nat
  | [] => []
  | (i, _) :: l => bif Nat.blt i bs then newIds bs N l else (N + 1000 * (i - bs)) :: newIds bs N l
def wrIn (sg : List Nat) (bs N : Nat) (obr : Obs) : Obs → List (Nat × Option AObj)
  | [] => []
  | (i, o) :: l => (outN sg bs N i, some (renO (liveB bs obr) (outN sg bs N) o)) :: wrIn sg bs N obr l
def wrOut (sg : List Nat) : List (Nat × Option AObj) := sg.map fun j => (j, none)
mutual
theorem RD.ren_ren {w : World} {own : Nat → Prop} {ρ : Rho} {live live2 : Nat → Bool} {π ψ : Nat → Nat} (h : ∀ i, ρ i ≠ none → live i = true ∧ live2 (π i) = true ∧ ψ (π i) = i) : ∀ {x : Value} {d : D}, RD w own ρ x d → V.ren live2 ψ (V.ren live π d) = d
  | _, _, .dead _ => by simp [V.ren]
  | _, _, .v _ _ _ => by simp [V.ren]
  | _, _, .sl _ id _ _ _ _ _ _ r _ _ _ _ => by obtain ⟨a, b, c⟩ := h id (by rw [r]; simp); simp [V.ren, a, b, c]
  | _, _, .slN _ id _ _ r => by obtain ⟨a, b, c⟩ := h id (by rw [r]; simp); simp [V.ren, a, b, c]
  | _, _, .slr id _ _ _ _ _ _ _ r _ _ _ _ => by obtain ⟨a, b, c⟩ := h id (by rw [r]; simp); simp [V.ren, a, b, c]
  | _, _, .slrN id _ _ r => by obtain ⟨a, b, c⟩ := h id (by rw [r]; simp); simp [V.ren, a, b, c]
  | _, _, .ptr id _ _ r => by obtain ⟨a, b, c⟩ := h id (by rw [r]; simp); simp [V.ren, a, b, c]
  | _, _, .agg _ cs _ hh => by simp only [V.ren, RDs.ren_ren h hh]
  | _, _, .tup _ cs hh => by simp only [V.ren, RDs.ren_ren h hh]
  | _, _, .fn _ _ _ cs hh => by simp only [V.ren, RDs.ren_ren h hh]
  | _, _, .ifc _ _ d hh => by simp only [V.ren, renL, RD.ren_ren h hh]
  | _, _, .bf _ _ _ d hh => by simp only [V.ren, renL, RD.ren_ren h hh]
theorem RDs.ren_ren {w : World} {own : Nat → Prop} {ρ : Rho} {live live2 : Nat → Bool} {π ψ : Nat → Nat} (h : ∀ i, ρ i ≠ none → live i = true ∧ live2 (π i) = true ∧ ψ (π i) = i) : ∀ {vs : List Value} {ds : List D}, RDs w own ρ vs ds → renL live2 ψ (renL live π ds) = ds
  | _, _, .nil => rfl
  | _, _, .cons _ _ _ _ hh ht => by simp only [renL, RD.ren_ren h hh, RDs.ren_ren h ht]
end
theorem RO.ren_ren {w : World} {own : Nat → Prop} {ρ : Rho} {live live2 : Nat → Bool} {π ψ : Nat → Nat} (h : ∀ i, ρ i ≠ none → live i = true ∧ live2 (π i) = true ∧ ψ (π i) = i) {x : Option Nat} {o : AObj} (hr : RO w own ρ x o.cells) : (renO live2 ψ (renO live π o)).cells = o.cells := by
  rw [renO_cells, renO_cells, List.map_map]
  cases x with
  | none => simp only [RO] at hr; simp [hr]
  | some b =>
    obtain ⟨c, e, hb, hl, hc⟩ := hr
    have : ∀ d ∈ o.cells, (V.ren live2 ψ ∘ V.ren live π) d = id d := by
      intro d hd
      obtain ⟨j, hj, rfl⟩ := List.mem_iff_getElem.1 hd
      obtain ⟨u, _, _, u3⟩ := hc j _ (List.getElem?_eq_getElem hj)
      exact u3.ren_ren h
    rw [List.map_congr_left this, List.map_id]
def callB (P : Program) (f : FuncId) : Bool := match P.funcs[f]? with | some fn => fn.name != "runtime.NumGoroutine" && fn.body.isSome | none => false
def bcapP : List PV → Option (FuncId × List D)
  | [.fn g [], p] => bif Nat.blt g 999999 then some (g, [.v p]) else none
  | _ => none
def bcapD : List D → Option (FuncId × List D)
  | [.v (.fn g []), d] => bif Nat.blt g 999999 then some (g, [d]) else none
  | _ => none
def capsOf : D → Option (FuncId × List D)
  | .v (.fn f ps) => bif Nat.blt f 999999 then some (f, ps.map .v) else bif Nat.beq f 999999 then bcapP ps else none
  | .fn f ds => bif Nat.blt f 999999 then some (f, ds) else bif Nat.beq f 999999 then bcapD ds else none
  | _ => none
def bndF : D → Bool
  | .v (.fn f _) => Nat.beq f 999999
  | .fn f _ => Nat.beq f 999999
  | _ => false
def ordA (d : D) (as caps : List D) : List D := bif bndF d then caps ++ as else as ++ caps
theorem run_call_fn {P : Program} {f : FuncId} (hcb : callB P f = true) {ev : Operand → Value} {o : Oper} {fop : Operand} {args : Array Operand} {ats : Array TypeId} (ho : o.op = .call ⟨.value fop, args, ats⟩) {us vs : List Value} (hf : ev fop = .func (.func f) us.toArray vs.toArray) (w : World) :
    (execOp ev o).run P w = .ok (.enter f (us.toArray ++ args.map ev ++ vs.toArray)) w := by
  unfold callB at hcb
  cases hfn : P.funcs[f]? with
  | none => simp [hfn] at hcb
  | some fn =>
    simp only [hfn, Bool.and_eq_true, bne_iff_ne, ne_eq] at hcb
    have hb : ¬ fn.body = none := by intro h; rw [h] at hcb; simp at hcb
    unfold execOp
    simp [ho, resolve, hf, Deferred.ofValue, invoke, callFunc, hfn, hcb.1, hb]
def mthL (P : Program) (t : TypeId) (name : String) : Option FuncId :=
  match P.info? t with
  | some i => match i.methods.find? (·.name == name) with
    | some m => match m.path.toList, m.func, P.underlying t with
      | [], some (f, true), some (.pointer _) => some f
      | _, _, _ => none
    | none => none
  | none => none
theorem mthL_step {P : Program} {t : TypeId} {name : String} {f : FuncId} (h : mthL P t name = some f) (k : Nat) (v : Value) (w : World) : (method (k + 1) t v name).run P w = .ok (f, v) w := by
  unfold mthL at h
  split at h
  · rename_i i hi
    split at h
    · rename_i m hm
      split at h
      · rename_i g e hp hf hu
        simp only [Option.some.injEq] at h; subst h
        have ht : (typeInfo t).run P w = .ok i w := by simp [typeInfo, hi]
        have hu2 : (underlying t).run P w = .ok (.pointer e) w := run_underlying hu w
        unfold method
        simp [ht, hm, hp, follow, hf, receiverAt, hu2, Place.get]
      · cases h
    · cases h
  · cases h
theorem mthL_ok {P : Program} {t : TypeId} {name : String} {f : FuncId} (h : mthL P t name = some f) (v : Value) (w : World) : (method (P.types.size + Made.depth) t v name).run P w = .ok (f, v) w := mthL_step h (P.types.size + 99) v w
def calD (P : Program) (get : Nat → D) (op : Op) : Option (FuncId × List D) :=
  match op with
  | .call ⟨.value fop, args, _⟩ => match capsOf (evG get fop) with
    | some (f, caps) => some (f, ordA (evG get fop) (args.toList.map (evG get)) caps)
    | none => none
  | .call ⟨.invoke x name, args, _⟩ => match ifaceOf (evG get x) with
    | some (some (t, d)) => match mthL P t name with
      | some f => some (f, d :: args.toList.map (evG get))
      | none => none
    | _ => none
  | _ => none
theorem run_call_ifc {P : Program} {f : FuncId} {t : TypeId} {name : String} (hcb : callB P f = true) (hm : mthL P t name = some f) {ev : Operand → Value} {o : Oper} {x : Operand} {args : Array Operand} {ats : Array TypeId} (ho : o.op = .call ⟨.invoke x name, args, ats⟩) {u : Value} (hf : ev x = .iface t u) (w : World) :
    (execOp ev o).run P w = .ok (.enter f (#[u] ++ args.map ev)) w := by
  unfold callB at hcb
  cases hfn : P.funcs[f]? with
  | none => simp [hfn] at hcb
  | some fn =>
    simp only [hfn, Bool.and_eq_true, bne_iff_ne, ne_eq] at hcb
    have hb : ¬ fn.body = none := by intro h; rw [h] at hcb; simp at hcb
    unfold execOp
    have e : (#[Value.iface t u] ++ args.map ev)[0]? = some (.iface t u) := by rw [Array.getElem?_append_left (by simp)]; rfl
    have e2 : (#[Value.iface t u] ++ args.map ev).extract 1 (#[Value.iface t u] ++ args.map ev).size = args.map ev := by
      apply Array.ext'
      simp [List.take_of_length_le]
    simp only [ho, resolve, hf, Sem.run_bind, Sem.run_pure, Result.andThen_ok, invoke]
    simp only [e, e2]
    have := mthL_ok hm u w
    simp [callMethod, this, callFunc, hfn, hcb.1, hb]
theorem upd_app (b : Ob) : ∀ (l m : List (Nat × Option AObj)) (j : Nat), upd b (l ++ m) j = upd (upd b m) l j
  | [], _, _ => rfl
  | (i, o) :: l, m, j => by simp only [List.cons_append, upd, upd_app b l m j]
theorem upd_wrOut (b : Ob) : ∀ (sg : List Nat) (j : Nat), upd b (wrOut sg) j = if j ∈ sg then none else b j
  | [], j => by simp [wrOut, upd]
  | a :: sg, j => by
    have := upd_wrOut b sg j
    simp only [wrOut] at this
    simp only [wrOut, List.map_cons, upd, this, List.mem_cons]
    by_cases h : j = a
    · simp [h]
    · simp [h]
theorem upd_wrIn (b : Ob) (sg : List Nat) (bs N : Nat) (obr : Obs) (c : Nat) : ∀ (l : Obs), (∀ i ∈ keysOf l, outN sg bs N i = outN sg bs N c → i = c) →
    upd b (wrIn sg bs N obr l) (outN sg bs N c) = match obL l c with | some o => some (renO (liveB bs obr) (outN sg bs N) o) | none => b (outN sg bs N c)
  | [], _ => rfl
  | (i, o) :: l, h => by
    simp only [wrIn, upd, obL]
    by_cases hi : i = c
    · subst hi; simp
    · have h1 : ¬ outN sg bs N c = outN sg bs N i := fun e => hi (h i (by simp [keysOf]) e.symm)
      have h2 : (i == c) = false := by simpa using hi
      rw [if_neg h1, h2, cond_false]
      exact upd_wrIn b sg bs N obr c l (fun k hk => h k (by simp [keysOf, hk]))
theorem upd_wrIn_none (b : Ob) (sg : List Nat) (bs N : Nat) (obr : Obs) (j : Nat) : ∀ (l : Obs), (∀ i ∈ keysOf l, outN sg bs N i ≠ j) → upd b (wrIn sg bs N obr l) j = b j
  | [], _ => rfl
  | (i, o) :: l, h => by
    simp only [wrIn, upd]
    rw [if_neg (fun e => h i (by simp [keysOf]) e.symm)]
    exact upd_wrIn_none b sg bs N obr j l (fun k hk => h k (by simp [keysOf, hk]))
theorem mem_newIds (bs N : Nat) : ∀ (l : Obs) (j : Nat), j ∈ newIds bs N l ↔ ∃ i ∈ keysOf l, bs ≤ i ∧ j = N + 1000 * (i - bs)
  | [], j => by simp [newIds, keysOf]
  | (i, o) :: l, j => by
    simp only [newIds, keysOf, List.mem_cons]
    cases h : Nat.blt i bs with
    | true =>
      have hi : i < bs := by simpa [Nat.blt_eq] using h
      simp only [cond_true, mem_newIds bs N l j]
      constructor
      · rintro ⟨k, hk, h1, h2⟩; exact ⟨k, .inr hk, h1, h2⟩
      · rintro ⟨k, rfl | hk, h1, h2⟩
        · omega
        · exact ⟨k, hk, h1, h2⟩
    | false =>
      have hi : ¬ i < bs := by
        have h2 : ¬ (Nat.blt i bs = true) := by rw [h]; simp
        rwa [Nat.blt_eq] at h2
      simp only [cond_false, List.mem_cons, mem_newIds bs N l j]
      constructor
      · rintro (h | ⟨k, hk, h1, h2⟩)
        · exact ⟨i, .inl rfl, by omega, h⟩
        · exact ⟨k, .inr hk, h1, h2⟩
      · rintro ⟨k, rfl | hk, h1, h2⟩
        · exact .inl h2
        · exact .inr ⟨k, hk, h1, h2⟩
theorem keysOf_obL : ∀ {l : Obs} {i : Nat}, obL l i ≠ none → i ∈ keysOf l
  | [], _, h => absurd rfl h
  | (a, o) :: l, i, h => by
    simp only [obL] at h
    cases ha : a == i with
    | true => simp [keysOf, (beq_iff_eq.1 ha).symm]
    | false => simp only [ha, cond_false] at h; simp [keysOf, keysOf_obL h]
end Go.V
