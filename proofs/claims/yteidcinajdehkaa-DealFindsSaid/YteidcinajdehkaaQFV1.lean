/-
  THE ENGINE, PART 1: abstract values, what they say of concrete ones, and that this stays while a world evolves.
-/
import Derived.Orders
import Derived.Laws.Cells
import Derived.Laws.CopyRow
import Derived.Laws.AppendOwn
import Derived.Laws.Rows
import Derived.Laws.Wrap64
import Derived.Laws.StructEq
set_option linter.unusedSimpArgs false
set_option linter.unusedVariables false
namespace Go.V
inductive PV where
  | int (k : IntKind) (n : Int)
  | bool (b : Bool)
  | str (s : ByteArray)
  | nl
  | lst (full : Bool) (n : Nat) (cs : List PV)
  | ipt (cs : List PV)
  | agg (cs : List PV)
  | tup (cs : List PV)
  | fn (f : FuncId) (cs : List PV)
  deriving Inhabited
inductive D where
  | dead
  | v (p : PV)
  | sl (full : Bool) (id off len sz : Nat)
  | slr (id off len room sz : Nat)
  | ptr (id off : Nat)
  | agg (cs : List D)
  | tup (cs : List D)
  | fn (f : FuncId) (cs : List D)
  deriving Inhabited
inductive AObj where
  | p (cs : List PV)
  | r (cs : List D)
def AObj.cells : AObj → List D
  | .p cs => cs.map .v
  | .r cs => cs
def bsz (w : World) (b : Nat) : Nat := match w.heap[b]? with | some (.cells c _ _) => c.size | _ => 0
mutual
inductive RP (w : World) (own : Nat → Prop) : Value → PV → Prop
  | int (k : IntKind) (n : Int) : RP w own (.int k n) (.int k n)
  | bool (b : Bool) : RP w own (.bool b) (.bool b)
  | str (s : ByteArray) : RP w own (.string s) (.str s)
  | nl : RP w own (.slice none 0 0) .nl
  | lstN (full : Bool) : RP w own (.slice none 0 0) (.lst full 0 [])
  | lst0 (full : Bool) (a : Addr) : RP w own (.slice (some a) 0 0) (.lst full 0 [])
  | lst (full : Bool) (n cap b off : Nat) (cs : List PV) (h1 : n ≤ cap) (h2 : full = true → cap = n) (h3 : cap ≤ maxLen) (hc : RC w own b off cs) :
      RP w own (.slice (some ⟨b, off, none⟩) n cap) (.lst full n cs)
  | ipt (b off : Nat) (cs : List PV) (hc : RC w own b off cs) : RP w own (.pointer (some ⟨b, off, none⟩)) (.ipt cs)
  | agg (vs : List Value) (cs : List PV) (h1 : ∀ u ∈ vs, u.oneCell' = true) (h : RPs w own vs cs) : RP w own (.agg vs.toArray) (.agg cs)
  | tup (vs : List Value) (cs : List PV) (h : RPs w own vs cs) : RP w own (.tuple vs.toArray) (.tup cs)
  | fn (f : FuncId) (hf : f < 999999) (vs : List Value) (cs : List PV) (h : RPs w own vs cs) : RP w own (.func (.func f) #[] vs.toArray) (.fn f cs)
  | nif : RP w own .nilIface (.fn 999999 [])
  | ifc (t : TypeId) (v : Value) (p : PV) (h : RP w own v p) : RP w own (.iface t v) (.fn (t + 1000000) [p])
  | bf (f : FuncId) (hf : f < 999999) (v : Value) (p : PV) (h : RP w own v p) : RP w own (.func (.func f) #[v] #[]) (.fn 999999 [.fn f [], p])
  | np : RP w own (.pointer none) (.fn 999999 [.bool true])
  | nn (a : Addr) (cap : Nat) (h3 : cap ≤ maxLen) (h4 : cap = 0 ∨ ∃ b off, a = ⟨b, off, none⟩) : RP w own (.slice (some a) 0 cap) (.fn 999999 [.bool false])
inductive RC (w : World) (own : Nat → Prop) : Nat → Nat → List PV → Prop
  | nil (b off : Nat) : RC w own b off []
  | cons (b off : Nat) (v : Value) (p : PV) (cs : List PV) (hb : w.cell? ⟨b, off, none⟩ = some v) (h1 : v.oneCell' = true) (ho : ¬ own b) (h : RP w own v p) (t : RC w own b (off + 1) cs) :
      RC w own b off (p :: cs)
inductive RPs (w : World) (own : Nat → Prop) : List Value → List PV → Prop
  | nil : RPs w own [] []
  | cons (v : Value) (p : PV) (vs : List Value) (cs : List PV) (h : RP w own v p) (t : RPs w own vs cs) : RPs w own (v :: vs) (p :: cs)
end
mutual
inductive RD (w : World) (own : Nat → Prop) (ρ : Nat → Option (Option Nat)) : Value → D → Prop
  | dead (x : Value) : RD w own ρ x .dead
  | v (x : Value) (p : PV) (h : RP w own x p) : RD w own ρ x (.v p)
  | sl (full : Bool) (id off len sz b o' cap : Nat) (hr : ρ id = some (some b)) (h1 : len ≤ cap) (h2 : full = true → cap = len) (h3 : cap ≤ maxLen) (h4 : cap = 0 ∨ (o' = off ∧ off + cap * sz ≤ bsz w b)) :
      RD w own ρ (.slice (some ⟨b, o', none⟩) len cap) (.sl full id off len sz)
  | slN (full : Bool) (id off sz : Nat) (hr : ρ id = some none) : RD w own ρ (.slice none 0 0) (.sl full id off 0 sz)
  | slr (id off len room sz b o' cap : Nat) (hr : ρ id = some (some b)) (h1 : len ≤ room) (h2 : room ≤ cap) (h3 : cap ≤ maxLen) (h4 : cap = 0 ∨ (o' = off ∧ off + cap * sz ≤ bsz w b)) :
      RD w own ρ (.slice (some ⟨b, o', none⟩) len cap) (.slr id off len room sz)
  | slrN (id off sz : Nat) (hr : ρ id = some none) : RD w own ρ (.slice none 0 0) (.slr id off 0 0 sz)
  | ptr (id off b : Nat) (hr : ρ id = some (some b)) : RD w own ρ (.pointer (some ⟨b, off, none⟩)) (.ptr id off)
  | agg (vs : List Value) (cs : List D) (h1 : ∀ u ∈ vs, u.oneCell' = true) (h : RDs w own ρ vs cs) : RD w own ρ (.agg vs.toArray) (.agg cs)
  | tup (vs : List Value) (cs : List D) (h : RDs w own ρ vs cs) : RD w own ρ (.tuple vs.toArray) (.tup cs)
  | fn (f : FuncId) (hf : f < 999999) (vs : List Value) (cs : List D) (h : RDs w own ρ vs cs) : RD w own ρ (.func (.func f) #[] vs.toArray) (.fn f cs)
  | ifc (t : TypeId) (v : Value) (d : D) (h : RD w own ρ v d) : RD w own ρ (.iface t v) (.fn (t + 1000000) [d])
  | bf (f : FuncId) (hf : f < 999999) (v : Value) (d : D) (h : RD w own ρ v d) : RD w own ρ (.func (.func f) #[v] #[]) (.fn 999999 [.v (.fn f []), d])
inductive RDs (w : World) (own : Nat → Prop) (ρ : Nat → Option (Option Nat)) : List Value → List D → Prop
  | nil : RDs w own ρ [] []
  | cons (x : Value) (d : D) (vs : List Value) (cs : List D) (h : RD w own ρ x d) (t : RDs w own ρ vs cs) : RDs w own ρ (x :: vs) (d :: cs)
end
section mono
variable {w w' : World} {own own' : Nat → Prop} {ρ ρ' : Nat → Option (Option Nat)}
mutual
theorem RP.mono (h : ∀ b, b < w.heap.size → ¬ own b → w'.heap[b]? = w.heap[b]?) (ho : ∀ b, b < w.heap.size → own' b → own b) :
    ∀ {x : Value} {p : PV}, RP w own x p → RP w' own' x p
  | _, _, .int k n => .int k n
  | _, _, .bool b => .bool b
  | _, _, .str s => .str s
  | _, _, .nl => .nl
  | _, _, .lstN f => .lstN f
  | _, _, .lst0 f a => .lst0 f a
  | _, _, .lst f n cap b off cs h1 h2 h3 hc => .lst f n cap b off cs h1 h2 h3 (RC.mono h ho hc)
  | _, _, .ipt b off cs hc => .ipt b off cs (RC.mono h ho hc)
  | _, _, .agg vs cs h1 hh => .agg vs cs h1 (RPs.mono h ho hh)
  | _, _, .tup vs cs hh => .tup vs cs (RPs.mono h ho hh)
  | _, _, .fn f hf vs cs hh => .fn f hf vs cs (RPs.mono h ho hh)
  | _, _, .nif => .nif
  | _, _, .np => .np
  | _, _, .nn a c h3 h4 => .nn a c h3 h4
  | _, _, .ifc t v p hh => .ifc t v p (RP.mono h ho hh)
  | _, _, .bf f hf v p hh => .bf f hf v p (RP.mono h ho hh)
theorem RC.mono (h : ∀ b, b < w.heap.size → ¬ own b → w'.heap[b]? = w.heap[b]?) (ho : ∀ b, b < w.heap.size → own' b → own b) :
    ∀ {b off : Nat} {cs : List PV}, RC w own b off cs → RC w' own' b off cs
  | _, _, _, .nil b off => .nil b off
  | _, _, _, .cons b off v p cs hb h1 hn hh ht =>
    have hl : b < w.heap.size := World.block_lt_of_cell? w ⟨b, off, none⟩ hb
    .cons b off v p cs ((World.cell?_of_block (a := ⟨b, off, none⟩) (h b hl hn)).trans hb) h1 (fun x => hn (ho b hl x)) (RP.mono h ho hh) (RC.mono h ho ht)
theorem RPs.mono (h : ∀ b, b < w.heap.size → ¬ own b → w'.heap[b]? = w.heap[b]?) (ho : ∀ b, b < w.heap.size → own' b → own b) :
    ∀ {vs : List Value} {cs : List PV}, RPs w own vs cs → RPs w' own' vs cs
  | _, _, .nil => .nil
  | _, _, .cons v p vs cs hh ht => .cons v p vs cs (RP.mono h ho hh) (RPs.mono h ho ht)
end
theorem bsz_lt {b n : Nat} (h : n ≤ bsz w b) (hn : 0 < n) : b < w.heap.size := by
  unfold bsz at h
  split at h
  · rename_i c e f hb
    exact (Array.getElem?_eq_some_iff.1 hb).1
  · omega
mutual
theorem RD.mono (h : ∀ b, b < w.heap.size → ¬ own b → w'.heap[b]? = w.heap[b]?) (ho : ∀ b, b < w.heap.size → own' b → own b)
    (hz : ∀ b, b < w.heap.size → bsz w' b = bsz w b) (hr : ∀ i x, ρ i = some x → ρ' i = some x) :
    ∀ {x : Value} {d : D}, RD w own ρ x d → RD w' own' ρ' x d
  | _, _, .dead x => .dead x
  | _, _, .v x p hh => .v x p (hh.mono h ho)
  | _, _, .sl f id off len sz b o' cap r h1 h2 h3 h4 =>
    .sl f id off len sz b o' cap (hr _ _ r) h1 h2 h3 (h4.imp_right fun ⟨e, q⟩ => ⟨e, by
      rcases Nat.eq_zero_or_pos (off + cap * sz) with e0 | e0
      · omega
      · rw [hz b (bsz_lt q e0)]; exact q⟩)
  | _, _, .slN f id off sz r => .slN f id off sz (hr _ _ r)
  | _, _, .slr id off len room sz b o' cap r h1 h2 h3 h4 =>
    .slr id off len room sz b o' cap (hr _ _ r) h1 h2 h3 (h4.imp_right fun ⟨e, q⟩ => ⟨e, by
      rcases Nat.eq_zero_or_pos (off + cap * sz) with e0 | e0
      · omega
      · rw [hz b (bsz_lt q e0)]; exact q⟩)
  | _, _, .slrN id off sz r => .slrN id off sz (hr _ _ r)
  | _, _, .ptr id off b r => .ptr id off b (hr _ _ r)
  | _, _, .agg vs cs h1 hh => .agg vs cs h1 (RDs.mono h ho hz hr hh)
  | _, _, .tup vs cs hh => .tup vs cs (RDs.mono h ho hz hr hh)
  | _, _, .fn f hf vs cs hh => .fn f hf vs cs (RDs.mono h ho hz hr hh)
  | _, _, .ifc t v d hh => .ifc t v d (RD.mono h ho hz hr hh)
  | _, _, .bf f hf v d hh => .bf f hf v d (RD.mono h ho hz hr hh)
theorem RDs.mono (h : ∀ b, b < w.heap.size → ¬ own b → w'.heap[b]? = w.heap[b]?) (ho : ∀ b, b < w.heap.size → own' b → own b)
    (hz : ∀ b, b < w.heap.size → bsz w' b = bsz w b) (hr : ∀ i x, ρ i = some x → ρ' i = some x) :
    ∀ {vs : List Value} {cs : List D}, RDs w own ρ vs cs → RDs w' own' ρ' vs cs
  | _, _, .nil => .nil
  | _, _, .cons x d vs cs hh ht => .cons x d vs cs (RD.mono h ho hz hr hh) (RDs.mono h ho hz hr ht)
end
end mono
abbrev Ob := Nat → Option AObj
abbrev Rho := Nat → Option (Option Nat)
def Own (ρ : Rho) (ob : Ob) (b : Nat) : Prop := ∃ i o, ob i = some o ∧ ρ i = some (some b)
def RO (w : World) (own : Nat → Prop) (ρ : Rho) (x : Option Nat) (cs : List D) : Prop :=
  match x with
  | none => cs = []
  | some b => ∃ (c : Array Value) (e : TypeId), w.heap[b]? = some (.cells c e (0, 0)) ∧ cs.length ≤ c.size ∧ ∀ (j : Nat) (d : D), cs[j]? = some d → ∃ u : Value, c[j]? = some u ∧ u.oneCell' = true ∧ RD w own ρ u d
def Gv : List (Nat × List PV) := []
def glk : List (Nat × List PV) → Nat → Option (List PV)
  | [], _ => none
  | (a, cs) :: l, g => bif a == g then some cs else glk l g
theorem glk_mem : ∀ {l : List (Nat × List PV)} {g : Nat} {cs : List PV}, glk l g = some cs → (g, cs) ∈ l
  | [], _, _, h => by simp [glk] at h
  | (a, c) :: l, g, cs, h => by
    simp only [glk] at h
    cases ha : a == g with
    | true =>
      simp only [ha, cond_true, Option.some.injEq] at h
      subst h; have := beq_iff_eq.1 ha; subst this; simp
    | false => simp only [ha, cond_false] at h; exact List.mem_cons_of_mem _ (glk_mem h)
structure Rep (w : World) (ρ : Rho) (ob : Ob) : Prop where
  inj : ∀ i j b, ob i ≠ none → ob j ≠ none → ρ i = some (some b) → ρ j = some (some b) → i = j
  obj : ∀ i o, ob i = some o → ∃ x, ρ i = some x ∧ RO w (Own ρ ob) ρ x o.cells
  glob : ∀ x ∈ Gv, RC w (Own ρ ob) x.1 0 x.2
structure Evo (w : World) (ρ : Rho) (ob : Ob) (w' : World) (ρ' : Rho) (ob' : Ob) : Prop where
  os : w'.os = w.os
  tape : w'.tape = w.tape
  output : w'.output = w.output
  size : w.heap.size ≤ w'.heap.size
  keep : ∀ b, b < w.heap.size → ¬ Own ρ ob b → w'.heap[b]? = w.heap[b]?
  bsz : ∀ b, b < w.heap.size → bsz w' b = bsz w b
  own : ∀ b, b < w.heap.size → Own ρ' ob' b → Own ρ ob b
  rho : ∀ i x, ρ i = some x → ρ' i = some x
theorem Rep.glob_evo {w w' : World} {ρ ρ' : Rho} {ob ob' : Ob} (hr : Rep w ρ ob) (h : Evo w ρ ob w' ρ' ob') : ∀ x ∈ Gv, RC w' (Own ρ' ob') x.1 0 x.2 := fun x hx => (hr.glob x hx).mono h.keep h.own
theorem Evo.refl (w : World) (ρ : Rho) (ob : Ob) : Evo w ρ ob w ρ ob :=
  ⟨rfl, rfl, rfl, Nat.le_refl _, fun _ _ _ => rfl, fun _ _ => rfl, fun _ _ h => h, fun _ _ h => h⟩
theorem Evo.trans {w w1 w2 : World} {ρ ρ1 ρ2 : Rho} {ob ob1 ob2 : Ob} (h : Evo w ρ ob w1 ρ1 ob1) (k : Evo w1 ρ1 ob1 w2 ρ2 ob2) : Evo w ρ ob w2 ρ2 ob2 where
  os := k.os.trans h.os
  tape := k.tape.trans h.tape
  output := k.output.trans h.output
  size := Nat.le_trans h.size k.size
  keep := fun b hb hn => (k.keep b (Nat.lt_of_lt_of_le hb h.size) (fun x => hn (h.own b hb x))).trans (h.keep b hb hn)
  bsz := fun b hb => (k.bsz b (Nat.lt_of_lt_of_le hb h.size)).trans (h.bsz b hb)
  own := fun b hb x => h.own b hb (k.own b (Nat.lt_of_lt_of_le hb h.size) x)
  rho := fun i x e => k.rho i x (h.rho i x e)
theorem RD.evo {w w' : World} {ρ ρ' : Rho} {ob ob' : Ob} (h : Evo w ρ ob w' ρ' ob') {x : Value} {d : D} (hd : RD w (Own ρ ob) ρ x d) : RD w' (Own ρ' ob') ρ' x d :=
  hd.mono h.keep h.own h.bsz h.rho
theorem Evo.drew (w : World) (ρ : Rho) (ob : Ob) : Evo w ρ ob w.drew ρ ob :=
  ⟨rfl, rfl, rfl, Nat.le_refl _, fun _ _ _ => rfl, fun _ _ => rfl, fun _ _ h => h, fun _ _ h => h⟩
theorem Rep.of_evo_same {w w' : World} {ρ : Rho} {ob : Ob} (hr : Rep w ρ ob) (h : Evo w ρ ob w' ρ ob) (hk : ∀ b, b < w.heap.size → w'.heap[b]? = w.heap[b]?) : Rep w' ρ ob where
  inj := hr.inj
  glob := hr.glob_evo h
  obj := fun i o ho => by
    obtain ⟨x, hx, hro⟩ := hr.obj i o ho
    refine ⟨x, hx, ?_⟩
    cases x with
    | none => simpa [RO] using hro
    | some b =>
      obtain ⟨c, e, hb, hl, hc⟩ := hro
      exact ⟨c, e, (hk b (Array.getElem?_eq_some_iff.1 hb).1).trans hb, hl, fun j d hj => let ⟨u, hu, h1, hd⟩ := hc j d hj; ⟨u, hu, h1, hd.evo h⟩⟩
def upd (ob : Ob) : List (Nat × Option AObj) → Ob
  | [] => ob
  | (i, o) :: l => fun j => if j = i then o else upd ob l j
theorem Rep.none_of {w : World} {ρ : Rho} {ob : Ob} (h : Rep w ρ ob) {i : Nat} (hi : ρ i = none) : ob i = none := by
  cases ho : ob i with
  | none => rfl
  | some o => obtain ⟨x, hx, _⟩ := h.obj i o ho; rw [hi] at hx; cases hx
theorem Rep.block_lt {w : World} {ρ : Rho} {ob : Ob} (h : Rep w ρ ob) {b : Nat} (hb : Own ρ ob b) : b < w.heap.size := by
  obtain ⟨i, o, ho, hr⟩ := hb
  obtain ⟨x, hx, hro⟩ := h.obj i o ho
  rw [hr] at hx
  cases hx
  obtain ⟨c, e, hc, _⟩ := hro
  exact (Array.getElem?_eq_some_iff.1 hc).1
theorem bsz_alloc (w : World) (o : Obj) {b : Nat} (h : b < w.heap.size) : bsz (w.alloc o) b = bsz w b := by
  unfold bsz; rw [heap_alloc_old w o b h]
theorem alloc_step {w : World} {ρ : Rho} {ob : Ob} {id : Nat} {c : Array Value} {e : TypeId} {o : AObj} (hrep : Rep w ρ ob) (hid : ρ id = none) (hl : o.cells.length ≤ c.size)
    (hc : ∀ (j : Nat) (d : D), o.cells[j]? = some d → ∃ u : Value, c[j]? = some u ∧ u.oneCell' = true ∧ RD w (Own ρ ob) ρ u d) :
    Rep (w.alloc (.cells c e)) (fun i => if i = id then some (some w.heap.size) else ρ i) (fun j => if j = id then some o else ob j) ∧
    Evo w ρ ob (w.alloc (.cells c e)) (fun i => if i = id then some (some w.heap.size) else ρ i) (fun j => if j = id then some o else ob j) := by
  have hevo : Evo w ρ ob (w.alloc (.cells c e)) (fun i => if i = id then some (some w.heap.size) else ρ i) (fun j => if j = id then some o else ob j) := by
    refine ⟨rfl, rfl, rfl, by simp, fun b hb _ => heap_alloc_old w _ b hb, fun b hb => bsz_alloc w _ hb, fun b hb ⟨i, o', ho, hr⟩ => ?_, fun i x hx => ?_⟩
    · by_cases hi : i = id
      · subst hi; simp at hr; omega
      · simp only [hi, if_false] at ho hr; exact ⟨i, o', ho, hr⟩
    · by_cases hi : i = id
      · subst hi; rw [hid] at hx; cases hx
      · simp only [hi, if_false]; exact hx
  refine ⟨⟨fun i j b hi hj hri hrj => ?_, fun i o' ho => ?_, hrep.glob_evo hevo⟩, hevo⟩
  · by_cases h1 : i = id <;> by_cases h2 : j = id
    · omega
    · simp only [h1, h2, if_true, if_false, Option.some.injEq] at *
      cases hoj : ob j with
      | none => exact absurd hoj hj
      | some oj => have := hrep.block_lt ⟨j, oj, hoj, hrj⟩; omega
    · simp only [h1, h2, if_true, if_false, Option.some.injEq] at *
      cases hoi : ob i with
      | none => exact absurd hoi hi
      | some oi => have := hrep.block_lt ⟨i, oi, hoi, hri⟩; omega
    · simp only [h1, h2, if_false] at *
      exact hrep.inj i j b hi hj hri hrj
  · by_cases h1 : i = id
    · subst h1
      simp only [if_true, Option.some.injEq] at ho ⊢
      subst ho
      refine ⟨_, rfl, c, e, heap_alloc_new w _, hl, fun j d hj => ?_⟩
      obtain ⟨u, hu, h1, hd⟩ := hc j d hj
      exact ⟨u, hu, h1, hd.evo hevo⟩
    · simp only [h1, if_false] at ho ⊢
      obtain ⟨x, hx, hro⟩ := hrep.obj i o' ho
      refine ⟨x, hx, ?_⟩
      cases x with
      | none => simpa [RO] using hro
      | some b =>
        obtain ⟨c', e', hb, hl', hc'⟩ := hro
        exact ⟨c', e', (heap_alloc_old w _ b (Array.getElem?_eq_some_iff.1 hb).1).trans hb, hl', fun j d hj => let ⟨u, hu, h1, hd⟩ := hc' j d hj; ⟨u, hu, h1, hd.evo hevo⟩⟩
theorem write_step {w w' : World} {ρ : Rho} {ob : Ob} {id b : Nat} {c c' : Array Value} {e : TypeId} {o o' : AObj} (hrep : Rep w ρ ob) (ho : ob id = some o) (hid : ρ id = some (some b))
    (hb : w.heap[b]? = some (.cells c e (0, 0))) (hw : w' = { w with heap := w.heap.setIfInBounds b (.cells c' e (0, 0)) }) (hz : c'.size = c.size) (hl : o'.cells.length ≤ c'.size)
    (hc : ∀ (j : Nat) (d : D), o'.cells[j]? = some d → ∃ u : Value, c'[j]? = some u ∧ u.oneCell' = true ∧ RD w (Own ρ ob) ρ u d) :
    Rep w' ρ (fun j => if j = id then some o' else ob j) ∧ Evo w ρ ob w' ρ (fun j => if j = id then some o' else ob j) := by
  have hlt := (Array.getElem?_eq_some_iff.1 hb).1
  have hown : ∀ x, Own ρ (fun j => if j = id then some o' else ob j) x ↔ Own ρ ob x := by
    intro x
    constructor
    · rintro ⟨i, q, hq, hr⟩
      by_cases hi : i = id
      · subst hi; exact ⟨i, o, ho, hr⟩
      · simp only [hi, if_false] at hq; exact ⟨i, q, hq, hr⟩
    · rintro ⟨i, q, hq, hr⟩
      by_cases hi : i = id
      · subst hi; exact ⟨i, o', by simp, hr⟩
      · exact ⟨i, q, by simp only [hi, if_false]; exact hq, hr⟩
  have hget : ∀ x, x ≠ b → w'.heap[x]? = w.heap[x]? := by
    intro x hx; subst hw; simp only [Array.getElem?_setIfInBounds]; rw [if_neg (fun h => hx h.symm)]
  have hgetb : w'.heap[b]? = some (.cells c' e (0, 0)) := by
    subst hw; simp only [Array.getElem?_setIfInBounds]; simp [hlt]
  have hevo : Evo w ρ ob w' ρ (fun j => if j = id then some o' else ob j) := by
    refine ⟨by subst hw; rfl, by subst hw; rfl, by subst hw; rfl, by subst hw; simp, fun x hx hn => hget x (fun hxb => hn (hxb ▸ ⟨id, o, ho, hid⟩)), fun x hx => ?_, fun x hx h => (hown x).1 h, fun i x hx => hx⟩
    by_cases hxb : x = b
    · subst hxb; unfold bsz; rw [hgetb, hb]; exact hz
    · unfold bsz; rw [hget x hxb]
  refine ⟨⟨fun i j x hi hj hri hrj => ?_, fun i q hq => ?_, hrep.glob_evo hevo⟩, hevo⟩
  · have nn : ∀ i, (if i = id then some o' else ob i) ≠ none → ob i ≠ none := by
      intro i h; by_cases hi : i = id
      · subst hi; rw [ho]; simp
      · simpa [hi] using h
    exact hrep.inj i j x (nn i hi) (nn j hj) hri hrj
  · by_cases hi : i = id
    · subst hi
      simp only [if_true, Option.some.injEq] at hq
      subst hq
      refine ⟨some b, hid, c', e, hgetb, hl, fun j d hj => ?_⟩
      obtain ⟨u, hu, h1, hd⟩ := hc j d hj
      exact ⟨u, hu, h1, hd.evo hevo⟩
    · simp only [hi, if_false] at hq
      obtain ⟨x, hx, hro⟩ := hrep.obj i q hq
      refine ⟨x, hx, ?_⟩
      cases x with
      | none => simpa [RO] using hro
      | some b2 =>
        have hne : b2 ≠ b := fun hb2 => hi (hrep.inj i id b (by rw [hq]; simp) (by rw [ho]; simp) (hb2 ▸ hx) hid)
        obtain ⟨c2, e2, h2, hl2, hc2⟩ := hro
        exact ⟨c2, e2, (hget b2 hne).trans h2, hl2, fun j d hj => let ⟨u, hu, h1, hd⟩ := hc2 j d hj; ⟨u, hu, h1, hd.evo hevo⟩⟩
end Go.V
