/-
  THE ENGINE, PART 2: the table of types; what loads, stores, new blocks and appends do, said of abstract values.
-/
import Derived.Test.YteidcinajdehkaaQFV1
set_option linter.unusedSimpArgs false
set_option linter.unusedVariables false
namespace Go.V
inductive TK where
  | bool | int (k : IntKind) | str | slice (e : TypeId) | arr (n : Nat) (e : TypeId) | struct (fs : List (Nat × TypeId)) | other | ifc | ptr
structure TI where
  k : TK
  size : Nat
  bytes : Nat
  zero : List D
abbrev Tab := List (TypeId × TI)
def tl : Tab → TypeId → Option TI
  | [], _ => none
  | (a, i) :: l, t => bif a == t then some i else tl l t
def TK.agg : TK → Bool
  | .arr _ _ | .struct _ => true
  | _ => false
def TK.isI : TK → Bool
  | .ifc => true
  | _ => false
def zb : Value → D → Bool
  | .int k n, .v (.int k' n') => decide (k = k') && decide (n = n')
  | .bool b, .v (.bool b') => b == b'
  | .string s, .v (.str s') => s.size == 0 && s'.size == 0
  | .slice none 0 0, .v .nl => true
  | x, .dead => x.oneCell'
  | _, _ => false
def zbs : List Value → List D → Bool
  | [], [] => true
  | x :: xs, d :: ds => zb x d && zbs xs ds
  | _, _ => false
def kb (P : Program) : TypeDesc → TK → Bool
  | .bool, .bool => true
  | .int k, .int k' => decide (k = k')
  | .string, .str => true
  | .slice e, .slice e' => e == e'
  | .array n e, .arr n' e' => n == n' && e == e'
  | .struct fields, .struct fs => fields.toList.map (fun f => (f.offset, f.type)) == fs && fields.toList.all fun f => decide (P.info? f.type |>.any fun i => i.size != 0) && decide (f.name ≠ "_")
  | .struct _, .other | .array _ _, .other | .interface _, .other => false
  | .interface _, .ifc => true
  | .pointer _, .ptr => true
  | _, .other => true
  | _, _ => false
def eqT (P : Program) (t : TypeId) : TK → Bool
  | .struct _ => !P.stoodInHeld t && !P.eqGuardType P.depth t
  | .arr _ _ => !P.eqGuardType P.depth t
  | _ => true
def tyB (P : Program) (t : TypeId) (i : TI) : Bool :=
  (match P.underlying t with | some d => kb P d i.k | none => false) &&
  (match P.info? t with
    | some j => j.size == i.size && j.bytes == i.bytes && (match j.zero with | some z => zbs z.cells.toList i.zero && decide (z.cells.size = i.size) && (i.k.agg || z.oneCell') | none => false)
    | none => false) &&
  eqT P t i.k
def TOk (P : Program) (T : Tab) : Prop := ∀ t i, tl T t = some i → tyB P t i = true
def tabB (P : Program) : Tab → Bool
  | [] => true
  | (a, i) :: l => tyB P a i && tabB P l
theorem tabB_ok {P : Program} : ∀ {T : Tab}, tabB P T = true → TOk P T
  | [], _, _, _, h => by simp [tl] at h
  | (a, i) :: l, hb, t, j, h => by
    simp only [tabB, Bool.and_eq_true] at hb
    simp only [tl] at h
    by_cases ha : a == t
    · simp only [ha, cond_true, Option.some.injEq] at h
      subst h; have := beq_iff_eq.1 ha; subst this; exact hb.1
    · simp only [ha, cond_false] at h
      exact tabB_ok hb.2 t j h
section facts
variable {P : Program} {T : Tab} {t : TypeId} {i : TI}
theorem TOk.desc (h : TOk P T) (ht : tl T t = some i) : ∃ d, P.underlying t = some d ∧ kb P d i.k = true := by
  have := h t i ht
  simp only [tyB, Bool.and_eq_true] at this
  cases hd : P.underlying t with
  | none => simp [hd] at this
  | some d => exact ⟨d, rfl, by simpa [hd] using this.1.1⟩
theorem TOk.info (h : TOk P T) (ht : tl T t = some i) : ∃ j z, P.info? t = some j ∧ j.size = i.size ∧ j.bytes = i.bytes ∧ j.zero = some z ∧ zbs z.cells.toList i.zero = true ∧ z.cells.size = i.size := by
  have := h t i ht
  simp only [tyB, Bool.and_eq_true] at this
  cases hd : P.info? t with
  | none => simp [hd] at this
  | some j =>
    have h2 := this.1.2
    simp only [hd, Bool.and_eq_true] at h2
    cases hz : j.zero with
    | none => simp [hz] at h2
    | some z =>
      simp only [hz, Bool.and_eq_true, decide_eq_true_eq, beq_iff_eq] at h2
      exact ⟨j, z, rfl, h2.1.1, h2.1.2, hz, h2.2.1.1, h2.2.1.2⟩
theorem TOk.zero1 (h : TOk P T) (ht : tl T t = some i) (hk : i.k.agg = false) : ∃ j z, P.info? t = some j ∧ j.zero = some z ∧ z.oneCell' = true ∧ zbs z.cells.toList i.zero = true := by
  have := h t i ht
  simp only [tyB, Bool.and_eq_true] at this
  cases hd : P.info? t with
  | none => simp [hd] at this
  | some j =>
    have h2 := this.1.2
    simp only [hd, Bool.and_eq_true] at h2
    cases hz : j.zero with
    | none => simp [hz] at h2
    | some z =>
      simp only [hz, Bool.and_eq_true, hk, Bool.false_or] at h2
      exact ⟨j, z, rfl, hz, h2.2.2, h2.2.1.1⟩
theorem TOk.noIface (h : TOk P T) (ht : tl T t = some i) (hi : i.k.isI = false) : ∃ d, P.underlying t = some d ∧ ∀ ms, d ≠ .interface ms := by
  obtain ⟨d, hd, hb⟩ := h.desc ht
  refine ⟨d, hd, fun ms e => ?_⟩
  subst e
  cases hk : i.k <;> rw [hk] at hb hi <;> simp [kb] at hb
  simp [TK.isI] at hi
theorem TOk.eqT (h : TOk P T) (ht : tl T t = some i) : eqT P t i.k = true := by
  have := h t i ht
  simp only [tyB, Bool.and_eq_true] at this
  exact this.2
theorem TOk.slice (h : TOk P T) (ht : tl T t = some i) {e : TypeId} (hk : i.k = .slice e) : P.underlying t = some (.slice e) := by
  obtain ⟨d, hd, hb⟩ := h.desc ht
  rw [hk] at hb
  cases d <;> simp [kb] at hb
  rw [hd, hb]
theorem TOk.arr (h : TOk P T) (ht : tl T t = some i) {n : Nat} {e : TypeId} (hk : i.k = .arr n e) : P.underlying t = some (.array n e) := by
  obtain ⟨d, hd, hb⟩ := h.desc ht
  rw [hk] at hb
  cases d <;> simp [kb] at hb
  rw [hd, hb.1, hb.2]
theorem TOk.int (h : TOk P T) (ht : tl T t = some i) {k : IntKind} (hk : i.k = .int k) : P.underlying t = some (.int k) := by
  obtain ⟨d, hd, hb⟩ := h.desc ht
  rw [hk] at hb
  cases d <;> simp [kb] at hb
  rw [hd, hb]
theorem TOk.bool (h : TOk P T) (ht : tl T t = some i) (hk : i.k = .bool) : P.underlying t = some .bool := by
  obtain ⟨d, hd, hb⟩ := h.desc ht
  rw [hk] at hb
  cases d <;> simp [kb] at hb
  exact hd
theorem TOk.str (h : TOk P T) (ht : tl T t = some i) (hk : i.k = .str) : P.underlying t = some .string := by
  obtain ⟨d, hd, hb⟩ := h.desc ht
  rw [hk] at hb
  cases d <;> simp [kb] at hb
  exact hd
theorem TOk.isAgg (h : TOk P T) (ht : tl T t = some i) (w : World) : (isAgg t).run P w = .ok i.k.agg w := by
  obtain ⟨d, hd, hb⟩ := h.desc ht
  unfold Go.isAgg
  rw [Sem.run_bind, run_underlying hd w]
  cases hk : i.k <;> rw [hk] at hb <;> cases d <;> simp [kb] at hb <;> simp [TK.agg]
theorem TOk.sizeOf (h : TOk P T) (ht : tl T t = some i) (w : World) : (sizeOf t).run P w = .ok i.size w := by
  obtain ⟨j, z, hj, hs, _⟩ := h.info ht
  simp [Go.sizeOf, typeInfo, hj, hs]
end facts
theorem addr_add (b o j : Nat) : (⟨b, o, none⟩ : Addr).add j = ⟨b, o + j, none⟩ := by
  unfold Addr.add; split <;> simp_all
section read
variable {w : World} {own : Nat → Prop} {ρ : Rho}
theorem RC.get {b off : Nat} {cs : List PV} (h : RC w own b off cs) : ∀ {j : Nat} {p : PV}, cs[j]? = some p → ∃ v, w.cell? ⟨b, off + j, none⟩ = some v ∧ v.oneCell' = true ∧ ¬ own b ∧ RP w own v p := by
  induction cs generalizing off with
  | nil => intro j p hj; simp at hj
  | cons q cs ih =>
    intro j p hj
    cases h with
    | cons b off v p' cs' hb h1 ho hh ht =>
      cases j with
      | zero => simp at hj; subst hj; exact ⟨v, hb, h1, ho, hh⟩
      | succ j => obtain ⟨u, hu, r⟩ := ih ht (by simpa using hj); exact ⟨u, by rw [show off + (j + 1) = off + 1 + j by omega]; exact hu, r⟩
theorem RC.mk {b off : Nat} {cs : List PV} (h : ∀ (j : Nat) (p : PV), cs[j]? = some p → ∃ v, w.cell? ⟨b, off + j, none⟩ = some v ∧ v.oneCell' = true ∧ ¬ own b ∧ RP w own v p) : RC w own b off cs := by
  induction cs generalizing off with
  | nil => exact .nil b off
  | cons q cs ih =>
    obtain ⟨v, hv, h1, ho, hp⟩ := h 0 q (by simp)
    exact .cons b off v q cs hv h1 ho hp (ih fun j p hj => by
      have := h (j + 1) p (by simpa using hj)
      rwa [show off + (j + 1) = off + 1 + j by omega] at this)
theorem RC.drop {b off : Nat} {cs : List PV} (h : RC w own b off cs) (k : Nat) : RC w own b (off + k) (cs.drop k) :=
  RC.mk fun j p hj => by
    rw [List.getElem?_drop] at hj
    have := h.get hj
    rwa [show off + (k + j) = off + k + j by omega] at this
theorem RC.take {b off : Nat} {cs : List PV} (h : RC w own b off cs) (k : Nat) : RC w own b off (cs.take k) :=
  RC.mk fun j p hj => by
    rw [List.getElem?_take] at hj
    split at hj
    · exact h.get hj
    · cases hj
theorem cells_list {α : Type} {f : Nat → Option Value} {cs : List α} {R : Value → α → Prop} (h : ∀ (j : Nat) (p : α), cs[j]? = some p → ∃ v, f j = some v ∧ v.oneCell' = true ∧ R v p) :
    ∃ vs : List Value, vs.length = cs.length ∧ (∀ (j : Nat) v, vs[j]? = some v → f j = some v ∧ v.oneCell' = true) ∧ ∀ (j : Nat) v p, vs[j]? = some v → cs[j]? = some p → R v p := by
  induction cs generalizing f with
  | nil => exact ⟨[], rfl, by simp, by simp⟩
  | cons q cs ih =>
    obtain ⟨v, hv, h1, hr⟩ := h 0 q (by simp)
    obtain ⟨vs, hl, ha, hb⟩ := ih (f := fun j => f (j + 1)) (fun j p hj => h (j + 1) p (by simpa using hj))
    refine ⟨v :: vs, by simp [hl], fun j u hj => ?_, fun j u p hj hp => ?_⟩
    · cases j with
      | zero => simp at hj; subst hj; exact ⟨hv, h1⟩
      | succ j => exact ha j u (by simpa using hj)
    · cases j with
      | zero => simp at hj hp; subst hj; subst hp; exact hr
      | succ j => exact hb j u p (by simpa using hj) (by simpa using hp)
theorem RPs.mk : ∀ {vs : List Value} {cs : List PV}, vs.length = cs.length → (∀ (j : Nat) v p, vs[j]? = some v → cs[j]? = some p → RP w own v p) → RPs w own vs cs
  | [], [], _, _ => .nil
  | v :: vs, c :: cs, hl, h => .cons v c vs cs (h 0 v c (by simp) (by simp)) (RPs.mk (by simpa using hl) fun j v p hv hp => h (j + 1) v p (by simpa using hv) (by simpa using hp))
  | [], _ :: _, hl, _ => by simp at hl
  | _ :: _, [], hl, _ => by simp at hl
theorem RDs.mk : ∀ {vs : List Value} {cs : List D}, vs.length = cs.length → (∀ (j : Nat) v d, vs[j]? = some v → cs[j]? = some d → RD w own ρ v d) → RDs w own ρ vs cs
  | [], [], _, _ => .nil
  | v :: vs, c :: cs, hl, h => .cons v c vs cs (h 0 v c (by simp) (by simp)) (RDs.mk (by simpa using hl) fun j v p hv hp => h (j + 1) v p (by simpa using hv) (by simpa using hp))
  | [], _ :: _, hl, _ => by simp at hl
  | _ :: _, [], hl, _ => by simp at hl
theorem RPs.len : ∀ {vs : List Value} {cs : List PV}, RPs w own vs cs → vs.length = cs.length
  | _, _, .nil => rfl
  | _, _, .cons _ _ _ _ _ t => by simp [t.len]
theorem RDs.len : ∀ {vs : List Value} {cs : List D}, RDs w own ρ vs cs → vs.length = cs.length
  | _, _, .nil => rfl
  | _, _, .cons _ _ _ _ _ t => by simp [t.len]
theorem RPs.get {vs : List Value} {cs : List PV} (h : RPs w own vs cs) : ∀ {j : Nat} {p : PV}, cs[j]? = some p → ∃ v, vs[j]? = some v ∧ RP w own v p := by
  induction vs generalizing cs with
  | nil => cases h; intro j p hj; simp at hj
  | cons x vs ih =>
    cases h with
    | cons _ q _ cs hh ht =>
      intro j p hj
      cases j with
      | zero => simp at hj; subst hj; exact ⟨x, by simp, hh⟩
      | succ j => obtain ⟨v, hv, r⟩ := ih ht (by simpa using hj); exact ⟨v, by simpa using hv, r⟩
theorem RDs.get {vs : List Value} {cs : List D} (h : RDs w own ρ vs cs) : ∀ {j : Nat} {d : D}, cs[j]? = some d → ∃ v, vs[j]? = some v ∧ RD w own ρ v d := by
  induction vs generalizing cs with
  | nil => cases h; intro j p hj; simp at hj
  | cons x vs ih =>
    cases h with
    | cons _ q _ cs hh ht =>
      intro j p hj
      cases j with
      | zero => simp at hj; subst hj; exact ⟨x, by simp, hh⟩
      | succ j => obtain ⟨v, hv, r⟩ := ih ht (by simpa using hj); exact ⟨v, by simpa using hv, r⟩
end read
section load
variable {P : Program} {T : Tab} {w : World} {ρ : Rho} {ob : Ob} {t : TypeId} {i : TI}
theorem run_loadVar_one (hT : TOk P T) (ht : tl T t = some i) (hk : i.k.agg = false) {b off : Nat} {v : Value} (h : w.cell? ⟨b, off, none⟩ = some v) :
    (loadVar t ⟨b, off, none⟩).run P w = .ok v w := by
  simp [loadVar, hT.isAgg ht, hk, h]
theorem run_loadVar_agg (hT : TOk P T) (ht : tl T t = some i) (hk : i.k.agg = true) {b off : Nat} {vs : List Value} (hl : vs.length = i.size) (h : ∀ (j : Nat) v, vs[j]? = some v → w.cell? ⟨b, off + j, none⟩ = some v) :
    (loadVar t ⟨b, off, none⟩).run P w = .ok (.agg vs.toArray) w := by
  have hc := run_loadCells_list (P := P) w ⟨b, off, none⟩ vs (fun j v hv => by rw [addr_add]; exact h j v hv)
  rw [hl] at hc
  simp [loadVar, hT.isAgg ht, hk, hT.sizeOf ht, hc]
def gp (cs : List PV) (i : Nat) : PV := cs.getD i .nl
def gd (cs : List D) (i : Nat) : D := cs.getD i .dead
theorem gp_some {cs : List PV} {j : Nat} (h : j < cs.length) : cs[j]? = some (gp cs j) := by
  simp [gp, List.getD, List.getElem?_eq_getElem h]
theorem gd_some {cs : List D} {j : Nat} (h : j < cs.length) : cs[j]? = some (gd cs j) := by
  simp [gd, List.getD, List.getElem?_eq_getElem h]
theorem load_imm (hT : TOk P T) (ht : tl T t = some i) {own : Nat → Prop} {b off : Nat} {cs : List PV} (hc : RC w own b off cs) :
    (i.k.agg = false → 0 < cs.length → ∃ v, (loadVar t ⟨b, off, none⟩).run P w = .ok v w ∧ RP w own v (gp cs 0)) ∧
    (i.k.agg = true → i.size ≤ cs.length → ∃ v, (loadVar t ⟨b, off, none⟩).run P w = .ok v w ∧ RP w own v (.agg (cs.take i.size))) := by
  constructor
  · intro hk hl
    obtain ⟨v, hv, _, _, hp⟩ := hc.get (gp_some hl)
    exact ⟨v, run_loadVar_one hT ht hk hv, hp⟩
  · intro hk hl
    have ht' := hc.take i.size
    obtain ⟨vs, h1, h2, h3⟩ := cells_list (f := fun j => w.cell? ⟨b, off + j, none⟩) (cs := cs.take i.size) (R := RP w own)
      (fun j p hj => let ⟨v, a1, a2, _, a4⟩ := ht'.get hj; ⟨v, a1, a2, a4⟩)
    have hlen : vs.length = i.size := by rw [h1]; simp; omega
    exact ⟨_, run_loadVar_agg hT ht hk hlen (fun j v hv => (h2 j v hv).1), .agg vs _ (fun u hu => by
      obtain ⟨j, hj, rfl⟩ := List.mem_iff_getElem.1 hu
      exact (h2 j _ (List.getElem?_eq_getElem hj)).2) (RPs.mk h1 h3)⟩
theorem load_obj (hT : TOk P T) (ht : tl T t = some i) (hrep : Rep w ρ ob) {id b off : Nat} {o : AObj} (ho : ob id = some o) (hr : ρ id = some (some b)) :
    (i.k.agg = false → ∀ d, o.cells[off]? = some d → ∃ v, (loadVar t ⟨b, off, none⟩).run P w = .ok v w ∧ v.oneCell' = true ∧ RD w (Own ρ ob) ρ v d) ∧
    (i.k.agg = true → off + i.size ≤ o.cells.length → ∃ vs : List Value, (loadVar t ⟨b, off, none⟩).run P w = .ok (.agg vs.toArray) w ∧ (∀ u ∈ vs, u.oneCell' = true) ∧ RDs w (Own ρ ob) ρ vs ((o.cells.drop off).take i.size)) := by
  obtain ⟨x, hx, hro⟩ := hrep.obj id o ho
  rw [hr] at hx
  cases hx
  obtain ⟨c, e, hb, hl, hc⟩ := hro
  have hcell : ∀ (j : Nat) (d : D), o.cells[j]? = some d → ∃ u : Value, w.cell? ⟨b, j, none⟩ = some u ∧ u.oneCell' = true ∧ RD w (Own ρ ob) ρ u d := fun j d hj => by
    obtain ⟨u, h1, h2, h3⟩ := hc j d hj
    exact ⟨u, by rw [cell_of_row w b j c e _ hb]; exact h1, h2, h3⟩
  constructor
  · intro hk d hd
    obtain ⟨u, h1, h2, h3⟩ := hcell off d hd
    exact ⟨u, run_loadVar_one hT ht hk h1, h2, h3⟩
  · intro hk hl
    obtain ⟨vs, h1, h2, h3⟩ := cells_list (f := fun j => w.cell? ⟨b, off + j, none⟩) (cs := (o.cells.drop off).take i.size) (R := RD w (Own ρ ob) ρ)
      (fun j d hj => by
        rw [List.getElem?_take] at hj
        split at hj
        · rw [List.getElem?_drop] at hj; exact hcell _ d hj
        · cases hj)
    have hlen : vs.length = i.size := by rw [h1]; simp; omega
    exact ⟨vs, run_loadVar_agg hT ht hk hlen (fun j v hv => (h2 j v hv).1), fun u hu => by
      obtain ⟨j, hj, rfl⟩ := List.mem_iff_getElem.1 hu
      exact (h2 j _ (List.getElem?_eq_getElem hj)).2, RDs.mk h1 h3⟩
end load
theorem RDs.of_v {w : World} {own : Nat → Prop} {ρ : Rho} : ∀ {vs : List Value} {cs : List PV}, RDs w own ρ vs (cs.map .v) → RPs w own vs cs
  | [], [], _ => .nil
  | [], _ :: _, h => by cases h
  | _ :: _, [], h => by cases h
  | v :: vs, c :: cs, h => by
    simp only [List.map_cons] at h
    cases h with
    | cons _ _ _ _ h1 h2 =>
      cases h1 with
      | v _ _ h1 => exact .cons v c vs cs h1 (RDs.of_v h2)
theorem RPs.to_v {w : World} {own : Nat → Prop} {ρ : Rho} : ∀ {vs : List Value} {cs : List PV}, RPs w own vs cs → RDs w own ρ vs (cs.map .v)
  | _, _, .nil => .nil
  | _, _, .cons v p vs cs h t => .cons v (.v p) vs (cs.map .v) (.v v p h) t.to_v
end Go.V
