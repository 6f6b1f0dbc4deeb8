/-
  THE ENGINE, PART 3: what each operation does to abstract values, and that it is so.
-/
import Derived.Test.YteidcinajdehkaaQFV2
set_option linter.unusedSimpArgs false
set_option linter.unusedVariables false
namespace Go.V
inductive R where
  | bad
  | ok (d : D) (wr : List (Nat × Option AObj)) (al rd : List Nat) (side : Prop)
def R.val (d : D) (side : Prop) : R := .ok d [] [] [] side
def Out (r : Result Next) (w : World) (ρ : Rho) (ob : Ob) (d : D) (wr : List (Nat × Option AObj)) (al : List Nat) : Prop :=
  ∃ v w' ρ', (r = .ok (.value v) w' ∨ (r = .ok .skip w' ∧ v = undef)) ∧ RD w' (Own ρ' (upd ob wr)) ρ' v d ∧ Rep w' ρ' (upd ob wr) ∧ Evo w ρ ob w' ρ' (upd ob wr) ∧ ∀ i, i ∉ al → ρ' i = ρ i
def Outs (r : Result Next) (w : World) (ρ : Rho) (ob : Ob) (x : R) : Prop :=
  ∀ d wr al rd side, x = .ok d wr al rd side → side → (∀ i ∈ al, ρ i = none) → Out r w ρ ob d wr al
section helpers
variable {w : World} {ρ : Rho} {ob : Ob} {r : Result Next}
theorem Outs.bad : Outs r w ρ ob .bad := fun _ _ _ _ _ h => by cases h
theorem Outs.val {d : D} {side : Prop} (hrep : Rep w ρ ob) (h : side → ∃ v, r = .ok (.value v) w ∧ RD w (Own ρ ob) ρ v d) : Outs r w ρ ob (.val d side) := by
  intro d' wr al rd side' he hs _
  simp only [R.val, R.ok.injEq] at he
  obtain ⟨rfl, rfl, rfl, rfl, rfl⟩ := he
  obtain ⟨v, hr, hd⟩ := h hs
  exact ⟨v, w, ρ, .inl hr, hd, hrep, Evo.refl _ _ _, fun _ _ => rfl⟩
theorem Outs.rd {d : D} {side : Prop} {rd : List Nat} (hrep : Rep w ρ ob) (h : side → ∃ v, r = .ok (.value v) w ∧ RD w (Own ρ ob) ρ v d) : Outs r w ρ ob (.ok d [] [] rd side) := by
  intro d' wr al rd side' he hs _
  simp only [R.ok.injEq] at he
  obtain ⟨rfl, rfl, rfl, rfl, rfl⟩ := he
  obtain ⟨v, hr, hd⟩ := h hs
  exact ⟨v, w, ρ, .inl hr, hd, hrep, Evo.refl _ _ _, fun _ _ => rfl⟩
theorem Outs.alloc {d : D} {side : Prop} {rd : List Nat} {id : Nat} {o : AObj}
    (h : side → ∃ (v : Value) (w1 : World) (c : Array Value) (e : TypeId), Rep w1 ρ ob ∧ Evo w ρ ob w1 ρ ob ∧ r = .ok (.value v) (w1.alloc (.cells c e)) ∧ o.cells.length ≤ c.size ∧
      (∀ (j : Nat) (d : D), o.cells[j]? = some d → ∃ u : Value, c[j]? = some u ∧ u.oneCell' = true ∧ RD w1 (Own ρ ob) ρ u d) ∧
      ∀ (ρ' : Rho) (ob' : Ob), ρ' id = some (some w1.heap.size) → RD (w1.alloc (.cells c e)) (Own ρ' ob') ρ' v d) :
    Outs r w ρ ob (.ok d [(id, some o)] [id] rd side) := by
  intro d' wr al rd side' he hs hal
  simp only [R.ok.injEq] at he
  obtain ⟨rfl, rfl, rfl, rfl, rfl⟩ := he
  obtain ⟨v, w1, c, e, hrep1, hevo1, hr, hl, hc, hd⟩ := h hs
  obtain ⟨h1, h2⟩ := alloc_step (e := e) hrep1 (hal id (by simp)) hl hc
  exact ⟨v, _, _, .inl hr, hd _ _ (by simp), h1, hevo1.trans h2, fun i hi => by simp at hi; simp [hi]⟩
end helpers
def oneP : PV → Bool
  | .agg _ | .tup _ => false
  | _ => true
def oneD : D → Bool
  | .v p => oneP p
  | .sl .. | .slr .. | .ptr .. | .fn .. => true
  | _ => false
theorem RP.one {w : World} {own : Nat → Prop} {x : Value} {p : PV} (h : RP w own x p) (h1 : oneP p = true) : x.oneCell' = true := by
  cases h <;> first | rfl | simp [oneP] at h1
theorem RD.one {w : World} {own : Nat → Prop} {ρ : Rho} {x : Value} {d : D} (h : RD w own ρ x d) (h1 : oneD d = true) : x.oneCell' = true := by
  cases h with
  | v x p hp => exact hp.one h1
  | _ => first | rfl | simp [oneD] at h1
def boxD : D → Option AObj
  | .v (.agg cs) => some (.p cs)
  | .v p => bif oneP p then some (.p [p]) else none
  | .agg ds => some (.r ds)
  | .sl f a b c e => some (.r [.sl f a b c e])
  | .slr a b c r e => some (.r [.slr a b c r e])
  | .ptr a b => some (.r [.ptr a b])
  | .fn f cs => some (.r [.fn f cs])
  | _ => none
theorem cells_one {v : Value} (h : v.oneCell' = true) : v.cells = #[v] := by
  cases v <;> first | rfl | simp [Value.oneCell'] at h
theorem box_cells {w : World} {own : Nat → Prop} {ρ : Rho} {x : Value} {d : D} {o : AObj} (h : RD w own ρ x d) (hb : boxD d = some o) :
    ∃ vs : List Value, x.cells = vs.toArray ∧ (∀ u ∈ vs, u.oneCell' = true) ∧ RDs w own ρ vs o.cells := by
  have one : ∀ (hd : oneD d = true), o = .r [d] → ∃ vs : List Value, x.cells = vs.toArray ∧ (∀ u ∈ vs, u.oneCell' = true) ∧ RDs w own ρ vs o.cells := by
    intro hd ho
    subst ho
    have h1 := h.one hd
    exact ⟨[x], by rw [cells_one h1], by simpa using h1, .cons x d [] [] h .nil⟩
  cases h with
  | dead => simp [boxD] at hb
  | v x p hp =>
    by_cases ha : ∃ cs, p = .agg cs
    · obtain ⟨cs, rfl⟩ := ha
      simp only [boxD, Option.some.injEq] at hb
      subst hb
      cases hp with
      | agg vs cs h1 hh => exact ⟨vs, rfl, h1, hh.to_v⟩
    · have hbb : (bif oneP p then some (AObj.p [p]) else none) = some o := by
        cases p <;> first | exact hb | exact absurd ⟨_, rfl⟩ ha
      cases hp1 : oneP p with
      | false => simp [hp1] at hbb
      | true =>
        simp only [hp1, cond_true, Option.some.injEq] at hbb
        subst hbb
        have h1 := hp.one hp1
        exact ⟨[x], by rw [cells_one h1], by simpa using h1, .cons x (.v p) [] [] (.v x p hp) .nil⟩
  | agg vs cs h1 hh =>
    simp only [boxD, Option.some.injEq] at hb
    subst hb
    exact ⟨vs, rfl, h1, hh⟩
  | tup => simp [boxD] at hb
  | sl => simp only [boxD, Option.some.injEq] at hb; exact one rfl hb.symm
  | slN => simp only [boxD, Option.some.injEq] at hb; exact one rfl hb.symm
  | slr => simp only [boxD, Option.some.injEq] at hb; exact one rfl hb.symm
  | slrN => simp only [boxD, Option.some.injEq] at hb; exact one rfl hb.symm
  | ptr => simp only [boxD, Option.some.injEq] at hb; exact one rfl hb.symm
  | fn => simp only [boxD, Option.some.injEq] at hb; exact one rfl hb.symm
  | ifc => simp only [boxD, Option.some.injEq] at hb; exact one rfl hb.symm
  | bf => simp only [boxD, Option.some.injEq] at hb; exact one rfl hb.symm
theorem RDs.cells {w : World} {own : Nat → Prop} {ρ : Rho} {vs : List Value} {cs : List D} (h1 : ∀ u ∈ vs, u.oneCell' = true) (h : RDs w own ρ vs cs) :
    ∀ (j : Nat) (d : D), cs[j]? = some d → ∃ u : Value, vs.toArray[j]? = some u ∧ u.oneCell' = true ∧ RD w own ρ u d := by
  intro j d hj
  obtain ⟨v, hv, hd⟩ := h.get hj
  exact ⟨v, by simpa using hv, h1 v (List.mem_of_getElem? hv), hd⟩
section ops
variable {P : Program} {T : Tab} {w : World} {ρ : Rho} {ob : Ob}
def bitsI (op : BinOp) (k : IntKind) (a b : Int) : Int :=
  match op with
  | .and => k.wrap (((a % 2 ^ k.bits).toNat &&& (b % 2 ^ k.bits).toNat : Nat) : Int)
  | .or => k.wrap (((a % 2 ^ k.bits).toNat ||| (b % 2 ^ k.bits).toNat : Nat) : Int)
  | .xor => k.wrap (((a % 2 ^ k.bits).toNat ^^^ (b % 2 ^ k.bits).toNat : Nat) : Int)
  | _ => k.wrap (((a % 2 ^ k.bits).toNat &&& (2 ^ k.bits - 1 - (b % 2 ^ k.bits).toNat) : Nat) : Int)
def isSh : BinOp → Bool
  | .shl | .shr => true
  | _ => false
def shI (op : BinOp) (k : IntKind) (a b : Int) : Int :=
  match op with
  | .shl => k.wrap (a * 2 ^ (min b.toNat k.bits))
  | _ => a.fdiv (2 ^ (min b.toNat k.bits))
def arithR (op : BinOp) (k : IntKind) (a b : Int) : R :=
  match op with
  | .add => .val (.v (.int k (k.wrap (a + b)))) True
  | .sub => .val (.v (.int k (k.wrap (a - b)))) True
  | .mul => .val (.v (.int k (k.wrap (a * b)))) True
  | .quo => .val (.v (.int k (k.wrap (a.tdiv b)))) (b ≠ 0)
  | .rem => .val (.v (.int k (a.tmod b))) (b ≠ 0)
  | .eql => .val (.v (.bool (a == b))) True
  | .neq => .val (.v (.bool (a != b))) True
  | .lss => .val (.v (.bool (decide (a < b)))) True
  | .leq => .val (.v (.bool (decide (a ≤ b)))) True
  | .gtr => .val (.v (.bool (decide (a > b)))) True
  | .geq => .val (.v (.bool (decide (a ≥ b)))) True
  | .and => .val (.v (.int k (bitsI .and k a b))) True
  | .or => .val (.v (.int k (bitsI .or k a b))) True
  | .xor => .val (.v (.int k (bitsI .xor k a b))) True
  | .andNot => .val (.v (.int k (bitsI .andNot k a b))) True
  | _ => .bad
def boolR (op : BinOp) (a b : Bool) : R :=
  match op with
  | .eql => .val (.v (.bool (a == b))) True
  | .neq => .val (.v (.bool (a != b))) True
  | _ => .bad
def nilR (op : BinOp) (n : Nat) : R :=
  match op with
  | .eql => .val (.v (.bool false)) (0 < n)
  | .neq => .val (.v (.bool true)) (0 < n)
  | _ => .bad
def nilnilR (op : BinOp) : R :=
  match op with
  | .eql => .val (.v (.bool true)) True
  | .neq => .val (.v (.bool false)) True
  | _ => .bad
def isBool : Option TI → Bool
  | some ⟨.bool, _, _, _⟩ => true
  | _ => false
def isSlice : Option TI → Bool
  | some ⟨.slice _, _, _, _⟩ => true
  | _ => false
def isPtr : Option TI → Bool
  | some ⟨.ptr, _, _, _⟩ => true
  | _ => false
def intK : Option TI → Option IntKind
  | some ⟨.int k, _, _, _⟩ => some k
  | _ => none
theorem intK_some {T : Tab} {t : TypeId} {k : IntKind} (h : intK (tl T t) = some k) : ∃ i, tl T t = some i ∧ i.k = .int k := by
  unfold intK at h; split at h
  · rename_i k' a b c hi; simp at h; subst h; exact ⟨_, hi, rfl⟩
  · cases h
def cmpI : List PV → List PV → Option Bool
  | [], [] => some true
  | .int k a :: xs, .int k' b :: ys => if k = k' then (match cmpI xs ys with | some r => some ((a == b) && r) | none => none) else none
  | _, _ => none
def flatS (T : Tab) : Nat → List (Nat × TypeId) → Bool
  | _, [] => true
  | n, (off, t) :: l => (off == n) && (intK (tl T t)).isSome && flatS T (n + 1) l
def intOne : Option TI → Bool
  | some ⟨.int _, 1, _, _⟩ => true
  | _ => false
def eqlR (op : BinOp) (r : Bool) : R :=
  match op with
  | .eql => .val (.v (.bool r)) True
  | .neq => .val (.v (.bool !r)) True
  | _ => .bad
def aggEqR (T : Tab) (op : BinOp) (ty : TypeId) (xs ys : List PV) : R :=
  match tl T ty with
  | some ⟨.struct fs, _, _, _⟩ => bif flatS T 0 fs && (fs.length == xs.length) then (match cmpI xs ys with | some r => eqlR op r | none => .bad) else .bad
  | some ⟨.arr n e, _, _, _⟩ => bif intOne (tl T e) && (n == xs.length) then (match cmpI xs ys with | some r => eqlR op r | none => .bad) else .bad
  | _ => .bad
def binR (T : Tab) (op : BinOp) (ty : TypeId) (x y : D) : R :=
  match x, y with
  | .v (.int k a), .v (.int k' b) => bif isSh op then .val (.v (.int k (shI op k a b))) (0 ≤ b) else if k = k' then arithR op k a b else .bad
  | .v (.bool a), .v (.bool b) => bif isBool (tl T ty) then boolR op a b else .bad
  | .v (.lst _ n _), .v .nl => bif isSlice (tl T ty) then nilR op n else .bad
  | .sl _ _ _ n _, .v .nl => bif isSlice (tl T ty) then nilR op n else .bad
  | .v .nl, .v .nl => bif isSlice (tl T ty) then nilnilR op else .bad
  | .v (.agg xs), .v (.agg ys) => aggEqR T op ty xs ys
  | .v (.ipt _), .v (.fn f [.bool true]) => bif (f == 999999) && isPtr (tl T ty) then eqlR op false else .bad
  | .ptr _ _, .v (.fn f [.bool true]) => bif (f == 999999) && isPtr (tl T ty) then eqlR op false else .bad
  | .v (.fn f' [.bool true]), .v (.fn f [.bool true]) => bif (f' == 999999) && ((f == 999999) && isPtr (tl T ty)) then eqlR op true else .bad
  | .v (.fn f [.bool false]), .v .nl => bif (f == 999999) && isSlice (tl T ty) then eqlR op false else .bad
  | _, _ => .bad
theorem equal_of {ty : TypeId} {a b : Value} (r : Bool) (h : ∀ d, (Op.equalIn (d + 1) ty a b).run P w = .ok r w) : (Op.equal ty a b).run P w = .ok r w := h 9999
theorem run_eqGuard (op : BinOp) (t : TypeId) (x y : Operand) (a b : Value) (ha : a ≠ .nilIface) (ha2 : ∀ c, a ≠ .agg c) : (eqGuard op t x y a b).run P w = .ok () w := by
  unfold eqGuard
  cases hb : (!(op matches .eql | .neq)) with
  | true => simp
  | false =>
    simp only [Bool.false_eq_true, if_false]
    cases a <;> first | rfl | (cases b <;> rfl) | exact absurd rfl ha | exact absurd rfl (ha2 _)
theorem bin_sh (op : BinOp) (ty : TypeId) (k k' : IntKind) (a b : Int) (h : isSh op = true) (hs : 0 ≤ b) : (binOp op ty (.int k a) (.int k' b)).run P w = .ok (.int k (shI op k a b)) w := by
  have : ¬ b < 0 := by omega
  cases op <;> simp only [isSh, Bool.false_eq_true] at h <;> simp [binOp, Op.shift, shI, this]
theorem bin_int (op : BinOp) (ty : TypeId) (k : IntKind) (a b : Int) (d : D) (side : Prop) (hsh : isSh op = false) (h : arithR op k a b = .val d side) (hs : side) :
    ∃ v, (binOp op ty (.int k a) (.int k b)).run P w = .ok v w ∧ RD w (Own ρ ob) ρ v d := by
  cases op <;> simp only [arithR, R.val, R.ok.injEq, reduceCtorEq] at h <;>
    (obtain ⟨rfl, _, _, _, rfl⟩ := h
     first
      | (refine ⟨.int _ _, ?_, .v _ _ (.int _ _)⟩; simp [binOp, Op.intDiv, Op.intArith, Op.intBits, bitsI, hs])
      | (refine ⟨.bool _, ?_, .v _ _ (.bool _)⟩; simp [binOp, Op.intCmp]))
theorem arithR_val (op : BinOp) (k : IntKind) (a b : Int) : arithR op k a b = .bad ∨ ∃ d side, arithR op k a b = .val d side := by
  cases op <;> first | exact .inl rfl | exact .inr ⟨_, _, rfl⟩
theorem part_int (hT : TOk P T) {t : TypeId} {k : IntKind} {i : TI} (hi : tl T t = some i) (hk : i.k = .int k) {vs : List Value} {n : Nat} {v : Value} (hv : vs[n]? = some v) : (part t vs.toArray n).run P w = .ok v w := by
  unfold part
  rw [Sem.run_bind, hT.isAgg hi]
  simp [hk, TK.agg, hv]
theorem eqFields_ints (hT : TOk P T) : ∀ (fs : List (Nat × TypeId)) (fields : List Field) (n : Nat) (xs ys : List PV) {own : Nat → Prop} {vs us : List Value} {r : Bool}, fields.map (fun f => (f.offset, f.type)) = fs → (∀ f ∈ fields, f.name ≠ "_") → flatS T n fs = true → fs.length = xs.length →
    (∀ (j : Nat) p, xs[j]? = some p → ∃ v, vs[n + j]? = some v ∧ RP w own v p) → (∀ (j : Nat) p, ys[j]? = some p → ∃ v, us[n + j]? = some v ∧ RP w own v p) → cmpI xs ys = some r →
    (Op.eqFields 9999 vs.toArray us.toArray fields).run P w = .ok r w
  | [], [], n, [], [], _, _, _, _, _, _, _, _, _, _, h => by simp only [cmpI, Option.some.injEq] at h; subst h; simp [Op.eqFields]
  | [], [], n, [], _ :: _, _, _, _, _, _, _, _, _, _, _, h => by simp [cmpI] at h
  | [], [], n, _ :: _, _, _, _, _, _, _, _, _, hl, _, _, _ => by simp at hl
  | [], _ :: _, _, _, _, _, _, _, _, hm, _, _, _, _, _, _ => by simp at hm
  | _ :: _, [], _, _, _, _, _, _, _, hm, _, _, _, _, _, _ => by simp at hm
  | (off, t) :: fs, f :: fields, n, xs, ys, own, vs, us, r, hm, hn, hfl, hl, hx, hy, hc => by
    simp only [List.map_cons, List.cons.injEq, Prod.mk.injEq] at hm
    simp only [flatS, Bool.and_eq_true, beq_iff_eq] at hfl
    obtain ⟨⟨hoff, hik⟩, hfl⟩ := hfl
    obtain ⟨kk, hkk⟩ := Option.isSome_iff_exists.1 hik
    obtain ⟨ie, hie, hke⟩ := intK_some hkk
    cases xs with
    | nil => simp at hl
    | cons p xs =>
      cases ys with
      | nil => cases p <;> simp [cmpI] at hc
      | cons q ys =>
        obtain ⟨v, hv, hvp⟩ := hx 0 p (by simp)
        obtain ⟨u, hu, hup⟩ := hy 0 q (by simp)
        cases p <;> cases q <;> simp only [cmpI, reduceCtorEq] at hc
        rename_i k a k' b
        split at hc
        · rename_i hkk'
          subst hkk'
          split at hc
          · rename_i r' hr'
            simp only [Option.some.injEq] at hc
            cases hvp; cases hup
            have e1 : f.offset = n := by rw [hm.1.1]; exact hoff
            have e2 : f.type = t := hm.1.2
            have hnn := hn f (by simp)
            have q1 : (part t vs.toArray n).run P w = .ok (.int k a) w := part_int hT hie hke (by simpa using hv)
            have q2 : (part t us.toArray n).run P w = .ok (.int k b) w := part_int hT hie hke (by simpa using hu)
            have q3 : (Op.equalIn 9999 t (.int k a) (.int k b)).run P w = .ok (a == b) w := run_equalIn_int w 9998 t k kk a b (hT.int hie hke)
            simp only [Op.eqFields]
            rw [if_pos hnn, e1, e2]
            simp only [Sem.run_bind, q1, q2, q3, Result.andThen_ok, Sem.run_ite]
            have ih := eqFields_ints hT fs fields (n + 1) xs ys (own := own) (vs := vs) (us := us) (r := r') hm.2 (fun f hf => hn f (by simp [hf])) hfl (by simpa using hl) (fun j p hj => by have := hx (j + 1) p (by simpa using hj); rwa [show n + (j + 1) = n + 1 + j by omega] at this) (fun j p hj => by have := hy (j + 1) p (by simpa using hj); rwa [show n + (j + 1) = n + 1 + j by omega] at this) hr'
            cases hab : a == b with
            | true => simp only [Bool.not_true, Bool.false_eq_true, if_false, ih]; rw [← hc, hab]; simp
            | false => simp only [Bool.not_false, if_true, Sem.run_pure]; rw [← hc, hab]; simp
          · cases hc
        · cases hc
theorem cmpI_all : ∀ (xs ys : List PV) (r : Bool), cmpI xs ys = some r → ∃ (ka : Nat → IntKind) (fa fb : Nat → Int), (∀ i, i < xs.length → xs[i]? = some (.int (ka i) (fa i)) ∧ ys[i]? = some (.int (ka i) (fb i))) ∧ r = (List.range xs.length).all (fun i => fa i == fb i)
  | [], [], r, h => by
    simp only [cmpI, Option.some.injEq] at h; subst h
    exact ⟨fun _ => .i64, fun _ => 0, fun _ => 0, fun i hi => by simp at hi, by simp⟩
  | [], _ :: _, _, h => by simp [cmpI] at h
  | p :: xs, [], _, h => by cases p <;> simp [cmpI] at h
  | p :: xs, q :: ys, r, h => by
    cases p <;> cases q <;> simp only [cmpI, reduceCtorEq] at h
    rename_i k a k' b
    split at h
    · rename_i hk
      subst hk
      split at h
      · rename_i r' hr'
        simp only [Option.some.injEq] at h
        obtain ⟨ka, fa, fb, h1, h2⟩ := cmpI_all xs ys r' hr'
        refine ⟨fun i => match i with | 0 => k | i + 1 => ka i, fun i => match i with | 0 => a | i + 1 => fa i, fun i => match i with | 0 => b | i + 1 => fb i, fun i hi => ?_, ?_⟩
        · cases i with
          | zero => simp
          | succ i => simpa using h1 i (by simpa using hi)
        · rw [List.length_cons, List.range_succ_eq_map, List.all_cons, List.all_map, ← h, h2]
          rfl
      · cases h
    · cases h
theorem eqArr_ints (hT : TOk P T) {ty e : TypeId} {n : Nat} {ie : TI} {kk : IntKind} (hie : tl T e = some ie) (hke : ie.k = .int kk) (hsz : ie.size = 1) (hu : P.underlying ty = some (.array n e)) {own : Nat → Prop} {vs us : List Value} {r : Bool} (xs ys : List PV) (hn : n = xs.length)
    (hx : RPs w own vs xs) (hy : RPs w own us ys) (hc : cmpI xs ys = some r) : (Op.equalIn (9998 + 2) ty (.agg vs.toArray) (.agg us.toArray)).run P w = .ok r w := by
  obtain ⟨ka, fa, fb, h1, h2⟩ := cmpI_all xs ys r hc
  have hx1 : ∀ i, i < n → vs[i]? = some (.int (ka i) (fa i)) := fun i hi => by
    obtain ⟨v, hv, hp⟩ := hx.get (h1 i (by omega)).1
    cases hp; exact hv
  have hy1 : ∀ i, i < n → us[i]? = some (.int (ka i) (fb i)) := fun i hi => by
    obtain ⟨v, hv, hp⟩ := hy.get (h1 i (by omega)).2
    cases hp; exact hv
  have hs : ∀ w, (sizeOf e).run P w = .ok 1 w := fun w => by rw [hT.sizeOf hie, hsz]
  rw [h2, ← hn, List.range_eq_range', Op.equalIn]
  simp only [Sem.run_bind, run_underlying hu, Result.andThen_ok, hs, Std.Legacy.Range.forIn_eq_forIn_range', Std.Legacy.Range.size, Nat.sub_zero, Nat.add_sub_cancel, Nat.div_one]
  have hl : ∀ i ∈ List.range' 0 n 1, i < n := fun i hi => by simpa using (List.mem_range'_1.1 hi).2
  generalize List.range' 0 n 1 = l at hl ⊢
  clear h1 h2 hc
  induction l with
  | nil => simp
  | cons i l ih =>
    have hi : i < n := hl i (by simp)
    have px : (part e vs.toArray (i * 1)).run P w = .ok (.int (ka i) (fa i)) w := by rw [Nat.mul_one]; exact part_int hT hie hke (hx1 i hi)
    have py : (part e us.toArray (i * 1)).run P w = .ok (.int (ka i) (fb i)) w := by rw [Nat.mul_one]; exact part_int hT hie hke (hy1 i hi)
    have pe : (Op.equalIn (9998 + 1) e (.int (ka i) (fa i)) (.int (ka i) (fb i))).run P w = .ok (fa i == fb i) w := run_equalIn_int w 9998 e (ka i) kk _ _ (hT.int hie hke)
    simp only [List.forIn_cons, Sem.run_bind, px, py, pe, Result.andThen_ok, List.all_cons]
    cases hb : (fa i == fb i)
    · simp
    · simp only [Bool.not_true, Bool.false_eq_true, if_false, Sem.run_pure, Result.andThen_ok, Bool.true_and]
      exact ih fun j hj => hl j (by simp [hj])
theorem RP_nn {own : Nat → Prop} {v : Value} {f : FuncId} (h : RP w own v (.fn f [.bool false])) (hf : (f == 999999) = true) : ∃ a cap, v = .slice (some a) 0 cap ∧ cap ≤ maxLen ∧ (cap = 0 ∨ ∃ b off, a = ⟨b, off, none⟩) := by
  have e : f = 999999 := beq_iff_eq.1 hf
  cases h with
  | fn f hf' vs cs h => exact absurd hf' (by rw [e]; decide)
  | ifc t v p h => exact absurd e (Nat.ne_of_gt (Nat.lt_of_lt_of_le (by decide : 999999 < 1000000) (Nat.le_add_left _ _)))
  | nn a cap h3 h4 => exact ⟨a, cap, rfl, h3, h4⟩
theorem RP_nn_lst {own : Nat → Prop} {v : Value} {f : FuncId} (h : RP w own v (.fn f [.bool false])) (hf : (f == 999999) = true) (g : Bool) (hg : g = false) : RP w own v (.lst g 0 []) := by
  obtain ⟨a, cap, rfl, h3, h4⟩ := RP_nn h hf
  rcases h4 with rfl | ⟨b, off, rfl⟩
  · exact .lst0 g a
  · exact .lst g 0 cap b off [] (Nat.zero_le _) (fun h => by rw [hg] at h; cases h) h3 (.nil _ _)
theorem RP_np {own : Nat → Prop} {v : Value} {f : FuncId} (h : RP w own v (.fn f [.bool true])) (hf : (f == 999999) = true) : v = .pointer none := by
  have e : f = 999999 := beq_iff_eq.1 hf
  cases h with
  | fn f hf' vs cs h => exact absurd hf' (by rw [e]; decide)
  | ifc t v p h => exact absurd e (Nat.ne_of_gt (Nat.lt_of_lt_of_le (by decide : 999999 < 1000000) (Nat.le_add_left _ _)))
  | np => rfl
theorem isSlice_some' (hT : TOk P T) {ty : TypeId} (h : isSlice (tl T ty) = true) : ∃ e, P.underlying ty = some (.slice e) := by
  unfold isSlice at h; split at h
  · rename_i e i1 i2 i3 hi
    exact ⟨e, hT.slice hi rfl⟩
  · cases h
theorem isPtr_some (hT : TOk P T) {ty : TypeId} (h : isPtr (tl T ty) = true) : ∃ e, P.underlying ty = some (.pointer e) := by
  unfold isPtr at h; split at h
  · rename_i i1 i2 i3 hi
    obtain ⟨d, hd, hkb⟩ := hT.desc hi
    cases d <;> simp only [kb, Bool.false_eq_true] at hkb
    exact ⟨_, hd⟩
  · cases h
theorem bin_sound (hT : TOk P T) (hrep : Rep w ρ ob) (op : BinOp) (ty ty2 : TypeId) (x y : Operand) (ev : Operand → Value) (dx dy : D) (vx vy : Value) (hvx : ev x = vx) (hvy : ev y = vy) (hx : RD w (Own ρ ob) ρ vx dx) (hy : RD w (Own ρ ob) ρ vy dy) (o : Oper) (ho : o.op = .binOp op ty x y ty2) :
    Outs ((execOp ev o).run P w) w ρ ob (binR T op ty dx dy) := by
  have hrun : ∀ v, vx ≠ .nilIface → (∀ c, vx ≠ .agg c) → (binOp op ty vx vy).run P w = .ok v w → (execOp ev o).run P w = .ok (.value v) w := by
    intro v h1 h2 h3
    subst hvx hvy
    unfold execOp
    simp only [ho, Sem.run_bind, run_eqGuard op ty x y _ _ h1 h2, Result.andThen_ok, h3, Sem.run_pure]
  unfold binR
  split
  · rename_i k a k' b
    cases hx with | v _ _ hx => cases hy with | v _ _ hy =>
    cases hx; cases hy
    cases hsh : isSh op with
    | true => exact .val hrep fun hs => ⟨_, hrun _ (by simp) (by simp) (bin_sh op ty k k' a b hsh hs), .v _ _ (.int _ _)⟩
    | false =>
    simp only [cond_false]
    split
    · rename_i hk
      subst hk
      rcases arithR_val op k a b with hb | ⟨d, side, hb⟩
      · rw [hb]; exact .bad
      · rw [hb]
        refine .val hrep fun hs => ?_
        obtain ⟨v, h1, h2⟩ := bin_int (P := P) (w := w) (ρ := ρ) (ob := ob) op ty k a b d side hsh hb hs
        exact ⟨v, hrun v (by simp) (by simp) h1, h2⟩
    · exact .bad
  · rename_i a b
    cases hx with | v _ _ hx => cases hy with | v _ _ hy =>
    cases hx; cases hy
    cases ht : isBool (tl T ty) with
    | false => exact .bad
    | true =>
      obtain ⟨i, hi, hk⟩ : ∃ i, tl T ty = some i ∧ i.k = .bool := by
        unfold isBool at ht; split at ht
        · rename_i i1 i2 i3 hi; exact ⟨_, hi, rfl⟩
        · cases ht
      have hu := hT.bool hi hk
      have he : (Op.equal ty (.bool a) (.bool b)).run P w = .ok (a == b) w := equal_of _ fun d => by simp [Op.equalIn, run_underlying hu]
      simp only [cond_true]
      cases op <;> simp only [boolR] <;> first | exact .bad | skip
      · exact .val hrep fun _ => ⟨.bool (a == b), hrun _ (by simp) (by simp) (by simp [binOp, he]), .v _ _ (.bool _)⟩
      · exact .val hrep fun _ => ⟨.bool (a != b), hrun _ (by simp) (by simp) (by simp [binOp, he, bne]), .v _ _ (.bool _)⟩
  · rename_i f n cs
    cases hx with | v _ _ hx => cases hy with | v _ _ hy =>
    cases hy
    cases ht : isSlice (tl T ty) with
    | false => exact .bad
    | true =>
      obtain ⟨i, e, hi, hk⟩ : ∃ i e, tl T ty = some i ∧ i.k = .slice e := by
        unfold isSlice at ht; split at ht
        · rename_i e i1 i2 i3 hi; exact ⟨_, e, hi, rfl⟩
        · cases ht
      have hu := hT.slice hi hk
      simp only [cond_true]
      cases hx with
      | lstN f => cases op <;> simp only [nilR] <;> first | exact .bad | exact .val hrep fun h => absurd h (by omega)
      | lst0 f => cases op <;> simp only [nilR] <;> first | exact .bad | exact .val hrep fun h => absurd h (by omega)
      | lst f n cap b off cs h1 h2 h3 hc =>
        have he : (Op.equal ty (.slice (some ⟨b, off, none⟩) n cap) (.slice none 0 0)).run P w = .ok false w := equal_of _ fun d => by simp [Op.equalIn, run_underlying hu]
        cases op <;> simp only [nilR] <;> first | exact .bad | skip
        · exact .val hrep fun _ => ⟨.bool false, hrun _ (by simp) (by simp) (by simp [binOp, he]), .v _ _ (.bool _)⟩
        · exact .val hrep fun _ => ⟨.bool true, hrun _ (by simp) (by simp) (by simp [binOp, he]), .v _ _ (.bool _)⟩
  · rename_i f id off n sz
    cases hy with | v _ _ hy =>
    cases hy
    cases ht : isSlice (tl T ty) with
    | false => exact .bad
    | true =>
      obtain ⟨i, e, hi, hk⟩ : ∃ i e, tl T ty = some i ∧ i.k = .slice e := by
        unfold isSlice at ht; split at ht
        · rename_i e i1 i2 i3 hi; exact ⟨_, e, hi, rfl⟩
        · cases ht
      have hu := hT.slice hi hk
      simp only [cond_true]
      cases hx with
      | slN => cases op <;> simp only [nilR] <;> first | exact .bad | exact .val hrep fun h => absurd h (by omega)
      | sl f id off n sz b o' cap hr h1 h2 h3 h4 =>
        have he : (Op.equal ty (.slice (some ⟨b, o', none⟩) n cap) (.slice none 0 0)).run P w = .ok false w := equal_of _ fun d => by simp [Op.equalIn, run_underlying hu]
        cases op <;> simp only [nilR] <;> first | exact .bad | skip
        · exact .val hrep fun _ => ⟨.bool false, hrun _ (by simp) (by simp) (by simp [binOp, he]), .v _ _ (.bool _)⟩
        · exact .val hrep fun _ => ⟨.bool true, hrun _ (by simp) (by simp) (by simp [binOp, he]), .v _ _ (.bool _)⟩
  · cases hx with | v _ _ hx => cases hy with | v _ _ hy =>
    cases hx; cases hy
    cases ht : isSlice (tl T ty) with
    | false => exact .bad
    | true =>
      obtain ⟨i, e, hi, hk⟩ : ∃ i e, tl T ty = some i ∧ i.k = .slice e := by
        unfold isSlice at ht; split at ht
        · rename_i e i1 i2 i3 hi; exact ⟨_, e, hi, rfl⟩
        · cases ht
      have hu := hT.slice hi hk
      have he : (Op.equal ty (.slice none 0 0) (.slice none 0 0)).run P w = .ok true w := equal_of _ fun d => by simp [Op.equalIn, run_underlying hu]
      simp only [cond_true]
      cases op <;> simp only [nilnilR] <;> first | exact .bad | skip
      · exact .val hrep fun _ => ⟨.bool true, hrun _ (by simp) (by simp) (by simp [binOp, he]), .v _ _ (.bool _)⟩
      · exact .val hrep fun _ => ⟨.bool false, hrun _ (by simp) (by simp) (by simp [binOp, he]), .v _ _ (.bool _)⟩
  · rename_i xs ys
    cases hx with | v _ _ hx => cases hy with | v _ _ hy =>
    cases hx with | agg vs _ g1 hx => cases hy with | agg us _ g2 hy =>
    have fin : ∀ r, eqT P ty (TK.struct []) = true ∨ P.eqGuardType P.depth ty = false → cmpI xs ys = some r → (Op.equalIn 10000 ty (.agg vs.toArray) (.agg us.toArray)).run P w = .ok r w → Outs ((execOp ev o).run P w) w ρ ob (eqlR op r) := by
      intro r hg hc he
      have hgt : P.eqGuardType P.depth ty = false := by
        rcases hg with hg | hg
        · simp only [eqT, Bool.and_eq_true, Bool.not_eq_true'] at hg; exact hg.2
        · exact hg
      have hrun2 : ∀ v, (binOp op ty (.agg vs.toArray) (.agg us.toArray)).run P w = .ok v w → (execOp ev o).run P w = .ok (.value v) w := by
        intro v h3
        unfold execOp
        simp only [ho, Sem.run_bind, hvx, hvy, run_eqGuard_agg w op ty x y _ _ hgt, Result.andThen_ok, h3, Sem.run_pure]
      cases op <;> simp only [eqlR] <;> first | exact .bad | skip
      · exact .val hrep fun _ => ⟨.bool r, hrun2 _ (by rw [run_eql_struct, he]; rfl), .v _ _ (.bool _)⟩
      · exact .val hrep fun _ => ⟨.bool !r, hrun2 _ (by rw [run_neq_struct, he]; rfl), .v _ _ (.bool _)⟩
    unfold aggEqR
    split
    · rename_i fs n1 n2 n3 hi
      cases hb : flatS T 0 fs && (fs.length == xs.length) with
      | false => exact .bad
      | true =>
        simp only [cond_true]
        split
        · rename_i r hr
          simp only [Bool.and_eq_true, beq_iff_eq] at hb
          have hq := hT.eqT hi
          refine fin r (.inl (by simpa [eqT] using hq)) hr ?_
          obtain ⟨d, hd, hkb⟩ := hT.desc hi
          cases d <;> simp only [kb, Bool.false_eq_true, Bool.and_eq_true] at hkb
          rename_i fields
          have hfo : P.fieldsOf ty = fields := by simp [Program.fieldsOf, hd]
          simp only [eqT, Bool.and_eq_true, Bool.not_eq_true'] at hq
          rw [show (10000 : Nat) = 9999 + 1 from rfl, run_equalIn_struct w 9999 ty _ _ (by rw [hfo]; exact hd) hq.1, hfo]
          exact eqFields_ints hT fs fields.toList 0 xs ys (by simpa using hkb.1) (fun f hf => by
            have := List.all_eq_true.1 hkb.2 f hf
            simp only [Bool.and_eq_true, decide_eq_true_eq] at this
            exact this.2) hb.1 hb.2 (fun j p hj => by
              obtain ⟨v, hv, hp⟩ := hx.get hj
              exact ⟨v, by simpa using hv, hp⟩) (fun j p hj => by
              obtain ⟨v, hv, hp⟩ := hy.get hj
              exact ⟨v, by simpa using hv, hp⟩) hr
        · exact .bad
    · rename_i n e n1 n2 n3 hi
      cases hb : intOne (tl T e) && (n == xs.length) with
      | false => exact .bad
      | true =>
        simp only [cond_true]
        split
        · rename_i r hr
          simp only [Bool.and_eq_true, beq_iff_eq] at hb
          have hq := hT.eqT hi
          simp only [eqT, Bool.not_eq_true'] at hq
          refine fin r (.inr hq) hr ?_
          obtain ⟨ie, kk, hie, hke, hsz⟩ : ∃ ie kk, tl T e = some ie ∧ ie.k = .int kk ∧ ie.size = 1 := by
            have h1 := hb.1
            unfold intOne at h1; split at h1
            · rename_i k' a b hi'; exact ⟨_, k', hi', rfl, rfl⟩
            · cases h1
          rw [show (10000 : Nat) = 9998 + 2 from rfl]
          exact eqArr_ints hT hie hke hsz (hT.arr hi rfl) xs ys hb.2 hx hy hr
        · exact .bad
    · exact .bad
  · rename_i cs f
    cases hb : (f == 999999) && isPtr (tl T ty) with
    | false => exact .bad
    | true =>
    simp only [Bool.and_eq_true] at hb
    obtain ⟨e, hu⟩ := isPtr_some hT hb.2
    cases hx with | v _ _ hx => cases hy with | v _ _ hy =>
    have hy' := RP_np hy hb.1
    subst hy'
    cases hx with | ipt b off cs hc =>
    have he : (Op.equal ty (.pointer (some ⟨b, off, none⟩)) (.pointer none)).run P w = .ok false w := equal_of _ fun d => by simp [Op.equalIn, run_underlying hu]
    simp only [cond_true]
    cases op <;> simp only [eqlR] <;> first | exact .bad | skip
    · exact .val hrep fun _ => ⟨.bool false, hrun _ (by simp) (by simp) (by simp [binOp, he]), .v _ _ (.bool _)⟩
    · exact .val hrep fun _ => ⟨.bool true, hrun _ (by simp) (by simp) (by simp [binOp, he]), .v _ _ (.bool _)⟩
  · rename_i id off f
    cases hb : (f == 999999) && isPtr (tl T ty) with
    | false => exact .bad
    | true =>
    simp only [Bool.and_eq_true] at hb
    obtain ⟨e, hu⟩ := isPtr_some hT hb.2
    cases hy with | v _ _ hy =>
    have hy' := RP_np hy hb.1
    subst hy'
    cases hx with | ptr id off b hr =>
    have he : (Op.equal ty (.pointer (some ⟨b, off, none⟩)) (.pointer none)).run P w = .ok false w := equal_of _ fun d => by simp [Op.equalIn, run_underlying hu]
    simp only [cond_true]
    cases op <;> simp only [eqlR] <;> first | exact .bad | skip
    · exact .val hrep fun _ => ⟨.bool false, hrun _ (by simp) (by simp) (by simp [binOp, he]), .v _ _ (.bool _)⟩
    · exact .val hrep fun _ => ⟨.bool true, hrun _ (by simp) (by simp) (by simp [binOp, he]), .v _ _ (.bool _)⟩
  · rename_i f' f
    cases hb : (f' == 999999) && ((f == 999999) && isPtr (tl T ty)) with
    | false => exact .bad
    | true =>
    simp only [Bool.and_eq_true] at hb
    obtain ⟨e, hu⟩ := isPtr_some hT hb.2.2
    cases hx with | v _ _ hx => cases hy with | v _ _ hy =>
    have hx' := RP_np hx hb.1
    have hy' := RP_np hy hb.2.1
    subst hx' hy'
    have he : (Op.equal ty (.pointer none) (.pointer none)).run P w = .ok true w := equal_of _ fun d => by simp [Op.equalIn, run_underlying hu]
    simp only [cond_true]
    cases op <;> simp only [eqlR] <;> first | exact .bad | skip
    · exact .val hrep fun _ => ⟨.bool true, hrun _ (by simp) (by simp) (by simp [binOp, he]), .v _ _ (.bool _)⟩
    · exact .val hrep fun _ => ⟨.bool false, hrun _ (by simp) (by simp) (by simp [binOp, he]), .v _ _ (.bool _)⟩
  · rename_i f
    cases hb : (f == 999999) && isSlice (tl T ty) with
    | false => exact .bad
    | true =>
    simp only [Bool.and_eq_true] at hb
    obtain ⟨e, hu⟩ := isSlice_some' hT hb.2
    cases hx with | v _ _ hx => cases hy with | v _ _ hy =>
    obtain ⟨a, cap, rfl, _, _⟩ := RP_nn hx hb.1
    cases hy
    have he : (Op.equal ty (.slice (some a) 0 cap) (.slice none 0 0)).run P w = .ok false w := equal_of _ fun d => by simp [Op.equalIn, run_underlying hu]
    simp only [cond_true]
    cases op <;> simp only [eqlR] <;> first | exact .bad | skip
    · exact .val hrep fun _ => ⟨.bool false, hrun _ (by simp) (by simp) (by simp [binOp, he]), .v _ _ (.bool _)⟩
    · exact .val hrep fun _ => ⟨.bool true, hrun _ (by simp) (by simp) (by simp [binOp, he]), .v _ _ (.bool _)⟩
  · exact .bad
def unR (op : UnOp) (x : D) : R :=
  match op, x with
  | .not, .v (.bool b) => .val (.v (.bool !b)) True
  | .neg, .v (.int k n) => .val (.v (.int k (k.wrap (0 - n)))) True
  | _, _ => .bad
theorem un_sound (hrep : Rep w ρ ob) (op : UnOp) (ty : TypeId) (x : Operand) (ev : Operand → Value) (dx : D) (vx : Value) (hvx : ev x = vx) (hx : RD w (Own ρ ob) ρ vx dx) (o : Oper) (ho : o.op = .unOp op ty x) :
    Outs ((execOp ev o).run P w) w ρ ob (unR op dx) := by
  unfold unR
  split
  · cases hx with | v _ _ hx =>
    cases hx
    exact .val hrep fun _ => ⟨.bool _, by simp [execOp, ho, hvx, Op.unary], .v _ _ (.bool _)⟩
  · cases hx with | v _ _ hx =>
    cases hx
    exact .val hrep fun _ => ⟨.int _ _, by simp [execOp, ho, hvx, Op.unary, Op.intArith], .v _ _ (.int _ _)⟩
  · exact .bad
def convR (T : Tab) (src dst : TypeId) (x : D) : R :=
  match x, intK (tl T src), intK (tl T dst) with
  | .v (.int _ n), some _, some k => .val (.v (.int k (k.wrap n))) True
  | _, _, _ => .bad
theorem conv_sound (hT : TOk P T) (hrep : Rep w ρ ob) (src dst : TypeId) (x : Operand) (ev : Operand → Value) (dx : D) (vx : Value) (hvx : ev x = vx) (hx : RD w (Own ρ ob) ρ vx dx) (o : Oper) (ho : o.op = .convert src dst x) :
    Outs ((execOp ev o).run P w) w ρ ob (convR T src dst dx) := by
  unfold convR
  split
  · rename_i k0 n k1 k hk1 hk
    cases hx with | v _ _ hx =>
    cases hx
    obtain ⟨i1, h1, h1'⟩ := intK_some hk1
    obtain ⟨i2, h2, h2'⟩ := intK_some hk
    exact .val hrep fun _ => ⟨.int k (k.wrap n), by simp [execOp, ho, hvx, convert, run_underlying (hT.int h1 h1'), run_underlying (hT.int h2 h2'), Conv.intToInt], .v _ _ (.int _ _)⟩
  · exact .bad
def pickR (c a b : D) : R :=
  match c with
  | .v (.bool t) => match t with
    | true => .val a True
    | false => .val b True
  | _ => .bad
theorem pick_sound (hrep : Rep w ρ ob) (c x y : Operand) (ev : Operand → Value) (dc dx dy : D) (vc : Value) (hvc : ev c = vc) (hc : RD w (Own ρ ob) ρ vc dc) (hx : RD w (Own ρ ob) ρ (ev x) dx) (hy : RD w (Own ρ ob) ρ (ev y) dy) (o : Oper) (ho : o.op = .pick c x y) :
    Outs ((execOp ev o).run P w) w ρ ob (pickR dc dx dy) := by
  unfold pickR
  split
  · rename_i t
    cases hc with | v _ _ hc =>
    cases hc
    cases t with
    | true => exact .val hrep fun _ => ⟨ev x, by simp [execOp, ho, hvc, asBool], hx⟩
    | false => exact .val hrep fun _ => ⟨ev y, by simp [execOp, ho, hvc, asBool], hy⟩
  · exact .bad
def loadR (T : Tab) (ob : Ob) (ty : TypeId) (x : D) : R :=
  match tl T ty with
  | none => .bad
  | some i =>
    match x with
    | .v (.ipt cs) => bif i.k.agg then .val (.v (.agg (cs.take i.size))) (i.size ≤ cs.length) else .val (.v (gp cs 0)) (0 < cs.length)
    | .ptr id off =>
      match ob id with
      | some (.p cs) => bif i.k.agg then .ok (.v (.agg ((cs.drop off).take i.size))) [] [] [id] (off + i.size ≤ cs.length) else .ok (.v (gp cs off)) [] [] [id] (off < cs.length)
      | some (.r cs) => bif i.k.agg then .ok (.agg ((cs.drop off).take i.size)) [] [] [id] (off + i.size ≤ cs.length) else .ok (gd cs off) [] [] [id] (off < cs.length)
      | none => .bad
    | _ => .bad
theorem load_sound (hT : TOk P T) (hrep : Rep w ρ ob) (ty : TypeId) (x : Operand) (ev : Operand → Value) (dx : D) (vx : Value) (hvx : ev x = vx) (hx : RD w (Own ρ ob) ρ vx dx) (o : Oper) (ho : o.op = .load ty x) :
    Outs ((execOp ev o).run P w) w ρ ob (loadR T ob ty dx) := by
  have hrun : ∀ b off v, vx = .pointer (some ⟨b, off, none⟩) → (loadVar ty ⟨b, off, none⟩).run P w = .ok v w → (execOp ev o).run P w = .ok (.value v) w := by
    intro b off v h1 h2
    simp [execOp, ho, hvx, h1, Instr.loadAt, Instr.sureAddr, h2]
  unfold loadR
  split
  · exact .bad
  · rename_i i hi
    split
    · rename_i cs
      cases hx with | v _ _ hx =>
        cases hx with
      | ipt b off cs hc =>
        obtain ⟨h1, h2⟩ := load_imm hT hi hc
        cases hk : i.k.agg with
        | true => exact .val hrep fun hs => let ⟨v, a1, a2⟩ := h2 hk hs; ⟨v, hrun b off v rfl a1, .v _ _ a2⟩
        | false => exact .val hrep fun hs => let ⟨v, a1, a2⟩ := h1 hk hs; ⟨v, hrun b off v rfl a1, .v _ _ a2⟩
    · rename_i id off
      cases hx with
      | ptr id off b hr =>
        split
        · rename_i cs ho
          obtain ⟨h1, h2⟩ := load_obj hT hi hrep (off := off) ho hr
          cases hk : i.k.agg with
          | true =>
            refine .rd hrep fun hs => ?_
            obtain ⟨vs, a1, a2, a3⟩ := h2 hk (by simpa [AObj.cells] using hs)
            refine ⟨_, hrun b off _ rfl a1, .v _ _ (.agg vs _ a2 (RDs.of_v (ρ := ρ) ?_))⟩
            simpa [AObj.cells, List.map_drop, List.map_take] using a3
          | false =>
            refine .rd hrep fun hs => ?_
            obtain ⟨v, a1, _, a3⟩ := h1 hk (.v (gp cs off)) (by simp [AObj.cells, gp_some hs])
            exact ⟨v, hrun b off v rfl a1, a3⟩
        · rename_i cs ho
          obtain ⟨h1, h2⟩ := load_obj hT hi hrep (off := off) ho hr
          cases hk : i.k.agg with
          | true =>
            refine .rd hrep fun hs => ?_
            obtain ⟨vs, a1, a2, a3⟩ := h2 hk hs
            exact ⟨_, hrun b off _ rfl a1, .agg vs _ a2 a3⟩
          | false =>
            refine .rd hrep fun hs => ?_
            obtain ⟨v, a1, _, a3⟩ := h1 hk (gd cs off) (gd_some hs)
            exact ⟨v, hrun b off v rfl a1, a3⟩
        · exact .bad
    · exact .bad
end ops
end Go.V
