/-
  THE ENGINE, PART 23: what an operation asks for, as a test.
-/
import Derived.Test.YteidcinajdehkaaQFV22
set_option linter.unusedSimpArgs false
set_option linter.unusedVariables false
namespace Go.V
def binB (op : BinOp) (x y : D) : Bool :=
  match x, y with
  | .v (.int _ _), .v (.int _ b) => (match op with | .quo => !(decide (b = 0)) | .rem => !(decide (b = 0)) | .shl => decide (0 ≤ b) | .shr => decide (0 ≤ b) | _ => true)
  | .v (.lst _ n _), .v .nl => Nat.blt 0 n
  | .sl _ _ _ n _, .v .nl => Nat.blt 0 n
  | _, _ => true
theorem binB_ok {T : Tab} {op : BinOp} {ty : TypeId} {x y d : D} {wr : List (Nat × Option AObj)} {al rd : List Nat} {side : Prop} (h : binR T op ty x y = .ok d wr al rd side) (hb : binB op x y = true) : side := by
  unfold binR at h
  split at h
  · cases hsh : isSh op with
    | true =>
      simp only [hsh, cond_true, R.val, R.ok.injEq] at h
      obtain ⟨_, _, _, _, rfl⟩ := h
      cases op <;> simp only [isSh, Bool.false_eq_true] at hsh <;> simpa [binB] using hb
    | false =>
    simp only [hsh, cond_false] at h
    split at h
    · cases op <;> simp_all [arithR, R.val, binB] <;> (obtain ⟨_, _, _, _, rfl⟩ := h; first | trivial | assumption)
    · cases h
  · rename_i a b
    cases hk : isBool (tl T ty) <;> simp only [hk, cond_true, cond_false, reduceCtorEq] at h
    cases op <;> simp_all [boolR, R.val]
  · rename_i a n c
    cases hk : isSlice (tl T ty) <;> simp only [hk, cond_true, cond_false, reduceCtorEq] at h
    cases op <;> simp_all [nilR, R.val, binB, Nat.blt_eq] <;> (obtain ⟨_, _, _, _, rfl⟩ := h; assumption)
  · cases hk : isSlice (tl T ty) <;> simp only [hk, cond_true, cond_false, reduceCtorEq] at h
    cases op <;> simp_all [nilR, R.val, binB, Nat.blt_eq] <;> (obtain ⟨_, _, _, _, rfl⟩ := h; assumption)
  · cases hk : isSlice (tl T ty) <;> simp only [hk, cond_true, cond_false, reduceCtorEq] at h
    cases op <;> simp_all [nilnilR, R.val]
  · rename_i xs ys
    have he : ∀ r, eqlR op r = .ok d wr al rd side → side := fun r h => by
      cases op <;> simp only [eqlR, R.val, R.ok.injEq, reduceCtorEq] at h <;> (obtain ⟨_, _, _, _, rfl⟩ := h; trivial)
    unfold aggEqR at h
    split at h
    · rename_i fs n1 n2 n3 hi
      cases hb2 : flatS T 0 fs && (fs.length == xs.length) <;> simp only [hb2, cond_true, cond_false, reduceCtorEq] at h
      split at h
      · exact he _ h
      · cases h
    · rename_i n e n1 n2 n3 hi
      cases hb2 : intOne (tl T e) && (n == xs.length) <;> simp only [hb2, cond_true, cond_false, reduceCtorEq] at h
      split at h
      · exact he _ h
      · cases h
    · cases h
  · rename_i f
    cases hk : (f == 999999) && isPtr (tl T ty) <;> simp only [hk, cond_true, cond_false, reduceCtorEq] at h
    cases op <;> simp_all [eqlR, R.val]
  · rename_i f
    cases hk : (f == 999999) && isPtr (tl T ty) <;> simp only [hk, cond_true, cond_false, reduceCtorEq] at h
    cases op <;> simp_all [eqlR, R.val]
  · rename_i f' f
    cases hk : (f' == 999999) && ((f == 999999) && isPtr (tl T ty)) <;> simp only [hk, cond_true, cond_false, reduceCtorEq] at h
    cases op <;> simp_all [eqlR, R.val]
  · rename_i f
    cases hk : (f == 999999) && isSlice (tl T ty) <;> simp only [hk, cond_true, cond_false, reduceCtorEq] at h
    cases op <;> simp_all [eqlR, R.val]
  · cases h
def loadB (T : Tab) (ob : Ob) (ty : TypeId) (x : D) : Bool :=
  match tl T ty with
  | none => true
  | some i =>
    match x with
    | .v (.ipt cs) => bif i.k.agg then Nat.ble i.size cs.length else Nat.blt 0 cs.length
    | .ptr id off =>
      match ob id with
      | some (.p cs) => bif i.k.agg then Nat.ble (off + i.size) cs.length else Nat.blt off cs.length
      | some (.r cs) => bif i.k.agg then Nat.ble (off + i.size) cs.length else Nat.blt off cs.length
      | none => true
    | _ => true
theorem loadB_ok {T : Tab} {ob : Ob} {ty : TypeId} {x d : D} {wr : List (Nat × Option AObj)} {al rd : List Nat} {side : Prop} (h : loadR T ob ty x = .ok d wr al rd side) (hb : loadB T ob ty x = true) : side := by
  unfold loadR at h
  unfold loadB at hb
  split at h
  · cases h
  rename_i i hi
  simp only [hi] at hb
  split at h
  · rename_i cs
    cases hk : i.k.agg <;> simp only [hk, cond_true, cond_false, R.val, R.ok.injEq] at h hb <;> (obtain ⟨_, _, _, _, rfl⟩ := h) <;> simpa [Nat.blt_eq, Nat.ble_eq] using hb
  · rename_i id off
    split at h
    · rename_i cs ho
      simp only [ho] at hb
      cases hk : i.k.agg <;> simp only [hk, cond_true, cond_false, R.val, R.ok.injEq] at h hb <;> (obtain ⟨_, _, _, _, rfl⟩ := h) <;> simpa [Nat.blt_eq, Nat.ble_eq] using hb
    · rename_i cs ho
      simp only [ho] at hb
      cases hk : i.k.agg <;> simp only [hk, cond_true, cond_false, R.val, R.ok.injEq] at h hb <;> (obtain ⟨_, _, _, _, rfl⟩ := h) <;> simpa [Nat.blt_eq, Nat.ble_eq] using hb
    · cases h
  · cases h
def indexAddrB (T : Tab) (ty : TypeId) (x i : D) : Bool :=
  match elemOfT T ty, i with
  | some (none, sz), .v (.int _ j) =>
    match x with
    | .v (.lst _ n _) => decide (0 ≤ j) && decide (j < n)
    | .sl _ _ _ n sz' => decide (0 ≤ j) && decide (j < n) && sz' == sz && Nat.blt 0 sz
    | _ => true
  | some (some n, _), .v (.int _ j) => decide (0 ≤ j) && decide (j < n)
  | _, _ => true
theorem indexAddrB_ok {T : Tab} {ty : TypeId} {x i d : D} {wr : List (Nat × Option AObj)} {al rd : List Nat} {side : Prop} (h : indexAddrR T ty x i = .ok d wr al rd side) (hb : indexAddrB T ty x i = true) : side := by
  unfold indexAddrR at h
  unfold indexAddrB at hb
  split at h
  · rename_i sz k j he
    simp only [he] at hb
    split at h
    · simp only [R.val, R.ok.injEq] at h
      obtain ⟨_, _, _, _, rfl⟩ := h
      simpa using hb
    · simp only [R.val, R.ok.injEq] at h
      obtain ⟨_, _, _, _, rfl⟩ := h
      simpa [Nat.blt_eq, and_assoc] using hb
    · cases h
  · rename_i n sz k j he
    simp only [he] at hb
    split at h
    · simp only [R.val, R.ok.injEq] at h
      obtain ⟨_, _, _, _, rfl⟩ := h
      simpa using hb
    · simp only [R.val, R.ok.injEq] at h
      obtain ⟨_, _, _, _, rfl⟩ := h
      simpa using hb
    · cases h
  · cases h
def storeB (T : Tab) (ob : Ob) (ty : TypeId) (x v : D) : Bool :=
  match tl T ty, x, boxD v with
  | some i, .ptr id off, some n =>
    match ob id with
    | some o => n.cells.length == i.size && Nat.ble (off + n.cells.length) o.cells.length
    | none => true
  | _, _, _ => true
theorem storeB_ok {T : Tab} {ob : Ob} {ty : TypeId} {x v d : D} {wr : List (Nat × Option AObj)} {al rd : List Nat} {side : Prop} (h : storeR T ob ty x v = .ok d wr al rd side) (hb : storeB T ob ty x v = true) : side := by
  unfold storeR at h
  unfold storeB at hb
  split at h
  · rename_i i id off n hi hn
    simp only [hi, hn] at hb
    split at h
    · rename_i o ho
      simp only [ho] at hb
      simp only [R.ok.injEq] at h
      obtain ⟨_, _, _, _, rfl⟩ := h
      simpa [Nat.ble_eq] using hb
    · cases h
  · cases h
def buildB (T : Tab) (ty : TypeId) : Bool := match tl T ty with | none => true | some i => okElem T i
theorem buildB_ok {T : Tab} {ty : TypeId} {l : List (Nat × D)} {d : D} {wr : List (Nat × Option AObj)} {al rd : List Nat} {side : Prop} (h : buildR T ty l = .ok d wr al rd side) (hb : buildB T ty = true) : side := by
  unfold buildR at h
  unfold buildB at hb
  split at h
  · cases h
  · rename_i i hi
    simp only [hi] at hb
    split at h
    · simp only [R.val, R.ok.injEq] at h
      obtain ⟨_, _, _, _, rfl⟩ := h
      exact hb
    · cases h
def buildSliceB (T : Tab) (ty : TypeId) (len : Nat) : Bool := match elemT T ty with | none => true | some i => Nat.ble (len * i.size) 16777216 && Nat.blt 0 i.size
theorem buildSliceB_ok {T : Tab} {ty : TypeId} {len id : Nat} {l : List (Nat × D)} {d : D} {wr : List (Nat × Option AObj)} {al rd : List Nat} {side : Prop} (h : buildSliceR T ty len l id = .ok d wr al rd side) (hb : buildSliceB T ty len = true) : side := by
  unfold buildSliceR at h
  unfold buildSliceB at hb
  split at h
  · cases h
  · rename_i i hi
    simp only [hi] at hb
    split at h
    · simp only [R.ok.injEq] at h
      obtain ⟨_, _, _, _, rfl⟩ := h
      simpa [Nat.ble_eq, Nat.blt_eq] using hb
    · cases h
def makeSliceB (T : Tab) (ty : TypeId) (l c : D) : Bool :=
  match elemT T ty, l, c with
  | some i, .v (.int _ l), .v (.int _ c) => decide (0 ≤ l) && decide (l ≤ c) && decide (c ≤ 1099511627776) && Nat.ble i.bytes 256 && Nat.blt 0 i.size
  | _, _, _ => true
theorem makeSliceB_ok {T : Tab} {ty : TypeId} {id : Nat} {l c : D} {d : D} {wr : List (Nat × Option AObj)} {al rd : List Nat} {side : Prop} (h : makeSliceR T ty l c id = .ok d wr al rd side) (hb : makeSliceB T ty l c = true) : side := by
  unfold makeSliceR at h
  unfold makeSliceB at hb
  split at h
  · rename_i i _ l _ c hi
    simp only [hi] at hb
    simp only [R.ok.injEq] at h
    obtain ⟨_, _, _, _, rfl⟩ := h
    simpa [Nat.ble_eq, Nat.blt_eq, and_assoc] using hb
  · cases h
def sliceB (T : Tab) (ty : TypeId) (x : D) (lo hi mx : Option D) : Bool :=
  match elemOfT T ty, ival lo, ival hi, ival mx with
  | some (none, sz), some lo, some hi, some mx =>
    match x with
    | .v (.lst _ n cs) => decide (0 ≤ bnd lo 0) && decide (bnd lo 0 ≤ bnd hi n) && decide (bnd hi n ≤ n) && (!mx.isSome || (hi.isSome && decide (bnd mx n = bnd hi n))) && cs.length == n * sz
    | .v .nl => decide (bnd lo 0 = 0) && decide (bnd hi 0 = 0) && (!mx.isSome || (hi.isSome && decide (bnd mx 0 = 0)))
    | .sl _ _ _ n sz' => decide (0 ≤ bnd lo 0) && decide (bnd lo 0 ≤ bnd hi n) && decide (bnd hi n ≤ n) && (!mx.isSome || (hi.isSome && decide (bnd mx n = bnd hi n))) && sz' == sz
    | _ => true
  | _, _, _, _ => true
theorem sliceB_ok {T : Tab} {ty : TypeId} {x : D} {lo hi mx : Option D} {d : D} {wr : List (Nat × Option AObj)} {al rd : List Nat} {side : Prop} (h : sliceR T ty x lo hi mx = .ok d wr al rd side) (hb : sliceB T ty x lo hi mx = true) : side := by
  unfold sliceR at h
  unfold sliceB at hb
  split at h
  · rename_i sz lo' hi' mx' h1 h2 h3 h4
    simp only [h1, h2, h3, h4] at hb
    split at h
    · simp only [R.val, R.ok.injEq] at h
      obtain ⟨_, _, _, _, rfl⟩ := h
      simp only [Bool.and_eq_true, Bool.or_eq_true, decide_eq_true_eq, Bool.not_eq_true', beq_iff_eq] at hb
      obtain ⟨⟨⟨⟨a, b⟩, c⟩, e⟩, f⟩ := hb
      exact ⟨a, b, c, fun hm => by rcases e with e | e; · rw [e] at hm; cases hm
                                   · exact e, f⟩
    · simp only [R.val, R.ok.injEq] at h
      obtain ⟨_, _, _, _, rfl⟩ := h
      simp only [Bool.and_eq_true, Bool.or_eq_true, decide_eq_true_eq, Bool.not_eq_true'] at hb
      obtain ⟨⟨a, b⟩, e⟩ := hb
      exact ⟨a, b, fun hm => by rcases e with e | e; · rw [e] at hm; cases hm
                                · exact e⟩
    · simp only [R.val, R.ok.injEq] at h
      obtain ⟨_, _, _, _, rfl⟩ := h
      simp only [Bool.and_eq_true, Bool.or_eq_true, decide_eq_true_eq, Bool.not_eq_true', beq_iff_eq] at hb
      obtain ⟨⟨⟨⟨a, b⟩, c⟩, e⟩, f⟩ := hb
      exact ⟨a, b, c, fun hm => by rcases e with e | e; · rw [e] at hm; cases hm
                                   · exact e, f⟩
    · cases h
  · cases h
def atsB (ats : Array TypeId) (t : TypeId) : Bool := match ats.toList with | [a, b] => a == t && b == t | _ => false
theorem atsB_ok {ats : Array TypeId} {t : TypeId} (h : atsB ats t = true) : ats = #[t, t] := by
  unfold atsB at h
  split at h
  · rename_i a b he
    simp only [Bool.and_eq_true, beq_iff_eq] at h
    obtain ⟨rfl, rfl⟩ := h
    have : ats = ats.toList.toArray := by simp
    rw [this, he]
  · cases h
def appendB (T : Tab) (ob : Ob) (ats : Array TypeId) (s x : D) : Bool :=
  match ats[0]? with
  | none => true
  | some t =>
    match elemT T t with
    | none => true
    | some i =>
      match srcR ob x i.size with
      | none => true
      | some (m, news, _) =>
        match s with
        | .v .nl => atsB ats t && news.cells.length == m * i.size && Nat.ble m 1099511627776 && Nat.ble i.bytes 128
        | .v (.lst true n cs) => atsB ats t && news.cells.length == m * i.size && cs.length == n * i.size && Nat.blt 0 m && Nat.ble (n + m) 1099511627776 && Nat.ble i.bytes 128
        | .sl _ sid off n sz =>
          match ob sid with
          | some o => atsB ats t && news.cells.length == m * i.size && Nat.ble (n * i.size) o.cells.length && off == 0 && sz == i.size && Nat.ble (n + m) 1099511627776 && Nat.ble i.bytes 128 && Nat.blt 0 i.size
          | none => true
        | _ => true
theorem appendB_ok {T : Tab} {ob : Ob} {ats : Array TypeId} {s x : D} {id : Nat} {d : D} {wr : List (Nat × Option AObj)} {al rd : List Nat} {side : Prop} (h : appendR T ob ats s x id = .ok d wr al rd side) (hb : appendB T ob ats s x = true) : side := by
  unfold appendR at h
  unfold appendB at hb
  split at h
  · cases h
  rename_i t ht
  simp only [ht] at hb
  split at h
  · cases h
  rename_i i hi
  simp only [hi] at hb
  split at h
  · cases h
  rename_i m news rd' hs
  simp only [hs] at hb
  split at h
  · simp only [R.ok.injEq] at h
    obtain ⟨_, _, _, _, rfl⟩ := h
    simp only [Bool.and_eq_true, beq_iff_eq, Nat.ble_eq] at hb
    exact ⟨atsB_ok hb.1.1.1, hb.1.1.2, hb.1.2, hb.2⟩
  · simp only [R.ok.injEq] at h
    obtain ⟨_, _, _, _, rfl⟩ := h
    simp only [Bool.and_eq_true, beq_iff_eq, Nat.ble_eq, Nat.blt_eq] at hb
    exact ⟨atsB_ok hb.1.1.1.1.1, hb.1.1.1.1.2, hb.1.1.1.2, hb.1.1.2, hb.1.2, hb.2⟩
  · split at h
    · rename_i o ho
      simp only [ho] at hb
      simp only [R.ok.injEq] at h
      obtain ⟨_, _, _, _, rfl⟩ := h
      simp only [Bool.and_eq_true, beq_iff_eq, Nat.ble_eq, Nat.blt_eq] at hb
      exact ⟨atsB_ok hb.1.1.1.1.1.1.1, hb.1.1.1.1.1.1.2, hb.1.1.1.1.1.2, hb.1.1.1.1.2, hb.1.1.1.2, hb.1.1.2, hb.1.2, hb.2⟩
    · cases h
  · cases h
def copyB (T : Tab) (ob : Ob) (ats : Array TypeId) (s x : D) : Bool :=
  match ats[0]? with
  | none => true
  | some t =>
    match elemT T t with
    | none => true
    | some i =>
      match srcR ob x i.size, s with
      | some (m, news, _), .sl _ sid off n sz =>
        match ob sid with
        | some o => news.cells.length == m * i.size && Nat.ble (off + n * i.size) o.cells.length && sz == i.size && Nat.blt 0 i.size
        | none => true
      | _, _ => true
theorem copyB_ok {T : Tab} {ob : Ob} {ats : Array TypeId} {s x : D} {d : D} {wr : List (Nat × Option AObj)} {al rd : List Nat} {side : Prop} (h : copyR T ob ats s x = .ok d wr al rd side) (hb : copyB T ob ats s x = true) : side := by
  unfold copyR at h
  unfold copyB at hb
  split at h
  · cases h
  rename_i t ht
  simp only [ht] at hb
  split at h
  · cases h
  rename_i i hi
  simp only [hi] at hb
  split at h
  · rename_i m news rd' f sid off n sz hs
    simp only [hs] at hb
    split at h
    · rename_i o ho
      simp only [ho] at hb
      simp only [R.ok.injEq] at h
      obtain ⟨_, _, _, _, rfl⟩ := h
      simp only [Bool.and_eq_true, beq_iff_eq, Nat.ble_eq, Nat.blt_eq] at hb
      exact ⟨hb.1.1.1, hb.1.1.2, hb.1.2, hb.2⟩
    · cases h
  · cases h
def clearB (T : Tab) (ob : Ob) (ats : Array TypeId) (s : D) : Bool :=
  match ats[0]? with
  | none => true
  | some t =>
    match elemT T t, s with
    | some i, .sl _ sid off n sz =>
      match ob sid with
      | some o => Nat.ble (off + n * i.size) o.cells.length && sz == i.size
      | none => true
    | _, _ => true
theorem clearB_ok {T : Tab} {ob : Ob} {ats : Array TypeId} {s : D} {d : D} {wr : List (Nat × Option AObj)} {al rd : List Nat} {side : Prop} (h : clearR T ob ats s = .ok d wr al rd side) (hb : clearB T ob ats s = true) : side := by
  unfold clearR at h
  unfold clearB at hb
  split at h
  · cases h
  rename_i t ht
  simp only [ht] at hb
  split at h
  · rename_i i f sid off n sz hi
    simp only [hi] at hb
    split at h
    · rename_i o ho
      simp only [ho] at hb
      simp only [R.ok.injEq] at h
      obtain ⟨_, _, _, _, rfl⟩ := h
      simp only [Bool.and_eq_true, beq_iff_eq, Nat.ble_eq] at hb
      exact hb
    · cases h
  · cases h
def appendXB (T : Tab) (ob : Ob) (ats : Array TypeId) (s x : D) : Bool :=
  match s with
  | .slr sid off n room sz =>
    match ats[0]? with
    | none => true
    | some t =>
      match elemT T t with
      | none => true
      | some i =>
        match srcR ob x i.size, ob sid with
        | some (m, news, _), some o =>
          bif Nat.ble (n + m) room then atsB ats t && news.cells.length == m * i.size && Nat.ble (off + n * i.size) o.cells.length && sz == i.size
          else appendB T ob ats s.norm x
        | _, _ => true
  | .sl true sid off n sz =>
    match ats[0]? with
    | none => true
    | some t =>
      match elemT T t with
      | none => true
      | some i =>
        match srcR ob x i.size, ob sid with
        | some (m, news, _), some o =>
          bif Nat.blt 0 m then atsB ats t && news.cells.length == m * i.size && Nat.ble (off + n * i.size) o.cells.length && sz == i.size && Nat.ble (n + m) 1099511627776 && Nat.ble i.bytes 128
          else appendB T ob ats s x
        | _, _ => true
  | s => appendB T ob ats s x
theorem appendXB_ok {T : Tab} {ob : Ob} {ats : Array TypeId} {s x : D} {id : Nat} {d : D} {wr : List (Nat × Option AObj)} {al rd : List Nat} {side : Prop} (h : appendX T ob ats s x id = .ok d wr al rd side) (hb : appendXB T ob ats s x = true) : side := by
  unfold appendX at h
  unfold appendXB at hb
  split at h
  · rename_i sid off n room sz
    split at h
    · cases h
    rename_i t ht
    simp only [ht] at hb
    split at h
    · cases h
    rename_i i hi
    simp only [hi] at hb
    split at h
    · rename_i m news rd' o hs ho
      simp only [hs, ho] at hb
      cases hroom : Nat.ble (n + m) room with
      | true =>
        simp only [hroom, cond_true, R.ok.injEq] at h hb
        obtain ⟨_, _, _, _, rfl⟩ := h
        simp only [Bool.and_eq_true, beq_iff_eq, Nat.ble_eq] at hb
        exact ⟨atsB_ok hb.1.1.1, hb.1.1.2, hb.1.2, hb.2⟩
      | false =>
        simp only [hroom, cond_false] at h hb
        exact appendB_ok h hb
    · cases h
  · rename_i sid off n sz
    split at h
    · cases h
    rename_i t ht
    simp only [ht] at hb
    split at h
    · cases h
    rename_i i hi
    simp only [hi] at hb
    split at h
    · rename_i m news rd' o hs ho
      simp only [hs, ho] at hb
      cases hroom : Nat.blt 0 m with
      | true =>
        simp only [hroom, cond_true, R.ok.injEq] at h hb
        obtain ⟨_, _, _, _, rfl⟩ := h
        simp only [Bool.and_eq_true, beq_iff_eq, Nat.ble_eq] at hb
        exact ⟨atsB_ok hb.1.1.1.1.1, hb.1.1.1.1.2, hb.1.1.1.2, hb.1.1.2, hb.1.2, hb.2⟩
      | false =>
        simp only [hroom, cond_false] at h hb
        exact appendB_ok h hb
    · cases h
  · rename_i hne hne2
    split at hb
    · exact absurd rfl (hne _ _ _ _ _)
    · exact absurd rfl (hne2 _ _ _ _)
    · exact appendB_ok h hb
def sliceXB (T : Tab) (ob : Ob) (ty : TypeId) (x : D) (lo hi mx : Option D) : Bool :=
  match elemOfT T ty, ival lo, ival hi, ival mx with
  | some (some k, sz), some l, some h, some none =>
    match x with
    | .ptr id off =>
      match ob id with
      | some o => decide (0 ≤ bnd l 0) && decide (bnd l 0 ≤ bnd h k) && decide (bnd h k ≤ k) && Nat.ble (off + k * sz) o.cells.length && Nat.ble k 1099511627776
      | none => true
    | _ => decide (0 ≤ bnd l 0) && decide (bnd l 0 ≤ bnd h k) && decide (bnd h k ≤ k) && Nat.ble k 1099511627776
  | some (none, sz), some l, some h, some m =>
    match x with
    | .slr _ _ n room sz' => decide (0 ≤ bnd l 0) && decide (bnd l 0 ≤ bnd h n) && decide (bnd h n ≤ bnd m room) && decide (bnd m room ≤ room) && (!m.isSome || h.isSome) && sz' == sz
    | .sl _ _ _ n sz' => bif plainB h m then sliceB T ty x lo hi mx else decide (0 ≤ bnd l 0) && decide (bnd l 0 ≤ bnd h n) && decide (bnd h n ≤ bnd m n) && decide (bnd m n ≤ n) && (!m.isSome || h.isSome) && sz' == sz
    | _ => sliceB T ty x lo hi mx
  | _, _, _, _ => true
theorem roomR_ok {id off n room sz' : Nat} {l h m : Option Int} {sz : Nat} {d : D} {wr : List (Nat × Option AObj)} {al rd : List Nat} {side : Prop} (hr : roomR id off n room sz' l h m sz = .ok d wr al rd side)
    (hb : (decide (0 ≤ bnd l 0) && decide (bnd l 0 ≤ bnd h n) && decide (bnd h n ≤ bnd m room) && decide (bnd m room ≤ room) && (!m.isSome || h.isSome) && sz' == sz) = true) : side := by
  simp only [roomR, R.val, R.ok.injEq] at hr
  obtain ⟨_, _, _, _, rfl⟩ := hr
  simp only [Bool.and_eq_true, decide_eq_true_eq, Bool.or_eq_true, Bool.not_eq_true', beq_iff_eq] at hb
  obtain ⟨⟨⟨⟨⟨a, b⟩, c⟩, e⟩, f⟩, g⟩ := hb
  exact ⟨a, b, c, e, fun hm => by rcases f with f | f; · rw [f] at hm; cases hm
                                  · exact f, g⟩
theorem sliceXB_ok {T : Tab} {ob : Ob} {ty : TypeId} {x : D} {lo hi mx : Option D} {d : D} {wr : List (Nat × Option AObj)} {al rd : List Nat} {side : Prop} (h : sliceX T ob ty x lo hi mx = .ok d wr al rd side) (hb : sliceXB T ob ty x lo hi mx = true) : side := by
  unfold sliceX at h
  unfold sliceXB at hb
  split at h
  · rename_i k sz l' h' e1 e2 e3 e4
    simp only [e1, e2, e3, e4] at hb
    split at h
    · split at h
      · rename_i o ho
        simp only [ho] at hb
        simp only [R.ok.injEq] at h
        obtain ⟨_, _, _, _, rfl⟩ := h
        simp only [Bool.and_eq_true, decide_eq_true_eq, Nat.ble_eq] at hb
        exact ⟨hb.1.1.1.1, hb.1.1.1.2, hb.1.1.2, hb.1.2, hb.2⟩
      · cases h
    · simp only [R.val, R.ok.injEq] at h
      obtain ⟨_, _, _, _, rfl⟩ := h
      simp only [Bool.and_eq_true, decide_eq_true_eq, Nat.ble_eq] at hb
      exact ⟨hb.1.1.1, hb.1.1.2, hb.1.2, hb.2⟩
    · cases h
  · rename_i sz l' h' m' e1 e2 e3 e4
    simp only [e1, e2, e3, e4] at hb
    split at h
    · exact roomR_ok h hb
    · rename_i f id off n sz'
      cases hp : plainB h' m' with
      | true => simp only [hp, cond_true] at h hb; exact sliceB_ok h hb
      | false => simp only [hp, cond_false] at h hb; exact roomR_ok h hb
    · split at hb
      · rename_i h1 h2; exact absurd rfl (h1 _ _ _ _ _)
      · rename_i h1 h2; exact absurd rfl (h2 _ _ _ _ _)
      · exact sliceB_ok h hb
  · cases h
def indexB (T : Tab) (ty : TypeId) (x i : D) : Bool :=
  match tl T ty, x, i with
  | some ⟨.arr n _, _, _, _⟩, .v (.agg cs), .v (.int _ j) => decide (0 ≤ j) && decide (j < n) && Nat.ble n cs.length
  | some ⟨.str, _, _, _⟩, .v (.str _), .v (.int _ j) => decide (0 ≤ j)
  | _, _, _ => true
def appendYB (T : Tab) (ob : Ob) (ats : Array TypeId) (s x : D) : Bool :=
  match s, x with
  | .v .nl, .v (.int _ n) => (match ats.toList with | [t, _] => (match elemT T t with | some i => decide (0 ≤ n) && (decide (n ≤ 1099511627776) && Nat.ble i.bytes 128) | none => true) | _ => true)
  | s, x => appendXB T ob ats s x.norm
theorem appendYB_ok {T : Tab} {ob : Ob} {ats : Array TypeId} {s x : D} {id : Nat} {d : D} {wr : List (Nat × Option AObj)} {al rd : List Nat} {side : Prop} (h : appendY T ob ats s x id = .ok d wr al rd side) (hb : appendYB T ob ats s x = true) : side := by
  unfold appendY at h
  unfold appendYB at hb
  split at h
  · rename_i k n
    split at h
    · rename_i t t2 hats
      split at h
      · rename_i i kk hi hk
        simp only [hats, hi, Bool.and_eq_true, decide_eq_true_eq, Nat.ble_eq] at hb
        simp only [R.ok.injEq] at h
        obtain ⟨_, _, _, _, rfl⟩ := h
        exact hb
      · cases h
    · cases h
  · rename_i sid off n sz f
    cases hk : (f == 999999) && (n == 0) <;> simp only [hk, cond_true, cond_false, reduceCtorEq] at h
    split at h
    · rename_i t t2 _
      split at h
      · cases ht : t == t2 <;> simp only [ht, cond_true, cond_false, reduceCtorEq, R.val, R.ok.injEq] at h
        obtain ⟨_, _, _, _, rfl⟩ := h
        trivial
      · cases h
    · cases h
  · rename_i hne _
    refine appendXB_ok h ?_
    split at hb
    · exact (hne _ _ rfl rfl).elim
    · exact hb
def opB (T : Tab) (get : Nat → D) (ob : Ob) (op : Op) : Bool :=
  match op with
  | .binOp b _ x y _ => binB b (evG get x).norm (evG get y).norm
  | .load ty x => loadB T ob ty (evG get x)
  | .store ty x y => storeB T ob ty (evG get x) (evG get y)
  | .build ty _ => buildB T ty
  | .buildSlice ty n _ => buildSliceB T ty n
  | .makeSlice ty x y => makeSliceB T ty (evG get x) (evG get y)
  | .slice ty x l h m => sliceXB T ob ty (evG get x) (l.map (evG get)) (h.map (evG get)) (m.map (evG get))
  | .indexAddr ty x i => indexAddrB T ty (evG get x).norm (evG get i)
  | .index ty x i => indexB T ty (evG get x) (evG get i)
  | .call ⟨.builtin .copy, args, ats⟩ => (match args.toList with | [x, y] => copyB T ob ats (evG get x).norm (evG get y).norm | _ => true)
  | .call ⟨.builtin .clear, args, ats⟩ => (match args.toList with | [x] => clearB T ob ats (evG get x).norm | _ => true)
  | .call ⟨.builtin .append, args, ats⟩ => (match args.toList with | [x, y] => appendYB T ob ats (evG get x) (evG get y) | _ => true)
  | _ => true
theorem opB_ok {T : Tab} {get : Nat → D} {ob : Ob} {op : Op} {id : Nat} {d : D} {wr : List (Nat × Option AObj)} {al rd : List Nat} {side : Prop} (h : opR T get ob op id = .ok d wr al rd side) (hb : opB T get ob op = true) : side := by
  cases op with
  | binOp b ty x y t2 => exact binB_ok h hb
  | load ty x => exact loadB_ok h hb
  | store ty x y => exact storeB_ok h hb
  | build ty ps => exact buildB_ok h hb
  | buildSlice ty n ps => exact buildSliceB_ok h hb
  | makeSlice ty x y => exact makeSliceB_ok h hb
  | slice ty x l hh m => exact sliceXB_ok h hb
  | indexAddr ty x i => exact indexAddrB_ok h hb
  | move x => simp only [opR, R.val, R.ok.injEq] at h; obtain ⟨_, _, _, _, rfl⟩ := h; trivial
  | assign x => simp only [opR, R.val, R.ok.injEq] at h; obtain ⟨_, _, _, _, rfl⟩ := h; trivial
  | pick c x y =>
    simp only [opR, pickR] at h
    split at h
    · split at h <;> (simp only [R.val, R.ok.injEq] at h; obtain ⟨_, _, _, _, rfl⟩ := h; exact True.intro)
    · cases h
  | unOp u ty x =>
    simp only [opR, unR] at h
    split at h <;> first | (cases h; done) | (simp only [R.val, R.ok.injEq] at h; obtain ⟨_, _, _, _, rfl⟩ := h; exact True.intro)
  | convert s t x =>
    simp only [opR, convR] at h
    split at h <;> first | (cases h; done) | (simp only [R.val, R.ok.injEq] at h; obtain ⟨_, _, _, _, rfl⟩ := h; exact True.intro)
  | box ty x =>
    simp only [opR, boxR] at h
    split at h <;> first | (cases h; done) | (simp only [R.val, R.ok.injEq] at h; obtain ⟨_, _, _, _, rfl⟩ := h; exact True.intro)
  | alloc ty =>
    simp only [opR, allocR] at h
    split at h <;> first | (cases h; done) | (simp only [R.val, R.ok.injEq] at h; obtain ⟨_, _, _, _, rfl⟩ := h; exact True.intro)
  | fieldAddr s x f =>
    simp only [opR, fieldAddrR] at h
    split at h
    · cases h
    · split at h <;> first | (cases h; done) | (simp only [R.val, R.ok.injEq] at h; obtain ⟨_, _, _, _, rfl⟩ := h; exact True.intro)
  | extract x i =>
    simp only [opR, extractR] at h
    split at h
    · split at h <;> first | (cases h; done) | (simp only [R.val, R.ok.injEq] at h; obtain ⟨_, _, _, _, rfl⟩ := h; exact True.intro)
    · split at h <;> first | (cases h; done) | (simp only [R.val, R.ok.injEq] at h; obtain ⟨_, _, _, _, rfl⟩ := h; exact True.intro)
    · cases h
  | nilCheck x =>
    simp only [opR, nilCheckR] at h
    split at h
    · simp only [R.val, R.ok.injEq] at h; obtain ⟨_, _, _, _, rfl⟩ := h; exact True.intro
    · simp only [R.val, R.ok.injEq] at h; obtain ⟨_, _, _, _, rfl⟩ := h; exact True.intro
    · rename_i f cs _
      cases hf : f == 999999 <;> simp only [hf, cond_true, cond_false, reduceCtorEq, R.val, R.ok.injEq] at h
      obtain ⟨_, _, _, _, rfl⟩ := h; exact True.intro
    · simp only [R.val, R.ok.injEq] at h; obtain ⟨_, _, _, _, rfl⟩ := h; exact True.intro
    · cases h
  | makeFunc f first cap =>
    simp only [opR, makeFuncR] at h
    split at h
    · rename_i f _
      cases hf : Nat.blt f 999999 <;> simp only [hf, cond_true, cond_false, reduceCtorEq, R.val, R.ok.injEq] at h
      obtain ⟨_, _, _, _, rfl⟩ := h; exact True.intro
    · rename_i f _ _ _
      cases hf : Nat.blt f 999999 <;> simp only [hf, cond_true, cond_false, reduceCtorEq, R.val, R.ok.injEq] at h
      obtain ⟨_, _, _, _, rfl⟩ := h; exact True.intro
    · cases h
  | index ty x y =>
    simp only [opR, indexR] at h
    simp only [opB, indexB] at hb
    split at h
    · rename_i n e n1 n2 n3 cs kk j e1 e2 e3
      simp only [e1, e2, e3, Bool.and_eq_true, decide_eq_true_eq, Nat.ble_eq] at hb
      split at h
      · rename_i ei hei
        cases hk : ei.k.agg || !(ei.size == 1) <;> simp only [hk, cond_true, cond_false, reduceCtorEq, R.val, R.ok.injEq] at h
        obtain ⟨_, _, _, _, rfl⟩ := h
        exact ⟨hb.1.1, hb.1.2, hb.2⟩
      · cases h
    · rename_i n1 n2 n3 s kk j e1 e2 e3
      simp only [e1, e2, e3, decide_eq_true_eq] at hb
      split at h
      · simp only [R.val, R.ok.injEq] at h
        obtain ⟨_, _, _, _, rfl⟩ := h
        exact hb
      · cases h
    · cases h
  | makeInterface ty x =>
    simp only [opR, makeIfaceR] at h
    split at h
    · rename_i i _
      cases hk : i.k.isI <;> simp only [hk, cond_true, cond_false, reduceCtorEq] at h
      simp only [R.val, R.ok.injEq] at h; obtain ⟨_, _, _, _, rfl⟩ := h; exact True.intro
    · cases h
  | typeAssert x xt ty ok =>
    simp only [opR, typeAssertR] at h
    split at h
    · rename_i i r _ _
      cases hk : (i.k.agg || i.k.isI) <;> simp only [hk, cond_true, cond_false, reduceCtorEq] at h
      split at h
      · rename_i t d2 _
        cases ht : t == ty <;> simp only [ht, cond_true, cond_false, reduceCtorEq] at h
        · cases ok <;> simp only [cond_true, cond_false, reduceCtorEq, R.val, R.ok.injEq] at h
          obtain ⟨_, _, _, _, rfl⟩ := h; exact True.intro
        · cases ok <;> simp only [cond_true, cond_false, reduceCtorEq, R.val, R.ok.injEq] at h <;> (obtain ⟨_, _, _, _, rfl⟩ := h; exact True.intro)
      · cases ok <;> simp only [cond_true, cond_false, reduceCtorEq, R.val, R.ok.injEq] at h
        obtain ⟨_, _, _, _, rfl⟩ := h; exact True.intro
    · cases h
  | call c =>
    obtain ⟨callee, args, ats⟩ := c
    cases callee with
    | builtin b =>
      simp only [opR, callR] at h
      split at h
      · simp only [lenSliceR] at h
        split at h
        · rename_i t ht
          cases hk : isSlice (tl T t) <;> simp only [hk, cond_true, cond_false, reduceCtorEq] at h
          unfold lenR at h
          split at h <;> first | (cases h; done) | (simp only [R.val, R.ok.injEq] at h; obtain ⟨_, _, _, _, rfl⟩ := h; exact True.intro)
        · cases h
      · rename_i x y hl
        simp only [opB, hl] at hb
        exact appendYB_ok h hb
      · rename_i x y hl
        simp only [opB, hl] at hb
        exact copyB_ok h hb
      · rename_i x hl
        simp only [opB, hl] at hb
        exact clearB_ok h hb
      · unfold capR at h
        split at h
        · rename_i t ht
          cases hk : isSlice (tl T t) <;> simp only [hk, cond_true, cond_false, reduceCtorEq] at h
          split at h <;> first | (cases h; done) | (simp only [R.val, R.ok.injEq] at h; obtain ⟨_, _, _, _, rfl⟩ := h; exact True.intro)
        · cases h
      · unfold mmR at h
        split at h <;> first | (cases h; done) | (simp only [R.val, R.ok.injEq] at h; obtain ⟨_, _, _, _, rfl⟩ := h; exact True.intro)
      · unfold mmR at h
        split at h <;> first | (cases h; done) | (simp only [R.val, R.ok.injEq] at h; obtain ⟨_, _, _, _, rfl⟩ := h; exact True.intro)
      · cases h
    | _ => simp only [opR, reduceCtorEq] at h
  | _ => simp only [opR, reduceCtorEq] at h
end Go.V
