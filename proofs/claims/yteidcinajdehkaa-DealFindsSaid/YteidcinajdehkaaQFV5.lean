/-
  THE ENGINE, PART 5: the operations, continued: literals, make, slicing, built-ins.
-/
import Derived.Test.YteidcinajdehkaaQFV4
set_option linter.unusedSimpArgs false
set_option linter.unusedVariables false
namespace Go.V
section ops
variable {P : Program} {T : Tab} {w : World} {ρ : Rho} {ob : Ob}
theorem move_sound (hrep : Rep w ρ ob) (x : Operand) (ev : Operand → Value) (dx : D) (vx : Value) (hvx : ev x = vx) (hx : RD w (Own ρ ob) ρ vx dx) (o : Oper) (ho : o.op = .move x ∨ o.op = .assign x) :
    Outs ((execOp ev o).run P w) w ρ ob (.val dx True) := by
  refine .val hrep fun _ => ⟨vx, ?_, hx⟩
  rcases ho with ho | ho <;> simp [execOp, ho, hvx]
def nilCheckR (x : D) : R :=
  match x with
  | .v (.ipt cs) => .val (.v (.ipt cs)) True
  | .ptr id off => .val (.ptr id off) True
  | .v (.fn f cs) => bif f == 999999 then .bad else .val (.v (.fn f cs)) True
  | .fn f cs => .val (.fn f cs) True
  | _ => .bad
theorem nilCheck_sound (hrep : Rep w ρ ob) (x : Operand) (ev : Operand → Value) (dx : D) (vx : Value) (hvx : ev x = vx) (hx : RD w (Own ρ ob) ρ vx dx) (o : Oper) (ho : o.op = .nilCheck x) :
    Outs ((execOp ev o).run P w) w ρ ob (nilCheckR dx) := by
  unfold nilCheckR
  split
  · refine .val hrep fun _ => ⟨vx, ?_, hx⟩
    cases hx with | v _ _ hx =>
    cases hx
    simp [execOp, ho, hvx]
  · refine .val hrep fun _ => ⟨vx, ?_, hx⟩
    cases hx
    simp [execOp, ho, hvx]
  · rename_i f cs
    cases hf : f == 999999 with
    | true => exact .bad
    | false =>
    refine .val hrep fun _ => ⟨vx, ?_, hx⟩
    cases hx with | v _ _ hx =>
    cases hx with
    | nif => simp at hf
    | fn => simp [execOp, ho, hvx]
    | ifc => simp [execOp, ho, hvx]
    | bf => simp at hf
    | np => simp at hf
    | nn => simp at hf
  · refine .val hrep fun _ => ⟨vx, ?_, hx⟩
    cases hx <;> simp [execOp, ho, hvx]
  · exact .bad
def nthP : List PV → Nat → Option PV
  | [], _ => none
  | p :: _, 0 => some p
  | _ :: l, n + 1 => nthP l n
def nthD : List D → Nat → Option D
  | [], _ => none
  | p :: _, 0 => some p
  | _ :: l, n + 1 => nthD l n
theorem nthP_get : ∀ (l : List PV) (n : Nat), nthP l n = l[n]?
  | [], _ => by simp [nthP]
  | _ :: _, 0 => by simp [nthP]
  | _ :: l, n + 1 => by simp [nthP, nthP_get l n]
theorem nthD_get : ∀ (l : List D) (n : Nat), nthD l n = l[n]?
  | [], _ => by simp [nthD]
  | _ :: _, 0 => by simp [nthD]
  | _ :: l, n + 1 => by simp [nthD, nthD_get l n]
def extractR (x : D) (i : Nat) : R :=
  match x with
  | .v (.tup ps) => (match nthP ps i with | some p => .val (.v p) True | none => .bad)
  | .tup ds => (match nthD ds i with | some d => .val d True | none => .bad)
  | _ => .bad
theorem extract_sound (hrep : Rep w ρ ob) (x : Operand) (i : Nat) (ev : Operand → Value) (dx : D) (vx : Value) (hvx : ev x = vx) (hx : RD w (Own ρ ob) ρ vx dx) (o : Oper) (ho : o.op = .extract x i) :
    Outs ((execOp ev o).run P w) w ρ ob (extractR dx i) := by
  unfold extractR
  split
  · split
    · rename_i p hp
      rw [nthP_get] at hp
      cases hx with | v _ _ hx =>
      cases hx with
      | tup vs cs h =>
        obtain ⟨u, hu, hd⟩ := h.get hp
        exact .val hrep fun _ => ⟨u, by simp [execOp, ho, hvx, Instr.extract, hu], .v _ _ hd⟩
    · exact .bad
  · split
    · rename_i p hp
      rw [nthD_get] at hp
      cases hx with
      | tup vs cs h =>
        obtain ⟨u, hu, hd⟩ := h.get hp
        exact .val hrep fun _ => ⟨u, by simp [execOp, ho, hvx, Instr.extract, hu], hd⟩
    · exact .bad
  · exact .bad
theorem RDs.of_ev {own : Nat → Prop} (ev : Operand → Value) (de : Operand → D) : ∀ (l : List Operand), (∀ x ∈ l, RD w own ρ (ev x) (de x)) → RDs w own ρ (l.map ev) (l.map de)
  | [], _ => .nil
  | x :: l, h => .cons _ _ _ _ (h x (by simp)) (RDs.of_ev ev de l fun y hy => h y (by simp [hy]))
def mkF : List D → List PV → Option (List PV)
  | [], acc => some acc.reverse
  | .v p :: ds, acc => mkF ds (p :: acc)
  | _ :: _, _ => none
theorem mkF_some : ∀ {ds : List D} {acc ps : List PV}, mkF ds acc = some ps → ps.map D.v = (acc.reverse.map D.v) ++ ds
  | [], acc, ps, h => by simp only [mkF, Option.some.injEq] at h; subst h; simp
  | .v p :: ds, acc, ps, h => by rw [mkF_some (ds := ds) h]; simp
  | .dead :: _, _, _, h => by simp [mkF] at h
  | .sl .. :: _, _, _, h => by simp [mkF] at h
  | .slr .. :: _, _, _, h => by simp [mkF] at h
  | .ptr .. :: _, _, _, h => by simp [mkF] at h
  | .agg .. :: _, _, _, h => by simp [mkF] at h
  | .tup .. :: _, _, _, h => by simp [mkF] at h
  | .fn .. :: _, _, _, h => by simp [mkF] at h
def fnOf (f : FuncId) (ds : List D) : D := match mkF ds [] with | some ps => .v (.fn f ps) | none => .fn f ds
theorem fnOf_RD {own : Nat → Prop} {f : FuncId} (hf : f < 999999) {vs : List Value} {ds : List D} (h : RDs w own ρ vs ds) : RD w own ρ (.func (.func f) #[] vs.toArray) (fnOf f ds) := by
  unfold fnOf
  cases hm : mkF ds [] with
  | none => exact .fn f hf vs ds h
  | some ps =>
    have := mkF_some hm
    simp only [List.reverse_nil, List.map_nil, List.nil_append] at this
    rw [← this] at h
    exact .v _ _ (.fn f hf vs ps h.of_v)
theorem fnOf_one {own : Nat → Prop} {t : TypeId} {v : Value} {d : D} (h : RD w own ρ v d) : RD w own ρ (.iface t v) (fnOf (t + 1000000) [d]) := by
  cases d with
  | v p => cases h with | v _ _ h => exact .v _ _ (.ifc t v p h)
  | _ => exact .ifc t v _ h
theorem fnOf_bf {own : Nat → Prop} {f : FuncId} (hf : f < 999999) {v : Value} {d : D} (h : RD w own ρ v d) : RD w own ρ (.func (.func f) #[v] #[]) (fnOf 999999 [.v (.fn f []), d]) := by
  cases d with
  | v p => cases h with | v _ _ h => exact .v _ _ (.bf f hf v p h)
  | _ => exact .bf f hf v _ h
def makeFuncR (fn : Fn) (fs ds : List D) : R :=
  match fn, fs, ds with
  | .func f, [], ds => bif Nat.blt f 999999 then .val (fnOf f ds) True else .bad
  | .func f, [d], [] => bif Nat.blt f 999999 then .val (fnOf 999999 [.v (.fn f []), d]) True else .bad
  | _, _, _ => .bad
theorem makeFunc_sound (hrep : Rep w ρ ob) (fn : Fn) (first captured : Array Operand) (ev : Operand → Value) (de : Operand → D) (h1 : ∀ x ∈ first.toList, RD w (Own ρ ob) ρ (ev x) (de x)) (h : ∀ x ∈ captured.toList, RD w (Own ρ ob) ρ (ev x) (de x)) (o : Oper) (ho : o.op = .makeFunc fn first captured) :
    Outs ((execOp ev o).run P w) w ρ ob (makeFuncR fn (first.toList.map de) (captured.toList.map de)) := by
  generalize hF : first.toList.map de = fs
  generalize hD : captured.toList.map de = ds
  unfold makeFuncR
  split
  · rename_i f
    subst hD
    have hfe : first = #[] := by
      have := List.map_eq_nil_iff.1 hF
      exact Array.toList_eq_nil_iff.1 this
    cases hlt : Nat.blt f 999999 with
    | false => exact .bad
    | true =>
    refine .val hrep fun _ => ⟨.func (.func f) #[] (captured.toList.map ev).toArray, ?_, fnOf_RD (by simpa [Nat.blt_eq] using hlt) (RDs.of_ev ev de _ h)⟩
    simp only [execOp, ho, Instr.makeFunc, hfe, List.map_toArray, Sem.run_bind, Sem.run_pure, Result.andThen_ok, List.map_nil]
    congr 4
    apply Array.ext'
    simp
  · rename_i f d
    have hc : captured = #[] := Array.toList_eq_nil_iff.1 (List.map_eq_nil_iff.1 hD)
    obtain ⟨x, hx, rfl⟩ : ∃ x, first = #[x] ∧ de x = d := by
      obtain ⟨l⟩ := first
      match l, hF with
      | [x], hF => exact ⟨x, rfl, by simpa using hF⟩
    subst hc hx
    cases hlt : Nat.blt f 999999 with
    | false => exact .bad
    | true =>
    refine .val hrep fun _ => ⟨.func (.func f) #[ev x] #[], ?_, fnOf_bf (by simpa [Nat.blt_eq] using hlt) (h1 x (by simp))⟩
    simp [execOp, ho, Instr.makeFunc, Sem.run_bind, Sem.run_pure, Result.andThen_ok]
  · exact .bad
def makeIfaceR (T : Tab) (ty : TypeId) (x : D) : R :=
  match tl T ty with
  | some i => bif i.k.isI then .bad else .val (fnOf (ty + 1000000) [x]) True
  | none => .bad
theorem makeIface_sound (hT : TOk P T) (hrep : Rep w ρ ob) (ty : TypeId) (x : Operand) (ev : Operand → Value) (dx : D) (vx : Value) (hvx : ev x = vx) (hx : RD w (Own ρ ob) ρ vx dx) (o : Oper) (ho : o.op = .makeInterface ty x) :
    Outs ((execOp ev o).run P w) w ρ ob (makeIfaceR T ty dx) := by
  unfold makeIfaceR
  split
  · rename_i i hi
    cases hki : i.k.isI with
    | true => exact .bad
    | false =>
    refine .val hrep fun _ => ⟨.iface ty vx, ?_, fnOf_one hx⟩
    obtain ⟨d, hd, hn⟩ := hT.noIface hi hki
    simp only [execOp, ho, Instr.makeInterface, hvx, Sem.run_bind, run_underlying hd, Result.andThen_ok]
    cases d <;> first | rfl | exact absurd rfl (hn _)
  · exact .bad
def zeroD (i : TI) : D := gd i.zero 0
def ifaceOf : D → Option (Option (TypeId × D))
  | .v (.fn f ps) => bif f == 999999 && ps.isEmpty then some none else bif Nat.ble 1000000 f then (match ps with | [p] => some (some (f - 1000000, .v p)) | _ => none) else none
  | .fn f ds => bif Nat.ble 1000000 f then (match ds with | [d] => some (some (f - 1000000, d)) | _ => none) else none
  | _ => none
theorem ifaceOf_some {own : Nat → Prop} {v : Value} {d : D} {r : Option (TypeId × D)} (h : RD w own ρ v d) (hi : ifaceOf d = some r) : (r = none ∧ v = .nilIface) ∨ ∃ t u e, r = some (t, e) ∧ v = .iface t u ∧ RD w own ρ u e := by
  cases h with
  | v x p hp =>
    cases hp with
    | fn f hf vs cs hh =>
      have h1 : (f == 999999) = false := by rw [beq_eq_false_iff_ne]; exact Nat.ne_of_lt hf
      have h2 : Nat.ble 1000000 f = false := by
        cases hb : Nat.ble 1000000 f with
        | false => rfl
        | true => exact absurd (Nat.lt_of_lt_of_le hf (Nat.le_trans (by decide) (Nat.le_of_ble_eq_true hb))) (Nat.lt_irrefl _)
      simp [ifaceOf, h1, h2] at hi
    | nif => simp [ifaceOf] at hi; subst hi; exact .inl ⟨rfl, rfl⟩
    | ifc t u p hh =>
      have h1 : (t + 1000000 == 999999) = false := by simp
      have h2 : Nat.ble 1000000 (t + 1000000) = true := Nat.ble_eq_true_of_le (by omega)
      simp only [ifaceOf, h1, h2, Bool.false_and, cond_false, cond_true, Nat.add_sub_cancel, Option.some.injEq] at hi
      subst hi
      exact .inr ⟨t, u, _, rfl, rfl, .v _ _ hh⟩
    | bf => simp [ifaceOf] at hi
    | np =>
      have h2 : Nat.ble 1000000 999999 = false := by decide
      simp [ifaceOf, h2] at hi
    | nn =>
      have h2 : Nat.ble 1000000 999999 = false := by decide
      simp [ifaceOf, h2] at hi
    | _ => simp [ifaceOf] at hi
  | fn f hf vs cs hh =>
    have h2 : Nat.ble 1000000 f = false := by
      cases hb : Nat.ble 1000000 f with
      | false => rfl
      | true => exact absurd (Nat.lt_of_lt_of_le hf (Nat.le_trans (by decide) (Nat.le_of_ble_eq_true hb))) (Nat.lt_irrefl _)
    simp [ifaceOf, h2] at hi
  | ifc t u d hh =>
    have h2 : Nat.ble 1000000 (t + 1000000) = true := Nat.ble_eq_true_of_le (by omega)
    simp only [ifaceOf, h2, cond_true, Nat.add_sub_cancel, Option.some.injEq] at hi
    subst hi
    exact .inr ⟨t, u, d, rfl, rfl, hh⟩
  | _ => simp [ifaceOf] at hi
def tup2 (a b : D) : D := match a, b with | .v p, .v q => .v (.tup [p, q]) | a, b => .tup [a, b]
theorem tup2_RD {own : Nat → Prop} {x y : Value} {a b : D} (h1 : RD w own ρ x a) (h2 : RD w own ρ y b) : RD w own ρ (.tuple #[x, y]) (tup2 a b) := by
  unfold tup2
  split
  · rename_i p q
    cases h1 with | v _ _ h1 => cases h2 with | v _ _ h2 =>
    exact .v _ _ (.tup [x, y] [p, q] (.cons _ _ _ _ h1 (.cons _ _ _ _ h2 .nil)))
  · exact .tup [x, y] [a, b] (.cons _ _ _ _ h1 (.cons _ _ _ _ h2 .nil))
def typeAssertR (T : Tab) (x : D) (asserted : TypeId) (ok : Bool) : R :=
  match tl T asserted, ifaceOf x with
  | some i, some r => bif i.k.agg || i.k.isI then .bad else
    match r with
    | some (t, d) => bif t == asserted then (bif ok then .val (tup2 d (.v (.bool true))) True else .val d True) else (bif ok then .val (tup2 (zeroD i) (.v (.bool false))) True else .bad)
    | none => bif ok then .val (tup2 (zeroD i) (.v (.bool false))) True else .bad
  | _, _ => .bad
theorem typeAssert_sound (hT : TOk P T) (hrep : Rep w ρ ob) (x : Operand) (xt asserted : TypeId) (ok : Bool) (ev : Operand → Value) (dx : D) (vx : Value) (hvx : ev x = vx) (hx : RD w (Own ρ ob) ρ vx dx) (o : Oper) (ho : o.op = .typeAssert x xt asserted ok) :
    Outs ((execOp ev o).run P w) w ρ ob (typeAssertR T dx asserted ok) := by
  unfold typeAssertR
  split
  · rename_i i r hi hr
    cases hk : i.k.agg with
    | true => exact .bad
    | false =>
    cases hki : i.k.isI with
    | true => exact .bad
    | false =>
    simp only [Bool.or_false, cond_false]
    obtain ⟨d, hd, hn⟩ := hT.noIface hi hki
    obtain ⟨j, z, hj, hz, hz1, hzb⟩ := hT.zero1 hi hk
    have hrun : ∀ v, (Instr.typeAssert vx xt asserted ok).run P w = .ok v w → (execOp ev o).run P w = .ok (.value v) w := by
      intro v h; simp [execOp, ho, hvx, h]
    have hzero : RD w (Own ρ ob) ρ z (zeroD i) := by
      have h1 := (zbs_RDs (w := w) (ρ := ρ) (own := Own ρ ob) hzb).1
      have h2 : z.cells.toList = [z] := by rw [cells_one hz1]
      rw [h2] at h1
      cases hzz : i.zero with
      | nil => rw [hzz] at h1; cases h1
      | cons e es =>
        rw [hzz] at h1
        cases h1 with | cons _ _ _ _ h1 _ => simpa [zeroD, hzz, gd] using h1
    have hfail : ∀ st : Value, vx = st → (st = .nilIface ∨ ∃ t u, st = .iface t u ∧ t ≠ asserted) → ok = true → (Instr.typeAssert vx xt asserted ok).run P w = .ok (.tuple #[z, .bool false]) w := by
      intro st hst hcase hok
      subst hst hok
      unfold Instr.typeAssert
      rw [Sem.run_bind, run_underlying hd, Result.andThen_ok]
      rcases hcase with rfl | ⟨t, u, rfl, hne⟩
      · cases d <;> first | exact absurd rfl (hn _) | simp [zeroValue, typeInfo, hj, hz]
      · cases d <;> first | exact absurd rfl (hn _) | simp [zeroValue, typeInfo, hj, hz, hne]
    have hholds : ∀ u, vx = .iface asserted u → (Instr.typeAssert vx xt asserted ok).run P w = .ok (if ok then .tuple #[u, .bool true] else u) w := by
      intro u hu
      subst hu
      unfold Instr.typeAssert
      rw [Sem.run_bind, run_underlying hd, Result.andThen_ok]
      cases d <;> first | exact absurd rfl (hn _) | simp
    rcases ifaceOf_some hx hr with ⟨rfl, hv⟩ | ⟨t, u, e, rfl, hv, he⟩
    · simp only
      cases ok with
      | false => exact .bad
      | true => exact .val hrep fun _ => ⟨_, hrun _ (hfail _ rfl (.inl hv) rfl), tup2_RD hzero (.v _ _ (.bool false))⟩
    · simp only
      cases hta : t == asserted with
      | true =>
        have := beq_iff_eq.1 hta; subst this
        cases ok with
        | false => exact .val hrep fun _ => ⟨_, hrun _ (hholds u hv), he⟩
        | true => exact .val hrep fun _ => ⟨_, hrun _ (hholds u hv), tup2_RD he (.v _ _ (.bool true))⟩
      | false =>
        have hne : t ≠ asserted := by simpa using hta
        cases ok with
        | false => exact .bad
        | true => exact .val hrep fun _ => ⟨_, hrun _ (hfail _ rfl (.inr ⟨t, u, hv, hne⟩) rfl), tup2_RD hzero (.v _ _ (.bool false))⟩
  · exact .bad
def indexR (T : Tab) (ty : TypeId) (x i : D) : R :=
  match tl T ty, x, i with
  | some ⟨.arr n e, _, _, _⟩, .v (.agg cs), .v (.int _ j) =>
    match tl T e with
    | some ei => bif ei.k.agg || !(ei.size == 1) then .bad else .val (.v (gp cs j.toNat)) (0 ≤ j ∧ j < n ∧ n ≤ cs.length)
    | none => .bad
  | some ⟨.str, _, _, _⟩, .v (.str s), .v (.int _ j) =>
    match s[j.toNat]? with
    | some b => .val (.v (.int .u8 b.toNat)) (0 ≤ j)
    | none => .bad
  | _, _, _ => .bad
theorem index_sound (hT : TOk P T) (hrep : Rep w ρ ob) (ty : TypeId) (x y : Operand) (ev : Operand → Value) (dx dy : D) (vx vy : Value) (hvx : ev x = vx) (hvy : ev y = vy) (hx : RD w (Own ρ ob) ρ vx dx) (hy : RD w (Own ρ ob) ρ vy dy) (o : Oper) (ho : o.op = .index ty x y) :
    Outs ((execOp ev o).run P w) w ρ ob (indexR T ty dx dy) := by
  unfold indexR
  split
  · rename_i n e n1 n2 n3 cs kk j hi
    split
    · rename_i ei hei
      cases hb : ei.k.agg || !(ei.size == 1) with
      | true => exact .bad
      | false =>
        simp only [Bool.or_eq_false_iff, Bool.not_eq_false', beq_iff_eq] at hb
        refine .val hrep fun hs => ?_
        cases hx with | v _ _ hx => cases hy with | v _ _ hy =>
        cases hy
        cases hx with | agg vs _ g1 hx =>
        have hlt : j.toNat < cs.length := by omega
        obtain ⟨v, hv, hp⟩ := hx.get (gp_some hlt)
        refine ⟨v, ?_, .v _ _ hp⟩
        have hpart : (part e vs.toArray j.toNat).run P w = .ok v w := by
          unfold part
          rw [Sem.run_bind, hT.isAgg hei]
          simp [hb.1, hv]
        simp [execOp, ho, hvx, hvy, Instr.index, asIntOf, run_underlying (hT.arr hi rfl), hs.1, hs.2.1, hT.sizeOf hei, hb.2, hpart]
    · exact .bad
  · rename_i n1 n2 n3 s kk j hi
    split
    · rename_i b hb
      refine .val hrep fun hs => ?_
      cases hx with | v _ _ hx => cases hy with | v _ _ hy =>
      cases hy
      cases hx
      exact ⟨.int .u8 b.toNat, by simp [execOp, ho, hvx, hvy, Instr.index, asIntOf, run_underlying (hT.str hi rfl), hs, hb], .v _ _ (.int _ _)⟩
    · exact .bad
  · exact .bad
def fillD (place : Nat → Option (Nat × Nat)) (cells : List D) : List (Nat × D) → Option (List D)
  | [] => some cells
  | (i, d) :: rest =>
    match place i, boxD d with
    | some (off, size), some x => bif x.cells.length == size && Nat.ble (off + size) cells.length then fillD place (putD cells off x.cells) rest else none
    | _, _ => none
theorem foldl_set : ∀ (vs : List Value) (cs : Array Value) (off k : Nat), off + k + vs.length ≤ cs.size →
    ((vs.zipIdx k).foldl (fun cs (x : Value × Nat) => cs.setIfInBounds (off + x.2) x.1) cs).toList = (cs.toList.take (off + k) ++ vs ++ cs.toList.drop (off + k + vs.length))
  | [], cs, off, k, _ => by simp
  | v :: vs, cs, off, k, h => by
    simp only [List.length_cons] at h
    rw [List.zipIdx_cons, List.foldl_cons, foldl_set vs _ off (k + 1) (by simp; omega)]
    have hk : off + k < cs.toList.length := by simp; omega
    simp only [Array.toList_setIfInBounds, List.length_cons]
    rw [show off + (k + 1) = off + k + 1 by omega, List.take_set, List.drop_set, List.take_succ_eq_append_getElem hk]
    rw [if_pos (by omega)]
    rw [List.set_append]
    simp only [List.length_take]
    rw [if_neg (by omega)]
    have : off + k - min (off + k) cs.toList.length = 0 := by omega
    rw [this]
    simp only [List.set_cons_zero, List.append_assoc, List.cons_append]
    rw [show off + k + 1 + vs.length = off + k + (vs.length + 1) by omega]
    rfl
theorem splice_RDs {own : Nat → Prop} {c : Array Value} {ds : List D} {vs : List Value} {xs : List D} {off : Nat} (h1 : RDs w own ρ c.toList ds) (h2 : RDs w own ρ vs xs) (hl : off + xs.length ≤ ds.length) :
    RDs w own ρ (c.toList.take off ++ vs ++ c.toList.drop (off + vs.length)) (putD ds off xs) := by
  have e1 := h1.len
  have e2 := h2.len
  have e3 : c.toList.length = c.size := by simp
  refine RDs.mk (by rw [putD_len]; simp; omega) fun j v d hv hd => ?_
  have hs := splice_get c vs off j (by omega)
  rw [List.getElem?_toArray] at hs
  rw [hs] at hv
  rw [putD_get _ _ _ _ hl] at hd
  by_cases hc : off ≤ j ∧ j < off + vs.length
  · rw [if_pos hc] at hv
    rw [if_pos (by omega)] at hd
    obtain ⟨u, hu, hr⟩ := h2.get hd
    rw [hv] at hu; cases hu; exact hr
  · rw [if_neg hc] at hv
    rw [if_neg (by omega)] at hd
    obtain ⟨u, hu, hr⟩ := h1.get hd
    rw [show c.toList[j]? = c[j]? by simp] at hu
    rw [hv] at hu; cases hu; exact hr
theorem fill_sound {own : Nat → Prop} (place : Nat → Option (Nat × Nat)) : ∀ (parts : List (Nat × Operand)) (ev : Operand → Value) (de : Operand → D) (c : Array Value) (ds out : List D),
    (∀ x ∈ parts, RD w own ρ (ev x.2) (de x.2)) → RDs w own ρ c.toList ds → (∀ u ∈ c.toList, u.oneCell' = true) → fillD place ds (parts.map fun x => (x.1, de x.2)) = some out →
    ∃ c' : Array Value, Instr.fill place c (parts.map fun x => (x.1, ev x.2)) = some c' ∧ c'.size = c.size ∧ RDs w own ρ c'.toList out ∧ ∀ u ∈ c'.toList, u.oneCell' = true
  | [], ev, de, c, ds, out, _, h, h1, hf => by
    simp only [List.map_nil, fillD, Option.some.injEq] at hf
    subst hf
    exact ⟨c, rfl, rfl, h, h1⟩
  | (i, x) :: rest, ev, de, c, ds, out, hp, h, h1, hf => by
    simp only [List.map_cons, fillD] at hf
    split at hf
    · rename_i off size o hpl hb
      cases hcond : (o.cells.length == size && Nat.ble (off + size) ds.length) with
      | false => simp [hcond] at hf
      | true =>
        simp only [hcond, cond_true] at hf
        simp only [Bool.and_eq_true, beq_iff_eq, Nat.ble_eq] at hcond
        obtain ⟨vs, hv1, hv2, hv3⟩ := box_cells (hp (i, x) (by simp)) hb
        have e1 := h.len
        have e2 := hv3.len
        have e3 : c.toList.length = c.size := by simp
        have hfold : ((ev x).cells.zipIdx.foldl (fun cs (y : Value × Nat) => cs.setIfInBounds (off + y.2) y.1) c) = (c.toList.take off ++ vs ++ c.toList.drop (off + vs.length)).toArray := by
          rw [hv1, ← Array.foldl_toList]
          apply Array.ext'
          have := foldl_set vs c off 0 (by omega)
          simp only [Nat.add_zero] at this
          simpa using this
        have hone : ∀ u ∈ (c.toList.take off ++ vs ++ c.toList.drop (off + vs.length)), u.oneCell' = true := by
          intro u hu
          simp only [List.mem_append] at hu
          rcases hu with (hu | hu) | hu
          · exact h1 u (List.mem_of_mem_take hu)
          · exact hv2 u hu
          · exact h1 u (List.mem_of_mem_drop hu)
        obtain ⟨c', hc1, hc2, hc3, hc4⟩ := fill_sound place rest ev de (c.toList.take off ++ vs ++ c.toList.drop (off + vs.length)).toArray (putD ds off o.cells) out (fun y hy => hp y (by simp [hy]))
          (by simpa using splice_RDs h hv3 (by omega)) (by simpa using hone) hf
        refine ⟨c', ?_, by rw [hc2]; simp; omega, hc3, hc4⟩
        simp only [List.map_cons, Instr.fill, hpl]
        have hsz : (ev x).cells.size = size := by rw [hv1, List.size_toArray]; omega
        rw [if_neg (by simp only [hsz, Bool.or_eq_true, decide_eq_true_eq]; omega), hfold]
        exact hc1
    · cases hf
def buildPlace (T : Tab) (i : TI) : Nat → Option (Nat × Nat) :=
  match i.k with
  | .struct fs => fun n => match fieldAt fs n with | some (off, ty) => (match tl T ty with | some j => some (off, j.size) | none => none) | none => none
  | .arr _ e => fun n => match tl T e with | some j => some (n * j.size, j.size) | none => none
  | _ => fun _ => none
def okElem (T : Tab) (i : TI) : Bool :=
  match i.k with
  | .arr _ e => (tl T e).isSome
  | .struct _ => true
  | _ => false
def aggOf (ds : List D) : D := match mkO ds [] with | some ps => .v (.agg ps) | none => .agg ds
def buildR (T : Tab) (ty : TypeId) (parts : List (Nat × D)) : R :=
  match tl T ty with
  | none => .bad
  | some i =>
    match fillD (buildPlace T i) i.zero parts with
    | some out => .val (aggOf out) (okElem T i = true)
    | none => .bad
theorem aggOf_RD {own : Nat → Prop} {vs : List Value} {ds : List D} (h : RDs w own ρ vs ds) (h1 : ∀ u ∈ vs, u.oneCell' = true) : RD w own ρ (.agg vs.toArray) (aggOf ds) := by
  unfold aggOf
  cases hm : mkO ds [] with
  | none => exact .agg vs ds h1 h
  | some ps =>
    have := mkO_some hm
    simp only [List.reverse_nil, List.map_nil, List.nil_append] at this
    rw [← this] at h
    exact .v _ _ (.agg vs ps h1 h.of_v)
theorem fill_congr (p q : Nat → Option (Nat × Nat)) : ∀ (parts : List (Nat × Value)) (c r : Array Value), (∀ x ∈ parts, ∀ y, p x.1 = some y → q x.1 = some y) → Instr.fill p c parts = some r → Instr.fill q c parts = some r
  | [], _, _, _, h => h
  | (i, v) :: rest, c, r, hpq, h => by
    simp only [Instr.fill] at h ⊢
    cases hp : p i with
    | none => simp [hp] at h
    | some y =>
      obtain ⟨off, size⟩ := y
      simp only [hp] at h
      simp only [hpq (i, v) (by simp) _ hp]
      split at h
      · cases h
      · rename_i hc
        rw [if_neg hc]
        exact fill_congr p q rest _ r (fun x hx => hpq x (by simp [hx])) h
theorem run_fields (hT : TOk P T) : ∀ (fields : List Field) , (∀ f ∈ fields, ∃ i, P.info? f.type = some i ∧ i.size ≠ 0) →
    (fields.mapM fun f => (do pure (f.offset, ← sizeOf f.type) : Sem (Nat × Nat))).run P w = .ok (fields.map fun f => (f.offset, ((P.info? f.type).map (·.size)).getD 0)) w
  | [], _ => by simp
  | f :: fs, h => by
    obtain ⟨i, hi, _⟩ := h f (by simp)
    have h1 : (do pure (f.offset, ← sizeOf f.type) : Sem (Nat × Nat)).run P w = .ok (f.offset, i.size) w := by simp [sizeOf, typeInfo, hi]
    rw [List.mapM_cons, Sem.run_bind, h1, Result.andThen_ok, Sem.run_bind, run_fields hT fs (fun g hg => h g (by simp [hg]))]
    simp [hi]
theorem build_sound (hT : TOk P T) (hrep : Rep w ρ ob) (ty : TypeId) (parts : Array (Nat × Operand)) (ev : Operand → Value) (de : Operand → D) (h : ∀ x ∈ parts.toList, RD w (Own ρ ob) ρ (ev x.2) (de x.2)) (o : Oper) (ho : o.op = .build ty parts) :
    Outs ((execOp ev o).run P w) w ρ ob (buildR T ty (parts.toList.map fun x => (x.1, de x.2))) := by
  unfold buildR
  split
  · exact .bad
  · rename_i i hi
    split
    · rename_i out hout
      refine .val hrep fun hagg => ?_
      obtain ⟨j, z, h1, h2, h3, h4, h5, h6⟩ := hT.info hi
      obtain ⟨hz1, hz2⟩ := zbs_RDs (w := w) (ρ := ρ) (own := Own ρ ob) h5
      obtain ⟨c', hc1, hc2, hc3, hc4⟩ := fill_sound (buildPlace T i) parts.toList ev de z.cells i.zero out h hz1 hz2 hout
      obtain ⟨d, hd, hb⟩ := hT.desc hi
      have hzero : (zeroValue ty).run P w = .ok z w := by simp [zeroValue, typeInfo, h1, h4]
      have hv : c' = c'.toList.toArray := by simp
      refine ⟨.agg c', ?_, by rw [hv]; exact aggOf_RD hc3 hc4⟩
      cases hk : i.k with
      | struct fs =>
        rw [hk] at hb
        cases d <;> simp only [kb, Bool.and_eq_true, beq_iff_eq, Bool.false_eq_true, List.all_eq_true, decide_eq_true_eq] at hb
        rename_i fields
        have hfs : ∀ f ∈ fields.toList, ∃ i, P.info? f.type = some i ∧ i.size ≠ 0 := fun f hf => by
          have := (hb.2 f hf).1
          cases hq : P.info? f.type with
          | none => simp [hq] at this
          | some q => exact ⟨q, rfl, by simpa [hq] using this⟩
        have hm := run_fields (w := w) hT fields.toList hfs
        have hmA : (fields.mapM fun f => (do pure (f.offset, ← sizeOf f.type) : Sem (Nat × Nat))).run P w = .ok (fields.toList.map fun f => (f.offset, ((P.info? f.type).map (·.size)).getD 0)).toArray w := by
          rw [Array.mapM_eq_mapM_toList, Sem.run_map, hm]; rfl
        have hfc := fill_congr (buildPlace T i) ((fields.toList.map fun f => (f.offset, ((P.info? f.type).map (·.size)).getD 0)).toArray[·]?) _ _ _ (fun x _ y hy => by
          simp only [buildPlace, hk] at hy
          rw [fieldAt_get, ← hb.1] at hy
          simp only [List.getElem?_map] at hy
          cases hf : fields.toList[x.1]? with
          | none => simp [hf] at hy
          | some f =>
            simp only [hf, Option.map_some] at hy
            cases hty : tl T f.type with
            | none => simp [hty] at hy
            | some q =>
              simp only [hty, Option.some.injEq] at hy
              obtain ⟨q', _, hq1, hq2, _⟩ := hT.info hty
              have hf' : fields[x.1]? = some f := by simpa using hf
              simp [hf', hq1, hq2, hy]) hc1
        simp only [execOp, ho, Instr.build, Sem.run_bind, hzero, Result.andThen_ok, run_underlying hd w, hmA]
        have hp : (parts.map fun x => (x.1, ev x.2)).toList = parts.toList.map fun x => (x.1, ev x.2) := by simp
        simp only [hp, hfc]
        rfl
      | arr n e =>
        rw [hk] at hb
        cases d <;> simp only [kb, Bool.and_eq_true, beq_iff_eq, Bool.false_eq_true] at hb
        obtain ⟨rfl, rfl⟩ := hb
        rename_i n e
        cases hte : tl T e with
        | none => simp [okElem, hk, hte] at hagg
        | some q =>
          have hpl : buildPlace T i = fun i => some (i * q.size, q.size) := by funext m; simp [buildPlace, hk, hte]
          rw [hpl] at hc1
          simp only [execOp, ho, Instr.build, Sem.run_bind, hzero, Result.andThen_ok, run_underlying hd w, hT.sizeOf hte]
          have hp : (parts.map fun x => (x.1, ev x.2)).toList = parts.toList.map fun x => (x.1, ev x.2) := by simp
          simp only [hp, hc1]
          rfl
      | _ => simp [okElem, hk] at hagg
    · exact .bad
end ops
end Go.V
