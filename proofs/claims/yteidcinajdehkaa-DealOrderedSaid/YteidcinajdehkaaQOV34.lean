/-
  A call that is handed some objects, and sees others as pure data; numbers told apart by cases.
-/
import Derived.Test.YteidcinajdehkaaQOV30
import Derived.Test.YteidcinajdehkaaQOV33
set_option linter.unusedSimpArgs false
set_option linter.unusedVariables false
namespace Go.V
theorem rowOk_frzsG {P : Program} {sz : Nat} {ops : Array Oper} {o : Oper} {dst : Option Tmp} {d : D} : ∀ (F : List (Nat × List PV)) {rs : List (Nat × D)} {ro : List (Nat × AObj)} {wr : List (Nat × Option AObj)} {al : List Nat},
    RowOk P sz ops o ⟨dst, d, rs.map (fun x => (x.1, fzs F x.2)), ro, wr, al⟩ → ndF F = true → (∀ x ∈ ro, (keysF F).contains x.1 = false) → RowOk P sz ops o ⟨dst, d, rs, roF F ++ ro, wr ++ wrF F, al⟩
  | [], rs, ro, wr, al, h, _, _ => by simpa [fzs, roF, wrF] using h
  | (i, cs) :: l, rs, ro, wr, al, h, hn, hr => by
    simp only [ndF, Bool.and_eq_true, Bool.not_eq_true'] at hn
    have hr' : ∀ x ∈ ro, x.1 ≠ i ∧ (keysF l).contains x.1 = false := fun x hx => by
      have := hr x hx
      simp only [keysF, List.contains_cons, Bool.or_eq_false_iff, beq_eq_false_iff_ne] at this
      exact this
    have ih := rowOk_frzsG l (rs := rs.map (fun x => (x.1, fzD i cs x.2))) (ro := ro) (wr := wr) (al := al) (by simpa [List.map_map, Function.comp_def, fzs] using h) hn.2 (fun x hx => (hr' x hx).2)
    have := rowOk_frz i cs ih (fun x hx e => by
      rcases List.mem_append.1 hx with hx | hx
      · have hm := roF_mem hx
        rw [e] at hm
        have h2 := hn.1
        simp [hm] at h2
      · exact (hr' x hx).1 e)
    simpa [roF, wrF, List.append_assoc] using this
section
variable {P : Program} {T : Tab} {sz bs : Nat} {k : List It} {st : St} {Q : St → Prop} {draw : Bool} {all : Array Oper} {tbl : List TR} {l : List Oper} {o : Oper}
def disF (F : List (Nat × List PV)) (sg : List Nat) : Bool := sg.all fun i => !(keysF F).contains i
theorem Wp_callDF (F : List (Nat × List PV)) (sg : List Nat) {f : FuncId} {argc : List D} {obc obr : Obs} {r : D} (hF : Fn P f sg.length argc obc (fun d ob' => d = r ∧ ob' = obr)) {fop : Operand} {args : Array Operand} {ats : Array TypeId} {sl : List Nat} {caps : List D}
    (ho : o.op = .call ⟨.value fop, args, ats⟩) (hg : gsel all (fun s => fzs F (st.get s)) o.guard = .run sl) (hfop : capsOf (evG (fun s => fzs F (st.get s)) fop) = some (f, caps))
    (hargs : argc = renL allL (inN sg) (ordA (evG (fun s => fzs F (st.get s)) fop) (args.toList.map (evG (fun s => fzs F (st.get s)))) caps)) (hobc : obcOf st.ob sg sg 0 = some obc)
    (hok : callOkB P sz st o.dst f sg obr (newIds sg.length (st.nx + dstN o.dst) obr) (wrIn sg sg.length (st.nx + dstN o.dst) obr obr ++ wrOut sg ++ wrF F) = true)
    (hn : ndF F = true) (hdis : disF F sg = true) (hob : ∀ x ∈ roF F, obL st.ob x.1 = some x.2)
    (h : Wp P sz bs (.ops draw all (tblS draw ⟨o.dst, sl ++ opSlots o.op, (roF F ++ roOf (obL st.ob) sg).map (·.1), (wrIn sg sg.length (st.nx + dstN o.dst) obr obr ++ wrOut sg ++ wrF F).map (·.1), newIds sg.length (st.nx + dstN o.dst) obr⟩ tbl) l :: k)
      (st.effR o.dst (ren (liveB sg.length obr) (outN sg sg.length (st.nx + dstN o.dst)) r) (wrIn sg sg.length (st.nx + dstN o.dst) obr obr ++ wrOut sg ++ wrF F) (newIds sg.length (st.nx + dstN o.dst) obr)) Q) :
    Wp P sz bs (.ops draw all tbl (o :: l) :: k) st Q := by
  simp only [callOkB, Bool.and_eq_true] at hok
  obtain ⟨⟨⟨⟨⟨k1, k2⟩, k3⟩, k4⟩, k5⟩, k6⟩ := hok
  obtain ⟨s1, s2⟩ := obcOf_spec sg 0 obc hobc
  have r0 := rowOk_call (P := P) (sz := sz) (ops := all) (bs := sg.length) (N := st.nx + dstN o.dst) (ob := obL st.ob) (sg := sg) hF k1 ho hg hfop hargs rfl (by simpa [Nat.ble_eq] using k4) (fun i hi => ndB_idx i k3 hi)
    (fun i hi => by
      obtain ⟨x, x1, x2⟩ := s1 i hi
      exact ⟨x, x1, by rwa [Nat.zero_add] at x2⟩) (fun i hi => s2 i (by omega)) (fun i hi => by
      have := List.all_eq_true.1 k5 i hi
      simpa [Nat.blt_eq] using this) k2
  have r1 := rowOk_frzsG (P := P) (sz := sz) (ops := all) (o := o) (dst := o.dst) F (rs := (sl ++ opSlots o.op).map (fun s => (s, st.get s))) (by simpa [Function.comp_def] using r0) hn (fun x hx => by
    have := List.all_eq_true.1 hdis x.1 (roOf_mem hx).2
    simpa using this)
  refine Wp_row r1 (fun x hx => by obtain ⟨s, _, rfl⟩ := List.mem_map.1 hx; rfl) (fun x hx => ?_) k6 rfl ?_
  · rcases List.mem_append.1 hx with hx | hx
    · exact hob x hx
    · exact (roOf_mem hx).1
  · have e : (Row.tr ⟨o.dst, ren (liveB sg.length obr) (outN sg sg.length (st.nx + dstN o.dst)) r, (sl ++ opSlots o.op).map (fun s => (s, st.get s)), roF F ++ roOf (obL st.ob) sg, wrIn sg sg.length (st.nx + dstN o.dst) obr obr ++ wrOut sg ++ wrF F, newIds sg.length (st.nx + dstN o.dst) obr⟩) =
        ⟨o.dst, sl ++ opSlots o.op, (roF F ++ roOf (obL st.ob) sg).map (·.1), (wrIn sg sg.length (st.nx + dstN o.dst) obr obr ++ wrOut sg ++ wrF F).map (·.1), newIds sg.length (st.nx + dstN o.dst) obr⟩ := by
      simp [Row.tr, Row.slots, Row.reads, Row.writes, Function.comp_def]
    rw [e]; exact h
end
def eqI (a b : Int) : Prop := a = b
instance (a b : Int) : Decidable (eqI a b) := by unfold eqI; infer_instance
theorem eqI_t {a b : Int} (h : eqI a b) : (a = b) = True := eq_true h
theorem putP_len : ∀ (ps cs : List PV) (k : Nat), (putP cs k ps).length = cs.length
  | [], _, _ => rfl
  | p :: ps, cs, k => by rw [putP, putP_len ps]; simp
attribute [go_sem] putP_len
def casI {α : Type} (n v : Int) (k1 k2 : Option α) : Option α := if n = v then k1 else k2
theorem casI_some {α : Type} {n v : Int} {k1 k2 : Option α} {r : α} (h : casI n v k1 k2 = some r) : (n = v ∧ k1 = some r) ∨ (n ≠ v ∧ k2 = some r) := by
  unfold casI at h; split at h
  · rename_i e; exact .inl ⟨e, h⟩
  · rename_i e; exact .inr ⟨e, h⟩
theorem wl0 : IntKind.i64.wrap 0 = 0 := by decide
theorem wl1 : IntKind.i64.wrap 1 = 1 := by decide
theorem wl2 : IntKind.i64.wrap 2 = 2 := by decide
theorem wl3 : IntKind.i64.wrap 3 = 3 := by decide
theorem wl4 : IntKind.i64.wrap 4 = 4 := by decide
theorem wl5 : IntKind.i64.wrap 5 = 5 := by decide
theorem wl6 : IntKind.i64.wrap 6 = 6 := by decide
theorem wl7 : IntKind.i64.wrap 7 = 7 := by decide
theorem wl8 : IntKind.i64.wrap 8 = 8 := by decide
theorem wl9 : IntKind.i64.wrap 9 = 9 := by decide
theorem wl10 : IntKind.i64.wrap 10 = 10 := by decide
theorem wl11 : IntKind.i64.wrap 11 = 11 := by decide
theorem wl12 : IntKind.i64.wrap 12 = 12 := by decide
theorem wl13 : IntKind.i64.wrap 13 = 13 := by decide
theorem wl14 : IntKind.i64.wrap 14 = 14 := by decide
theorem wl15 : IntKind.i64.wrap 15 = 15 := by decide
theorem wl16 : IntKind.i64.wrap 16 = 16 := by decide
theorem wl17 : IntKind.i64.wrap 17 = 17 := by decide
theorem wl18 : IntKind.i64.wrap 18 = 18 := by decide
theorem wl19 : IntKind.i64.wrap 19 = 19 := by decide
theorem wl20 : IntKind.i64.wrap 20 = 20 := by decide
theorem wl21 : IntKind.i64.wrap 21 = 21 := by decide
theorem wl22 : IntKind.i64.wrap 22 = 22 := by decide
theorem wl23 : IntKind.i64.wrap 23 = 23 := by decide
theorem wl24 : IntKind.i64.wrap 24 = 24 := by decide
theorem wl25 : IntKind.i64.wrap 25 = 25 := by decide
theorem wl26 : IntKind.i64.wrap 26 = 26 := by decide
theorem wl27 : IntKind.i64.wrap 27 = 27 := by decide
theorem wl28 : IntKind.i64.wrap 28 = 28 := by decide
theorem wl29 : IntKind.i64.wrap 29 = 29 := by decide
theorem wl30 : IntKind.i64.wrap 30 = 30 := by decide
theorem wl31 : IntKind.i64.wrap 31 = 31 := by decide
theorem wl32 : IntKind.i64.wrap 32 = 32 := by decide
theorem wlm1 : IntKind.i64.wrap (-1) = -1 := by decide
attribute [go_sem] wl0 wl1 wl2 wl3 wl4 wl5 wl6 wl7 wl8 wl9 wl10 wl11 wl12 wl13 wl14 wl15 wl16 wl17 wl18 wl19 wl20 wl21 wl22 wl23 wl24 wl25 wl26 wl27 wl28 wl29 wl30 wl31 wl32 wlm1 disF
theorem mkO_app (l : List PV) (p : PV) : mkO (l.map .v ++ [.v p]) [] = some (l ++ [p]) := by
  simp [mkO_v, mkO]
theorem mkO_vs (l : List PV) : mkO (l.map .v) [] = some l := by
  have := mkO_v l [] []
  simp only [List.append_nil] at this
  simp [this, mkO]
attribute [go_sem] mkO_app mkO_vs
end Go.V
