/-
  THE ENGINE, PART 30: a call that is handed objects and hands them back; a return that does.
-/
import Derived.Test.YteidcinajdehkaaQFV29
set_option linter.unusedSimpArgs false
set_option linter.unusedVariables false
namespace Go.V
section
variable {P : Program} {T : Tab} {sz bs : Nat} {k : List It} {st : St} {Q : St → Prop} {draw : Bool} {all : Array Oper} {tbl : List TR} {l : List Oper} {o : Oper}
theorem Wp_callD (sg : List Nat) {f : FuncId} {argc : List D} {obc obr : Obs} {r : D} (hF : Fn P f sg.length argc obc (fun d ob' => d = r ∧ ob' = obr)) {fop : Operand} {args : Array Operand} {ats : Array TypeId} {sl : List Nat} {caps : List D}
    (ho : o.op = .call ⟨.value fop, args, ats⟩) (hg : gsel all st.get o.guard = .run sl) (hfop : capsOf (evG st.get fop) = some (f, caps))
    (hargs : argc = renL allL (inN sg) (ordA (evG st.get fop) (args.toList.map (evG st.get)) caps)) (hobc : obcOf st.ob sg sg 0 = some obc)
    (hok : callOkB P sz st o.dst f sg obr (newIds sg.length (st.nx + dstN o.dst) obr) (wrIn sg sg.length (st.nx + dstN o.dst) obr obr ++ wrOut sg) = true)
    (h : Wp P sz bs (.ops draw all (tblS draw ⟨o.dst, sl ++ opSlots o.op, (roOf (obL st.ob) sg).map (·.1), (wrIn sg sg.length (st.nx + dstN o.dst) obr obr ++ wrOut sg).map (·.1), newIds sg.length (st.nx + dstN o.dst) obr⟩ tbl) l :: k)
      (st.effR o.dst (ren (liveB sg.length obr) (outN sg sg.length (st.nx + dstN o.dst)) r) (wrIn sg sg.length (st.nx + dstN o.dst) obr obr ++ wrOut sg) (newIds sg.length (st.nx + dstN o.dst) obr)) Q) :
    Wp P sz bs (.ops draw all tbl (o :: l) :: k) st Q := by
  simp only [callOkB, Bool.and_eq_true] at hok
  obtain ⟨⟨⟨⟨⟨k1, k2⟩, k3⟩, k4⟩, k5⟩, k6⟩ := hok
  obtain ⟨s1, s2⟩ := obcOf_spec sg 0 obc hobc
  refine Wp_call hF sg k1 ho hg hfop hargs rfl (fun i hi => ndB_idx i k3 hi) (fun i hi => ?_) (fun i hi => s2 i (by omega)) (by simpa [Nat.ble_eq] using k4) (fun i hi => ?_) k2 k6 h
  · obtain ⟨x, x1, x2⟩ := s1 i hi
    exact ⟨x, x1, by rwa [Nat.zero_add] at x2⟩
  · have := List.all_eq_true.1 k5 i hi
    simpa [Nat.blt_eq] using this
theorem finD {rs : List ResultVar} {Qr : D → Obs → Prop} {nx : Nat} {e e2 : Env} {ob ob2 : Obs} {st' : St} (h2 : ELe e e2) (h3 : OLe ob ob2) (hc : cmpS bs ⟨[], e2, ob2, nx, []⟩ = some st')
    (hr : resQ T st' rs (fun ds => Qr (retD ds) st'.ob)) : FinQ T sz bs rs Qr ⟨[], e, ob, nx, []⟩ :=
  ⟨_, (Wk_le h2 h3).trans (cmpS_ok hc), hr⟩
end
def okK : List It → Bool
  | [] => false
  | .code _ :: _ => true
  | .cut _ :: _ => true
  | .lp .. :: _ => true
  | .blk _ :: k => okK k
  | .scp .. :: k => okK k
  | .ops .. :: _ => false
theorem Wp_wkK {P : Program} {sz bs : Nat} {st st' : St} {Q : St → Prop} (hw : Wk sz bs st st') : ∀ {k : List It}, okK k = true → Wp P sz bs k st' Q → Wp P sz bs k st Q
  | [], h, _ => by cases h
  | .code _ :: _, _, h => Wp_weaken hw h
  | .cut _ :: _, _, ⟨s, a, b⟩ => ⟨s, hw.trans a, b⟩
  | .lp .. :: _, _, ⟨s, a, b⟩ => ⟨s, hw.trans a, b⟩
  | .blk _ :: k, hk, h => Wp_wkK hw (k := k) hk h
  | .scp .. :: k, hk, h => Wp_wkK hw (k := k) hk h
  | .ops .. :: _, h, _ => by cases h
theorem fzL_app (id : Nat) (cs : List PV) : ∀ (a b : List D), fzL id cs (a ++ b) = fzL id cs a ++ fzL id cs b
  | [], _ => rfl
  | d :: a, b => by simp [fzL, fzL_app id cs a b]
theorem fzL_v (id : Nat) (cs : List PV) : ∀ (l : List PV), fzL id cs (l.map .v) = l.map .v
  | [] => rfl
  | d :: a => by simp [fzL, fzD, fzL_v id cs a]
theorem mkO_v : ∀ (l acc : List PV) (t : List D), mkO (l.map .v ++ t) acc = mkO t (l.reverse ++ acc)
  | [], acc, t => rfl
  | d :: a, acc, t => by simp [mkO, mkO_v a (d :: acc) t]
theorem objOf_app (l : List PV) (p : PV) : objOf (l.map .v ++ [.v p]) = .p (l ++ [p]) := by
  simp [objOf, mkO_v, mkO]
theorem objOf_v (l : List PV) : objOf (l.map .v) = .p l := by
  have := mkO_v l [] []
  simp only [List.append_nil] at this
  simp [objOf, this, mkO]
attribute [go_sem] fzL_app fzL_v objOf_app objOf_v
attribute [go_sem] wrIn wrOut outN ren renL renO liveB keysOf newIds nth inN idx allL
def IL (P : Program) (c : Code) (Q : Exit → Act → World → Prop) (a : Act) (w : World) : Prop :=
  ∀ (b : Frame) (k : List Item) (cs : List Frame), ∃ e a' w', Q e a' w' ∧ Arrives P (lone (b.at a (.code c :: .inLoop c :: k)) cs w) b k cs e a' w'
theorem wp_loop_IL {P : Program} {c : Code} {Q : Exit → Act → World → Prop} {a : Act} {w : World} (h : IL P c Q a w) : (Code.loop c).wp P Q a w := by
  intro b k cs
  obtain ⟨e, a', w', hq, harr⟩ := h b k cs
  exact ⟨e, a', w', hq, .of_steps (.one step_loop) harr⟩
theorem IL_mono {P : Program} {c : Code} {Q Q' : Exit → Act → World → Prop} {a : Act} {w : World} (h : IL P c Q a w) (hq : ∀ e a w, Q e a w → Q' e a w) : IL P c Q' a w :=
  fun b k cs => let ⟨e, a', w', q, r⟩ := h b k cs; ⟨e, a', w', hq _ _ _ q, r⟩
theorem IL_step {P : Program} {c : Code} {Q : Exit → Act → World → Prop} {a : Act} {w : World} (h : c.wp P (fun e a w => match e with | .normal => IL P c Q a w | e => Q e a w) a w) : IL P c Q a w := by
  intro b k cs
  obtain ⟨e, a₁, w₁, hq, harr⟩ := h b (.inLoop c :: k) cs
  cases e with
  | normal =>
    obtain ⟨e₂, a₂, w₂, hq₂, harr₂⟩ := hq b k cs
    exact ⟨e₂, a₂, w₂, hq₂, .of_steps (Steps.trans harr (.one step_inLoop)) harr₂⟩
  | exit id => exact ⟨_, a₁, w₁, hq, .pass (x := .inLoop c) rfl (fun _ _ => .inl (by simp)) harr⟩
  | goto l => exact ⟨_, a₁, w₁, hq, .pass (x := .inLoop c) rfl (fun _ _ => .inl (by simp)) harr⟩
  | ret => exact ⟨_, a₁, w₁, hq, .pass (x := .inLoop c) rfl (fun _ _ => .inl (by simp)) harr⟩
  | panic ch => exact ⟨_, a₁, w₁, hq, .pass (x := .inLoop c) rfl (fun _ _ => .inl (by simp)) harr⟩
  | outgrown => exact ⟨_, a₁, w₁, hq, .pass (x := .inLoop c) rfl (fun _ _ => .inl (by simp)) harr⟩
def WpL (P : Program) (sz bs : Nat) (c : Code) (k : List It) (st : St) (Q : St → Prop) : Prop :=
  ∀ fr, FrOk bs fr → ∀ a w ρ, SatS fr sz a w ρ st → IL P c (fun e a' w' => ∃ st' ρ', Run P sz bs k e st' Q ∧ SatS fr sz a' w' ρ' st' ∧ EvoB bs w ρ (ovl (obL st.ob) fr) w' ρ' (ovl (obL st'.ob) fr)) a w
theorem Wp_loopL {P : Program} {sz bs : Nat} {c : Code} {k : List It} {st : St} {Q : St → Prop} (h : WpL P sz bs c k st Q) : Wp P sz bs (.code (.loop c) :: k) st Q :=
  fun fr hfr a w ρ hs => wp_loop_IL (h fr hfr a w ρ hs)
theorem WpL_step {P : Program} {sz bs : Nat} {c : Code} {k : List It} {st : St} {Q : St → Prop} (h : Wp P sz bs (.code c :: .cut (fun s => WpL P sz bs c k s Q) :: k) st Q) : WpL P sz bs c k st Q := by
  intro fr hfr a w ρ hs
  refine IL_step (wp_mono (h fr hfr a w ρ hs) fun e a2 w2 ⟨st2, ρ2, q, s, e2⟩ => ?_)
  cases e with
  | normal =>
    obtain ⟨st3, hw3, hJ3⟩ := q
    obtain ⟨ρ3, hs3, he3⟩ := hw3 fr hfr a2 w2 ρ2 s
    exact IL_mono (hJ3 fr hfr a2 w2 ρ3 hs3) fun e a3 w3 ⟨st4, ρ4, q4, s4, e4⟩ => ⟨st4, ρ4, q4, s4, e2.trans (he3.trans e4)⟩
  | _ => exact ⟨st2, ρ2, by have q' := q; rw [Run_cut_exit (by simp)] at q'; exact q', s, e2⟩
theorem again {P : Program} {sz bs : Nat} {c : Code} {k : List It} {st st' : St} {Q : St → Prop} (hw : Wk sz bs st st') (h : Wp P sz bs (.code c :: .cut (fun s => WpL P sz bs c k s Q) :: k) st' Q) : ∃ s, Wk sz bs st s ∧ WpL P sz bs c k s Q :=
  ⟨st', hw, WpL_step h⟩
end Go.V
