/-
  THE ENGINE, PART 30: a call that is handed objects and hands them back; a return that does.
-/
import Derived.Test.YtdnfffmppppoeaaDoorQTV29
set_option linter.unusedSimpArgs false
set_option linter.unusedVariables false
namespace Go.V
section
variable {P : Program} {T : Tab} {sz bs : Nat} {k : List It} {st : St} {Q : St → Prop} {draw : Bool} {all : Array Oper} {tbl : List TR} {l : List Oper} {o : Oper}
theorem Wp_callD (sg : List Nat) {f : FuncId} {argc : List D} {obc obr : Obs} {r : D} (hF : Fn P f sg.length argc obc (fun d ob' => d = r ∧ ob' = obr)) {fop : Operand} {args : Array Operand} {ats : Array TypeId} {sl : List Nat} {caps : List D}
    (ho : o.op = .call ⟨.value fop, args, ats⟩) (hg : gsel all st.get o.guard = .run sl) (hfop : capsOf (evG st.get fop) = some (f, caps))
    (hargs : argc = renL allL (inN sg) (ordA (evG st.get fop) (args.toList.map (evG st.get)) caps)) (hobc : obcOf st.ob sg sg 0 = some obc)
    (hok : callOkB P sz st o.dst f sg obr (newIds sg.length (st.nx + dstN o.dst) obr) (wrIn sg sg.length (st.nx + dstN o.dst) obr obr ++ wrOut sg) = true)
    (h : Wp P sz bs (.ops draw all (tblS draw ⟨o.dst, sl ++ opSlots o.op, (roOf (obL st.ob) sg).map (·.1), (wrIn sg sg.length (st.nx + dstN o.dst) obr obr ++ wrOut sg).map (·.1), newIds sg.length (st.nx + dstN o.dst) obr⟩ tbl) l :: k)
      (st.effR o.dst (ren (liveB sg.length obr) (outN sg sg.length (st.nx + dstN o.dst)) r) (wrIn sg sg.length (st.nx + dstN o.dst) obr obr ++ wrOut sg) (newIds sg.length (st.nx + dstN o.dst) obr)) Q) :
    Wp P sz bs (.ops draw all tbl (o :: l) :: k) st Q := by
  simp only [callOkB, Bool.and_eq_true] at hok
  obtain ⟨⟨⟨⟨⟨k1, k2⟩, k3⟩, k4⟩, k5⟩, k6⟩ := hok
  obtain ⟨s1, s2⟩ := obcOf_spec sg 0 obc hobc
  refine Wp_call hF sg k1 ho hg hfop hargs rfl (fun i hi => ndB_idx i k3 hi) (fun i hi => ?_) (fun i hi => s2 i (by omega)) (by simpa [Nat.ble_eq] using k4) (fun i hi => ?_) k2 k6 h
  · obtain ⟨x, x1, x2⟩ := s1 i hi
    exact ⟨x, x1, by rwa [Nat.zero_add] at x2⟩
  · have := List.all_eq_true.1 k5 i hi
    simpa [Nat.blt_eq] using this
theorem finD {rs : List ResultVar} {Qr : D → Obs → Prop} {nx : Nat} {e e2 : Env} {ob ob2 : Obs} {st' : St} (h2 : ELe e e2) (h3 : OLe ob ob2) (hc : cmpS bs ⟨[], e2, ob2, nx, []⟩ = some st')
    (hr : resQ T st' rs (fun ds => Qr (retD ds) st'.ob)) : FinQ T sz bs rs Qr ⟨[], e, ob, nx, []⟩ :=
  ⟨_, (Wk_le h2 h3).trans (cmpS_ok hc), hr⟩
end
theorem resQ_cell {T : Tab} {st : St} {a : Nat} {ty : TypeId} {l : List ResultVar} {K : List D → Prop} : resQ T st (.cell a ty :: l) K = match loadR T (obL st.ob) ty (st.get a) with
    | .ok d _ _ _ side => side ∧ resQ T st l fun ds => K (d :: ds)
    | .bad => False := rfl
def okK : List It → Bool
  | [] => false
  | .code _ :: _ => true
  | .cut _ :: _ => true
  | .lp .. :: _ => true
  | .blk _ :: k => okK k
  | .ops .. :: _ => false
theorem Wp_wkK {P : Program} {sz bs : Nat} {st st' : St} {Q : St → Prop} (hw : Wk sz bs st st') : ∀ {k : List It}, okK k = true → Wp P sz bs k st' Q → Wp P sz bs k st Q
  | [], h, _ => by cases h
  | .code _ :: _, _, h => Wp_weaken hw h
  | .cut _ :: _, _, ⟨s, a, b⟩ => ⟨s, hw.trans a, b⟩
  | .lp .. :: _, _, ⟨s, a, b⟩ => ⟨s, hw.trans a, b⟩
  | .blk _ :: k, hk, h => Wp_wkK hw (k := k) hk h
  | .ops .. :: _, h, _ => by cases h
theorem fzL_app (id : Nat) (cs : List PV) : ∀ (a b : List D), fzL id cs (a ++ b) = fzL id cs a ++ fzL id cs b
  | [], _ => rfl
  | d :: a, b => by simp [fzL, fzL_app id cs a b]
theorem fzL_v (id : Nat) (cs : List PV) : ∀ (l : List PV), fzL id cs (l.map .v) = l.map .v
  | [] => rfl
  | d :: a => by simp [fzL, fzD, fzL_v id cs a]
theorem mkO_v : ∀ (l acc : List PV) (t : List D), mkO (l.map .v ++ t) acc = mkO t (l.reverse ++ acc)
  | [], acc, t => rfl
  | d :: a, acc, t => by simp [mkO, mkO_v a (d :: acc) t]
theorem objOf_app (l : List PV) (p : PV) : objOf (l.map .v ++ [.v p]) = .p (l ++ [p]) := by
  simp [objOf, mkO_v, mkO]
theorem objOf_v (l : List PV) : objOf (l.map .v) = .p l := by
  have := mkO_v l [] []
  simp only [List.append_nil] at this
  simp [objOf, this, mkO]
attribute [go_sem] fzL_app fzL_v objOf_app objOf_v
attribute [go_sem] wrIn wrOut outN ren renL renO liveB keysOf newIds nth inN idx allL
end Go.V
