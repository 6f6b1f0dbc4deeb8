/-
  A call through an interface that is handed objects; loops round by round.
-/
import Derived.Test.YtcaecfofgdogbaaDoorR2V38
set_option linter.unusedSimpArgs false
set_option linter.unusedVariables false
namespace Go.V
section
variable {P : Program} {T : Tab} {sz bs : Nat} {k : List It} {st : St} {Q : St → Prop} {draw : Bool} {all : Array Oper} {tbl : List TR} {l : List Oper} {o : Oper}
theorem Wp_callDG (sg : List Nat) {f : FuncId} {argc : List D} {obc obr : Obs} {r : D} (hF : Fn P f sg.length argc obc (fun d ob' => d = r ∧ ob' = obr)) {ds : List D} {sl : List Nat}
  (hcal : calD P st.get o.op = some (f, ds)) (hg : gsel all st.get o.guard = .run sl)
  (hargs : argc = renL allL (inN sg) ds) (hobc : obcOf st.ob sg sg 0 = some obc)
  (hok : callOkB P sz st o.dst f sg obr (newIds sg.length (st.nx + dstN o.dst) obr) (wrIn sg sg.length (st.nx + dstN o.dst) obr obr ++ wrOut sg) = true)
  (h : Wp P sz bs (.ops draw all (tblS draw ⟨o.dst, sl ++ opSlots o.op, (roOf (obL st.ob) sg).map (·.1), (wrIn sg sg.length (st.nx + dstN o.dst) obr obr ++ wrOut sg).map (·.1), newIds sg.length (st.nx + dstN o.dst) obr⟩ tbl) l :: k)
   (st.effR o.dst (ren (liveB sg.length obr) (outN sg sg.length (st.nx + dstN o.dst)) r) (wrIn sg sg.length (st.nx + dstN o.dst) obr obr ++ wrOut sg) (newIds sg.length (st.nx + dstN o.dst) obr)) Q) :
  Wp P sz bs (.ops draw all tbl (o :: l) :: k) st Q := by
 simp only [callOkB, Bool.and_eq_true] at hok
 obtain ⟨⟨⟨⟨⟨k1, k2⟩, k3⟩, k4⟩, k5⟩, k6⟩ := hok
 obtain ⟨s1, s2⟩ := obcOf_spec sg 0 obc hobc
 refine Wp_callG hF sg k1 hcal hg hargs rfl (fun i hi => ndB_idx i k3 hi) (fun i hi => ?_) (fun i hi => s2 i (by omega)) (by simpa [Nat.ble_eq] using k4) (fun i hi => ?_) k2 k6 h
 ·obtain ⟨x, x1, x2⟩ := s1 i hi
  exact ⟨x, x1, by rwa [Nat.zero_add] at x2⟩
 ·have := List.all_eq_true.1 k5 i hi
  simpa [Nat.blt_eq] using this
end
end Go.V
