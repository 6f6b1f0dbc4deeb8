/-
  THE ENGINE, PART 37: a slice of an own object is stored as pure data.
-/
import Derived.Test.YtnponojgpkbagaaDoorYV36
set_option linter.unusedSimpArgs false
set_option linter.unusedVariables false
namespace Go.V
section
variable {P : Program} {T : Tab} {sz bs : Nat} {k : List It} {st : St} {Q : St → Prop} {draw : Bool} {all : Array Oper} {tbl : List TR} {l : List Oper} {o : Oper}
theorem Wp_storeF (hT : TOk P T) (F : List (Nat × List PV)) {ty : TypeId} {x y : Operand} {sl : List Nat} {i : TI} {id off : Nat} {dv : D} {n ao : AObj}
    (ho : o.op = .store ty x y) (hg : gsel all (fun s => fzs F (st.get s)) o.guard = .run sl) (hx : evG (fun s => fzs F (st.get s)) x = .ptr id off) (hy : evG (fun s => fzs F (st.get s)) y = dv)
    (hi : tl T ty = some i) (hb : boxD dv = some n) (hob : obL st.ob id = some ao) (hs : n.cells.length = i.size ∧ off + n.cells.length ≤ ao.cells.length) (hd : dstB sz o.dst = true)
    (hn : ndF F = true) (hnk : (keysF F).contains id = false) (hobF : ∀ x ∈ roF F, obL st.ob x.1 = some x.2) (hlt : freshB st.nx st.ex [] ([(id, some (putO ao off n))] ++ wrF F) = true)
    (h : Wp P sz bs (.ops draw all (tblS draw ⟨o.dst, sl ++ opSlots o.op, keysF F ++ [id], id :: (wrF F).map (·.1), []⟩ tbl) l :: k) (st.effR o.dst .dead ([(id, some (putO ao off n))] ++ wrF F) []) Q) :
    Wp P sz bs (.ops draw all tbl (o :: l) :: k) st Q := by
  have hR : opR T (fun s => fzs F (st.get s)) (obL st.ob) o.op 0 = .ok .dead [(id, some (putO ao off n))] [] [id] (n.cells.length = i.size ∧ off + n.cells.length ≤ ao.cells.length) := by
    rw [ho]
    simp only [opR, storeR, hx, hy, hi, hb, hob]
  have r0 := rowOk_run (P := P) (sz := sz) (ops := all) hT hg hR hs hd
  have er : roOf (obL st.ob) [id] = [(id, ao)] := by simp [roOf, hob]
  rw [er] at r0
  have r1 := rowOk_frzsG (P := P) (sz := sz) (ops := all) (o := o) F (rs := (sl ++ opSlots o.op).map (fun s => (s, st.get s))) (by simpa [Function.comp_def] using r0) hn (fun x hx => by
    have : x = (id, ao) := by simpa using hx
    rw [this]; exact hnk)
  refine Wp_row r1 (fun x hx => by obtain ⟨s, _, rfl⟩ := List.mem_map.1 hx; rfl) (fun x hx => ?_) hlt rfl ?_
  · rcases List.mem_append.1 hx with hx | hx
    · exact hobF x hx
    · have : x = (id, ao) := by simpa using hx
      rw [this]; exact hob
  · have e : (Row.tr ⟨o.dst, .dead, (sl ++ opSlots o.op).map (fun s => (s, st.get s)), roF F ++ [(id, ao)], [(id, some (putO ao off n))] ++ wrF F, []⟩) = ⟨o.dst, sl ++ opSlots o.op, keysF F ++ [id], id :: (wrF F).map (·.1), []⟩ := by
      simp [Row.tr, Row.slots, Row.reads, Row.writes, Function.comp_def, roF_keys]
    rw [e]; exact h
end
end Go.V
