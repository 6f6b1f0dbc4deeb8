/-
  THE ENGINE, PART 26: from a contract of the engine to the form of a given statement.
-/
import Derived.Test.YteidcinajdehkaaQFV25
import Derived.ProofKit
import Derived.WalkKit
import Derived.OpenShut
import Derived.JoinedCond
set_option linter.unusedSimpArgs false
set_option linter.unusedVariables false
namespace Go.V
open Go.ChangeShapes Go.WideShapes Go.ChangeAt Go.RowKit
structure Kept (W W' : World) : Prop where
  os : W'.os = W.os
  output : W'.output = W.output
  size : W.heap.size ≤ W'.heap.size
  keep : ∀ b, b < W.heap.size → W'.heap[b]? = W.heap[b]?
theorem Kept.but {W W' : World} (h : Kept W W') (may : MemPlace → Prop) : W.keptBut W' may := by
  refine ⟨h.os, h.output, fun i hi => ?_⟩
  rw [h.keep i hi]
  split
  · rename_i c t fr c' t' fr' h1 h2
    rw [h1] at h2
    simp only [Option.some.injEq, Obj.cells.injEq] at h2
    obtain ⟨rfl, rfl, rfl⟩ := h2
    exact ⟨rfl, rfl, rfl, fun _ _ => rfl⟩
  · rename_i es cl es' cl' h1 h2
    rw [h1] at h2
    simp only [Option.some.injEq, Obj.map.injEq] at h2
    obtain ⟨rfl, rfl⟩ := h2
    exact .inr ⟨rfl, rfl⟩
  · rfl
theorem Kept.frozen {W W' : World} (h : Kept W W') {a : Addr} (ha : a.block < W.heap.size) : W'.frozen? a = W.frozen? a := by
  simp only [World.frozen?, h.keep _ ha]
theorem post_of_kept {P : Program} {H : Type} {enc : TypeId × Value → H} {f : Func} {s : ChangeSpec} {apart fresh handsOn again : Bool} {W W' : World} {args : Array Value} {v : Value} {ds gs : List (DataW H)} {before pa pv : List MemPlace}
    (hW : DataW.Whole enc P f.params.toList s.vars apart W args.toList ds gs before)
    (hres : ∀ (b : Nat) (sp : Nat → Bool) (hd : Bool), DataW.TrodAll enc P W' b sp hd f.resultTypes.toList (v.resultList f.resultTypes.size) (s.fn H (ds ++ gs)).results [])
    (hargs : ∀ sp : Nat → Bool, (∀ p ∈ before, sp p.block = true) → DataW.TrodAll enc P W' 0 sp true f.params.toList args.toList (s.fn H (ds ++ gs)).args pa)
    (hvars : ∀ sp : Nat → Bool, (∀ p ∈ before, sp p.block = true) → DataW.TrodVars enc P W' sp s.vars (s.fn H (ds ++ gs)).vars pv)
    (hps : before = pa ++ pv) (hk : Kept W W')
    (hok : ∀ (j : Nat) (t : TypeId) (r : Value), f.resultTypes[j]? = some t → (v.resultList f.resultTypes.size)[j]? = some r → Value.okWide P W' .any 0 t r) :
    s.post enc P f apart fresh handsOn again W args v W' := by
  have hold : ∀ p ∈ before, (fun b => decide (b < W.heap.size)) p.block = true := fun p hp => by simpa using hW.lt p hp
  have hlt := hW.lt
  refine ⟨ds, gs, before, [], pa, pv, hW, hres _ _ _, hargs _ hold, hvars _ hold, hk.but _, fun _ => ?_⟩
  obtain ⟨_, _, _, _, _, hz, hn⟩ := hW
  refine ⟨hok, _, _, ([] ++ pa) ++ pv, ⟨[] ++ pa, pv, trodAll_append (hargs _ (fun _ _ => rfl)) (hres _ _ _), hvars _ (fun _ _ => rfl), rfl, ?_, ?_⟩, ?_⟩
  · intro b off hp
    have hp' : (MemPlace.cell b off) ∈ before := by rw [hps]; simpa using hp
    rw [hk.frozen (hlt _ hp')]
    exact hz b off hp'
  · intro ha
    have := hn ha
    rw [hps] at this
    simpa using this
  · intro p hp _
    rw [hps]
    simpa using hp
theorem FrOk_none (bs : Nat) : FrOk bs (fun _ => none) := by constructor <;> simp
theorem FnP.calls {P : Program} {f : FuncId} {ps : List PV} {b : Bool} (h : FnP P f ps (.bool b)) {vals : Array Value} {W : World} (hv : RPs W (fun _ => False) vals.toList ps) (hG : ∀ x ∈ Gv, RC W (fun _ => False) x.1 0 x.2) :
    Calls P f vals W fun e W' => e = .returned (.bool b) ∧ Kept W W' := by
  have hno : ∀ b, ¬ Own (fun _ => none) (ovl (obL []) (fun _ => none)) b := fun b ⟨i, o, ho, hr⟩ => by cases hr
  have hown : (Own (fun _ => none) (ovl (obL []) (fun _ => none)) : Nat → Prop) = fun _ => False := by funext b; exact propext ⟨fun h => hno b h, False.elim⟩
  have hrep : Rep W (fun _ => none) (ovl (obL []) (fun _ => none)) := ⟨fun i j b _ _ h => (by cases h), fun i o ho => (by simp [ovl, obL] at ho), by rw [hown]; exact hG⟩
  refine (h (fun _ => none) (FrOk_none 0) vals W (fun _ => none) hrep (by rw [hown]; exact hv.to_v) (fun _ _ _ => rfl)).mono ?_
  rintro e W' ⟨v, d, ob', ρ', rfl, ⟨rfl, rfl⟩, hd, _, ev⟩
  refine ⟨?_, ev.os, ev.output, ev.size, fun b hb => ev.keep b hb (hno b)⟩
  cases hd with | v _ _ h => cases h; rfl
end Go.V
