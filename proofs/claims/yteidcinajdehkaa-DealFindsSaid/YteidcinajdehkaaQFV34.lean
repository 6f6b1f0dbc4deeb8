/-
  A call that is handed some objects, and sees others as pure data; numbers told apart by cases.
-/
import Derived.Test.YteidcinajdehkaaQFV30
import Derived.Test.YteidcinajdehkaaQFV33
set_option linter.unusedSimpArgs false
set_option linter.unusedVariables false
namespace Go.V
section
variable {P : Program} {T : Tab} {sz bs : Nat} {k : List It} {st : St} {Q : St → Prop} {draw : Bool} {all : Array Oper} {tbl : List TR} {l : List Oper} {o : Oper}
def disF (F : List (Nat × List PV)) (sg : List Nat) : Bool := sg.all fun i => !(keysF F).contains i
end
def eqI (a b : Int) : Prop := a = b
instance (a b : Int) : Decidable (eqI a b) := by unfold eqI; infer_instance
theorem putP_len : ∀ (ps cs : List PV) (k : Nat), (putP cs k ps).length = cs.length
  | [], _, _ => rfl
  | p :: ps, cs, k => by rw [putP, putP_len ps]; simp
attribute [go_sem] putP_len
def casN {α : Type} (n v : Nat) (k1 k2 : Option α) : Option α := if n = v then k1 else k2
theorem casN_some {α : Type} {n v : Nat} {k1 k2 : Option α} {r : α} (h : casN n v k1 k2 = some r) : (n = v ∧ k1 = some r) ∨ (n ≠ v ∧ k2 = some r) := by
  unfold casN at h; split at h
  · rename_i e; exact .inl ⟨e, h⟩
  · rename_i e; exact .inr ⟨e, h⟩
def casI {α : Type} (n v : Int) (k1 k2 : Option α) : Option α := if n = v then k1 else k2
theorem casI_some {α : Type} {n v : Int} {k1 k2 : Option α} {r : α} (h : casI n v k1 k2 = some r) : (n = v ∧ k1 = some r) ∨ (n ≠ v ∧ k2 = some r) := by
  unfold casI at h; split at h
  · rename_i e; exact .inl ⟨e, h⟩
  · rename_i e; exact .inr ⟨e, h⟩
theorem wl0 : IntKind.i64.wrap 0 = 0 := by decide
theorem wl1 : IntKind.i64.wrap 1 = 1 := by decide
theorem wl2 : IntKind.i64.wrap 2 = 2 := by decide
theorem wl3 : IntKind.i64.wrap 3 = 3 := by decide
theorem wl4 : IntKind.i64.wrap 4 = 4 := by decide
theorem wl5 : IntKind.i64.wrap 5 = 5 := by decide
theorem wl6 : IntKind.i64.wrap 6 = 6 := by decide
theorem wl7 : IntKind.i64.wrap 7 = 7 := by decide
theorem wl8 : IntKind.i64.wrap 8 = 8 := by decide
theorem wl9 : IntKind.i64.wrap 9 = 9 := by decide
theorem wl10 : IntKind.i64.wrap 10 = 10 := by decide
theorem wl11 : IntKind.i64.wrap 11 = 11 := by decide
theorem wl12 : IntKind.i64.wrap 12 = 12 := by decide
theorem wl13 : IntKind.i64.wrap 13 = 13 := by decide
theorem wl14 : IntKind.i64.wrap 14 = 14 := by decide
theorem wl15 : IntKind.i64.wrap 15 = 15 := by decide
theorem wl16 : IntKind.i64.wrap 16 = 16 := by decide
theorem wl17 : IntKind.i64.wrap 17 = 17 := by decide
theorem wl18 : IntKind.i64.wrap 18 = 18 := by decide
theorem wl19 : IntKind.i64.wrap 19 = 19 := by decide
theorem wl20 : IntKind.i64.wrap 20 = 20 := by decide
theorem wl21 : IntKind.i64.wrap 21 = 21 := by decide
theorem wl22 : IntKind.i64.wrap 22 = 22 := by decide
theorem wl23 : IntKind.i64.wrap 23 = 23 := by decide
theorem wl24 : IntKind.i64.wrap 24 = 24 := by decide
theorem wl25 : IntKind.i64.wrap 25 = 25 := by decide
theorem wl26 : IntKind.i64.wrap 26 = 26 := by decide
theorem wl27 : IntKind.i64.wrap 27 = 27 := by decide
theorem wl28 : IntKind.i64.wrap 28 = 28 := by decide
theorem wl29 : IntKind.i64.wrap 29 = 29 := by decide
theorem wl30 : IntKind.i64.wrap 30 = 30 := by decide
theorem wl31 : IntKind.i64.wrap 31 = 31 := by decide
theorem wl32 : IntKind.i64.wrap 32 = 32 := by decide
theorem wlm1 : IntKind.i64.wrap (-1) = -1 := by decide
attribute [go_sem] wl0 wl1 wl2 wl3 wl4 wl5 wl6 wl7 wl8 wl9 wl10 wl11 wl12 wl13 wl14 wl15 wl16 wl17 wl18 wl19 wl20 wl21 wl22 wl23 wl24 wl25 wl26 wl27 wl28 wl29 wl30 wl31 wl32 wlm1 disF
theorem mkO_app (l : List PV) (p : PV) : mkO (l.map .v ++ [.v p]) [] = some (l ++ [p]) := by
  simp [mkO_v, mkO]
theorem mkO_vs (l : List PV) : mkO (l.map .v) [] = some l := by
  have := mkO_v l [] []
  simp only [List.append_nil] at this
  simp [this, mkO]
attribute [go_sem] mkO_app mkO_vs
end Go.V
