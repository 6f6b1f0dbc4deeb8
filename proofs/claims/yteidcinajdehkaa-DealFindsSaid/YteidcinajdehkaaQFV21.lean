/-
  THE ENGINE, PART 21: the evaluator's equations, one for each form.
-/
import Derived.Test.YteidcinajdehkaaQFV20
set_option linter.unusedSimpArgs false
set_option linter.unusedVariables false
namespace Go.V
section
variable {P : Program} {T : Tab} {sz bs n : Nat} {k : List It} {st : St} {Q : St → Prop}
def opS (P : Program) (T : Tab) (sz bs n : Nat) (r : R) (dst : Option Tmp) (sls : List Nat) (draw : Bool) (all : Array Oper) (tbl : List TR) (l : List Oper) (k : List It) (st : St) (Q : St → Prop) : Prop :=
  match r with
  | .bad => False
  | .ok d wr al rd side => side ∧ freshB st.nx st.ex al wr = true ∧ dstB sz dst = true ∧
      W P T sz bs n (.ops draw all (tblS draw ⟨dst, sls, (roOf (obL st.ob) rd).map (·.1), wr.map (·.1), al⟩ tbl) l :: k) (st.effR dst d wr al) Q
def callS (P : Program) (T : Tab) (sz bs n : Nat) (b : Bool) (o : Oper) (sl : List Nat) (draw : Bool) (all : Array Oper) (tbl : List TR) (l : List Oper) (k : List It) (st : St) (Q : St → Prop) : Prop :=
  match b with
  | true => Wp P sz bs (.ops draw all tbl (o :: l) :: k) st Q
  | false => opS P T sz bs n (opR T st.get (obL st.ob) o.op (st.nx + dstN o.dst)) o.dst (sl ++ opSlots o.op) draw all tbl l k st Q
def gS (P : Program) (T : Tab) (sz bs n : Nat) (g : G) (o : Oper) (draw : Bool) (all : Array Oper) (tbl : List TR) (l : List Oper) (k : List It) (st : St) (Q : St → Prop) : Prop :=
  match g with
  | .bad => False
  | .skip sl => dstB sz o.dst = true ∧ W P T sz bs n (.ops draw all (tblS draw ⟨o.dst, sl, [], [], []⟩ tbl) l :: k) (st.effR o.dst (.v (.tup [])) [] []) Q
  | .run sl => callS P T sz bs n (isCall o.op) o sl draw all tbl l k st Q
def condS (P : Program) (T : Tab) (sz bs n : Nat) (d : D) (x y : Code) (k : List It) (st : St) (Q : St → Prop) : Prop :=
  match d with
  | .v (.bool t) => (match t with | true => W P T sz bs n (.code x :: k) st Q | false => W P T sz bs n (.code y :: k) st Q)
  | _ => False
def exitS (P : Program) (T : Tab) (sz bs n : Nat) (k : Option (List It)) (st : St) (Q : St → Prop) : Prop :=
  match k with
  | some k' => W P T sz bs n k' st Q
  | none => False
theorem W_zero : W P T sz bs 0 k st Q = Wp P sz bs k st Q := rfl
theorem W_nil : W P T sz bs (n + 1) [] st Q = Q st := rfl
theorem W_skip : W P T sz bs (n + 1) (.code .skip :: k) st Q = W P T sz bs n k st Q := rfl
theorem W_seq {a b : Code} : W P T sz bs (n + 1) (.code (.seq a b) :: k) st Q = W P T sz bs n (.code a :: .code b :: k) st Q := rfl
theorem W_region {id : Nat} {l : List Oper} {draw : Bool} : W P T sz bs (n + 1) (.code (.region id l.toArray draw) :: k) st Q = W P T sz bs n (.ops draw l.toArray [] l :: k) st Q := rfl
theorem W_block {id : Nat} {c : Code} : W P T sz bs (n + 1) (.code (.block id c) :: k) st Q = W P T sz bs n (.code c :: .blk id :: k) st Q := rfl
theorem W_exit {id : Nat} : W P T sz bs (n + 1) (.code (.exit id) :: k) st Q = exitS P T sz bs n (exK id k) st Q := rfl
theorem W_ret : W P T sz bs (n + 1) (.code .ret :: k) st Q = Q st := rfl
theorem W_cond {c : Operand} {x y : Code} : W P T sz bs (n + 1) (.code (.cond c x y) :: k) st Q = condS P T sz bs n (evG st.get c) x y k st Q := rfl
theorem W_loop {c : Code} : W P T sz bs (n + 1) (.code (.loop c) :: k) st Q = Wp P sz bs (.code (.loop c) :: k) st Q := rfl
theorem W_blk {id : Nat} : W P T sz bs (n + 1) (.blk id :: k) st Q = W P T sz bs n k st Q := rfl
theorem W_opsF {all : Array Oper} {tbl : List TR} : W P T sz bs (n + 1) (.ops false all tbl [] :: k) st Q = W P T sz bs n k st.fl Q := by
  show (confB false all tbl ∧ W P T sz bs n k st.fl Q) = _
  have : confB false all tbl := fun h => Bool.noConfusion h
  simp [this]
theorem W_opsT {all : Array Oper} {tbl : List TR} : W P T sz bs (n + 1) (.ops true all tbl [] :: k) st Q = ((backB all && okTbl all tbl.reverse) = true ∧ W P T sz bs n k st.fl Q) := by
  show (confB true all tbl ∧ W P T sz bs n k st.fl Q) = _
  simp [confB]
theorem W_op {o : Oper} {draw : Bool} {all : Array Oper} {tbl : List TR} {l : List Oper} : W P T sz bs (n + 1) (.ops draw all tbl (o :: l) :: k) st Q = gS P T sz bs n (gsel all st.get o.guard) o draw all tbl l k st Q := rfl
variable {o : Oper} {draw : Bool} {all : Array Oper} {tbl : List TR} {l : List Oper}
theorem gS_run {sl : List Nat} : gS P T sz bs n (.run sl) o draw all tbl l k st Q = callS P T sz bs n (isCall o.op) o sl draw all tbl l k st Q := rfl
theorem gS_skip {sl : List Nat} : gS P T sz bs n (.skip sl) o draw all tbl l k st Q = (dstB sz o.dst = true ∧ W P T sz bs n (.ops draw all (tblS draw ⟨o.dst, sl, [], [], []⟩ tbl) l :: k) (st.effR o.dst (.v (.tup [])) [] []) Q) := rfl
theorem callS_true {sl : List Nat} : callS P T sz bs n true o sl draw all tbl l k st Q = Wp P sz bs (.ops draw all tbl (o :: l) :: k) st Q := rfl
theorem callS_false {sl : List Nat} : callS P T sz bs n false o sl draw all tbl l k st Q = opS P T sz bs n (opR T st.get (obL st.ob) o.op (st.nx + dstN o.dst)) o.dst (sl ++ opSlots o.op) draw all tbl l k st Q := rfl
theorem opS_ok {d : D} {wr : List (Nat × Option AObj)} {al rd : List Nat} {side : Prop} {dst : Option Tmp} {sls : List Nat} : opS P T sz bs n (.ok d wr al rd side) dst sls draw all tbl l k st Q = (side ∧ freshB st.nx st.ex al wr = true ∧ dstB sz dst = true ∧
      W P T sz bs n (.ops draw all (tblS draw ⟨dst, sls, (roOf (obL st.ob) rd).map (·.1), wr.map (·.1), al⟩ tbl) l :: k) (st.effR dst d wr al) Q) := rfl
theorem opS_val {d : D} {side : Prop} {dst : Option Tmp} {sls : List Nat} : opS P T sz bs n (.val d side) dst sls draw all tbl l k st Q = (side ∧ dstB sz dst = true ∧
      W P T sz bs n (.ops draw all (tblS draw ⟨dst, sls, [], [], []⟩ tbl) l :: k) (st.effR dst d [] []) Q) := by
  show (side ∧ freshB st.nx st.ex [] [] = true ∧ _ ∧ _) = _
  have : freshB st.nx st.ex [] [] = true := rfl
  rw [this]; simp [roOf]
theorem condS_true {x y : Code} : condS P T sz bs n (.v (.bool true)) x y k st Q = W P T sz bs n (.code x :: k) st Q := rfl
theorem condS_false {x y : Code} : condS P T sz bs n (.v (.bool false)) x y k st Q = W P T sz bs n (.code y :: k) st Q := rfl
theorem exitS_some {k' : List It} : exitS P T sz bs n (some k') st Q = W P T sz bs n k' st Q := rfl
theorem get_mk {tm env : Env} {ob : Obs} {nx s : Nat} {ex : List Nat} : St.get ⟨tm, env, ob, nx, ex⟩ s = lkT tm env s := rfl
theorem ev_tmp {get : Nat → D} {t : Nat} : evG get (.tmp t) = get t := rfl
theorem ev_const {get : Nat → D} {v : Value} : evG get (.const v) = constD v := rfl
theorem ev_func {get : Nat → D} {f : FuncId} : evG get (.func f) = bif Nat.blt f 999999 then .v (.fn f []) else .dead := rfl
theorem constD_int {i : IntKind} {m : Int} : constD (.int i m) = .v (.int i m) := rfl
theorem constD_bool {b : Bool} : constD (.bool b) = .v (.bool b) := rfl
theorem constD_str {s : ByteArray} : constD (.string s) = .v (.str s) := rfl
theorem constD_nil : constD (.slice none 0 0) = .v .nl := rfl
theorem constD_np : constD (.pointer none) = .v (.fn 999999 [.bool true]) := rfl
theorem effR_some {tm env : Env} {ob : Obs} {nx t : Nat} {ex al : List Nat} {d : D} {wr : List (Nat × Option AObj)} : St.effR ⟨tm, env, ob, nx, ex⟩ (some t) d wr al = ⟨(t, d) :: tm, env, applyW ob wr, nx, al ++ ex⟩ := rfl
theorem effR_none {tm env : Env} {ob : Obs} {nx : Nat} {ex al : List Nat} {d : D} {wr : List (Nat × Option AObj)} : St.effR ⟨tm, env, ob, nx, ex⟩ none d wr al = ⟨tm, env, applyW ob wr, nx, al ++ ex⟩ := rfl
theorem fl_mk {tm env : Env} {ob : Obs} {nx : Nat} {ex : List Nat} : St.fl ⟨tm, env, ob, nx, ex⟩ = ⟨[], flush tm env, ob, bump ex nx, []⟩ := rfl
theorem dstB_some {t : Nat} : (dstB sz (some t) = true) = (t < sz) := by simp [dstB, Nat.blt_eq]
theorem dstB_none : (dstB sz none = true) = True := by simp [dstB]
theorem blt_dec {a b : Nat} : Nat.blt a b = decide (a < b) := by
  cases h : Nat.blt a b with
  | true => rw [Nat.blt_eq] at h; simp [h]
  | false => have : ¬ a < b := fun e => by rw [blt_t e] at h; cases h
             simp [this]
theorem ble_dec {a b : Nat} : Nat.ble a b = decide (a ≤ b) := by
  cases h : Nat.ble a b with
  | true => have := Nat.le_of_ble_eq_true h; simp [this]
  | false => have : ¬ a ≤ b := fun e => by rw [Nat.ble_eq_true_of_le e] at h; cases h
             simp [this]
theorem dstN_some {t : Nat} : dstN (some t) = t := rfl
theorem dstN_none : dstN none = 0 := rfl
theorem lkT_nil {env : Env} {s : Nat} : lkT [] env s = lk env s := rfl
theorem lkT_cons {tm env : Env} {a s : Nat} {d : D} : lkT ((a, d) :: tm) env s = bif a == s then d else lkT tm env s := rfl
theorem lk_cons {env : Env} {a s : Nat} {d : D} : lk ((a, d) :: env) s = bif a == s then d else lk env s := rfl
theorem setv_cons {e : Env} {a s : Nat} {x d : D} : setv ((a, x) :: e) s d = bif a == s then (a, d) :: e else (a, x) :: setv e s d := rfl
theorem setv_nil {s : Nat} {d : D} : setv [] s d = [] := rfl
theorem flush_cons {tm env : Env} {a : Nat} {d : D} : flush ((a, d) :: tm) env = setv (flush tm env) a d := rfl
theorem flush_nil {env : Env} : flush [] env = env := rfl
end
end Go.V
