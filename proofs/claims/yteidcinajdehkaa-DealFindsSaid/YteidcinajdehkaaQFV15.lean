/-
  THE ENGINE, PART 15: what is still to do, as a list of items; the rules; an evaluator.
-/
import Derived.Test.YteidcinajdehkaaQFV14
set_option linter.unusedSimpArgs false
set_option linter.unusedVariables false
namespace Go.V
inductive G where
  | run (sl : List Nat)
  | skip (sl : List Nat)
  | bad
def dstAt : List Oper → Nat → Option Nat
  | [], _ => none
  | o :: _, 0 => o.dst
  | _ :: l, n + 1 => dstAt l n
theorem dstAt_get : ∀ (l : List Oper) (j : Nat), dstAt l j = (l[j]?).bind (·.dst)
  | [], _ => by simp [dstAt]
  | _ :: _, 0 => by simp [dstAt]
  | _ :: l, n + 1 => by simp [dstAt, dstAt_get l n]
def slotDst (ops : Array Oper) (j : Nat) : Option Nat := dstAt ops.toList j
def guardS (want : Bool) (t : Nat) (d : D) : G :=
  match d with
  | .v (.bool b) => bif b == want then .run [t] else .skip [t]
  | .v (.tup []) => .skip [t]
  | _ => .bad
def gsel (ops : Array Oper) (get : Nat → D) (g : Option (Nat × Bool)) : G :=
  match g with
  | none => .run []
  | some (j, want) =>
    match slotDst ops j with
    | some t => guardS want t (get t)
    | none => .bad
def roOf (ob : Ob) : List Nat → List (Nat × AObj)
  | [] => []
  | i :: l => match ob i with | some o => (i, o) :: roOf ob l | none => roOf ob l
theorem roOf_mem {ob : Ob} : ∀ {l : List Nat} {x : Nat × AObj}, x ∈ roOf ob l → ob x.1 = some x.2 ∧ x.1 ∈ l
  | [], _, h => by simp [roOf] at h
  | i :: l, x, h => by
    simp only [roOf] at h
    split at h
    · rename_i o ho
      rcases List.mem_cons.1 h with rfl | h
      · exact ⟨ho, by simp⟩
      · exact ⟨(roOf_mem h).1, by simp [(roOf_mem h).2]⟩
    · exact ⟨(roOf_mem h).1, by simp [(roOf_mem h).2]⟩
theorem mem_roOf {ob : Ob} : ∀ {l : List Nat} {i : Nat} {o : AObj}, i ∈ l → ob i = some o → (i, o) ∈ roOf ob l
  | j :: l, i, o, h, ho => by
    simp only [roOf]
    rcases List.mem_cons.1 h with rfl | h
    · rw [ho]; simp
    · have := mem_roOf h ho
      split
      · simp [this]
      · exact this
theorem wanted_of {ops : Array Oper} {o : Oper} {tmps : Array Value} {w : World} {own : Nat → Prop} {ρ : Rho} {get : Nat → D} {g : Option (Nat × Bool)} (hg : o.guard = g) :
    (∀ sl, gsel ops get g = .run sl → (∀ s ∈ sl, RD w own ρ (tmps.getD s undef) (get s)) → Region.wanted o (yielded ops tmps) = true) ∧
    (∀ sl, gsel ops get g = .skip sl → (∀ s ∈ sl, RD w own ρ (tmps.getD s undef) (get s)) → Region.wanted o (yielded ops tmps) = false) := by
  subst hg
  cases hg : o.guard with
  | none => exact ⟨fun _ _ _ => by simp [Region.wanted, hg], fun _ h => by simp [gsel] at h⟩
  | some p =>
    obtain ⟨j, want⟩ := p
    have key : ∀ t b, slotDst ops j = some t → RD w own ρ (tmps.getD t undef) (.v (.bool b)) → yielded ops tmps j = some b := by
      intro t b ht hr
      unfold slotDst at ht
      rw [dstAt_get] at ht
      have ht : (ops[j]?).bind (·.dst) = some t := by simpa using ht
      unfold yielded
      rw [ht]
      simp only [Option.bind_some]
      have hv : tmps.getD t undef = .bool b := by
        generalize hv : tmps.getD t undef = v at hr
        cases hr with | v _ _ h => cases h; rfl
      simp only [Array.getD_eq_getD_getElem?] at hv
      cases hq : tmps[t]? with
      | none => rw [hq] at hv; simp [undef] at hv
      | some v => rw [hq] at hv; simp at hv; rw [hv]
    have keyN : ∀ t, slotDst ops j = some t → RD w own ρ (tmps.getD t undef) (.v (.tup [])) → yielded ops tmps j = none := by
      intro t ht hr
      unfold slotDst at ht
      rw [dstAt_get] at ht
      have ht : (ops[j]?).bind (·.dst) = some t := by simpa using ht
      unfold yielded
      rw [ht]
      simp only [Option.bind_some]
      have hv : tmps.getD t undef = .tuple #[] := by
        generalize hv : tmps.getD t undef = v at hr
        cases hr with | v _ _ h => cases h with | tup vs _ hh => cases hh; rfl
      simp only [Array.getD_eq_getD_getElem?] at hv
      cases hq : tmps[t]? with
      | none => rfl
      | some v => rw [hq] at hv; simp at hv; rw [hv]
    constructor
    · intro sl h hsl
      simp only [gsel] at h
      split at h
      · rename_i t ht
        unfold guardS at h
        split at h
        · rename_i b hb
          cases hw : b == want with
          | false => simp [hw] at h
          | true =>
            simp only [hw, cond_true, G.run.injEq] at h
            subst h
            have := hsl t (by simp)
            rw [hb] at this
            have := key t b ht this
            have hbw := beq_iff_eq.1 hw
            simp [Region.wanted, hg, this, hbw]
        · cases h
        · cases h
      · cases h
    · intro sl h hsl
      simp only [gsel] at h
      split at h
      · rename_i t ht
        unfold guardS at h
        split at h
        · rename_i b hb
          cases hw : b == want with
          | true => simp [hw] at h
          | false =>
            simp only [hw, cond_false, G.skip.injEq] at h
            subst h
            have := hsl t (by simp)
            rw [hb] at this
            have := key t b ht this
            have hbw : b ≠ want := by simpa using hw
            simp [Region.wanted, hg, this, hbw]
        · rename_i hb
          simp only [G.skip.injEq] at h
          subst h
          have := hsl t (by simp)
          rw [hb] at this
          have := keyN t ht this
          simp [Region.wanted, hg, this]
        · cases h
      · cases h
def dstB (sz : Nat) (dst : Option Tmp) : Bool :=
  match dst with
  | some t => Nat.blt t sz
  | none => true
theorem dstB_ok {sz : Nat} {dst : Option Tmp} (h : dstB sz dst = true) : ∀ t, dst = some t → t < sz := by
  intro t ht; subst ht; simpa [dstB, Nat.blt_eq] using h
section rows
variable {P : Program} {T : Tab} {sz : Nat} {ops : Array Oper}
theorem rowOk_run (hT : TOk P T) {get : Nat → D} {ob : Ob} {o : Oper} {sl : List Nat} {id : Nat} {d : D} {wr : List (Nat × Option AObj)} {al rd : List Nat} {side : Prop}
    (hg : gsel ops get o.guard = .run sl) (h : opR T get ob o.op id = .ok d wr al rd side) (hs : side) (hd : dstB sz o.dst = true) :
    RowOk P sz ops o ⟨o.dst, d, (sl ++ opSlots o.op).map (fun s => (s, get s)), roOf ob rd, wr, al⟩ := by
  refine ⟨dstB_ok hd, rfl, fun a w ρ ob2 h1 h2 h3 h4 h5 h6 K Q hK => ?_⟩
  have hsl : ∀ s ∈ sl ++ opSlots o.op, RD w (Own ρ ob2) ρ (a.tmps.getD s undef) (get s) := fun s hm => h4 (s, get s) (List.mem_map.2 ⟨s, hm, rfl⟩)
  rw [if_pos ((wanted_of rfl).1 sl hg (fun s hm => hsl s (by simp [hm])))]
  refine .inl ?_
  have hR : opR T get ob2 o.op id = .ok d wr al rd side := opR_congr h (fun i hi y hy => h5 (i, y) (mem_roOf hi hy))
  have hO := opR_sound hT h3 o id (get := get) (fun s hm => hsl s (by simp [hm])) d wr al rd side hR hs h6
  obtain ⟨v, w', ρ', hr, b1, b2, b3, b4⟩ := hO
  unfold Oper.wp
  rcases hr with hr | ⟨hr, hv⟩
  · rw [hr]; exact hK v w' ρ' b1 b2 b3 b4
  · rw [hr]; subst hv; exact hK undef w' ρ' b1 b2 b3 b4
theorem rowOk_skip {get : Nat → D} {o : Oper} {sl : List Nat} (hg : gsel ops get o.guard = .skip sl) (hd : dstB sz o.dst = true) :
    RowOk P sz ops o ⟨o.dst, .v (.tup []), sl.map (fun s => (s, get s)), [], [], []⟩ := by
  refine ⟨dstB_ok hd, rfl, fun a w ρ ob2 h1 h2 h3 h4 h5 h6 K Q hK => ?_⟩
  have hsl : ∀ s ∈ sl, RD w (Own ρ ob2) ρ (a.tmps.getD s undef) (get s) := fun s hm => h4 (s, get s) (List.mem_map.2 ⟨s, hm, rfl⟩)
  rw [if_neg (by rw [(wanted_of rfl).2 sl hg hsl]; simp)]
  exact hK undef w ρ (.v _ _ (.tup [] [] .nil)) h3 (Evo.refl _ _ _) (fun _ _ => rfl)
end rows
inductive It where
  | code (c : Code)
  | blk (id : Nat)
  | ops (draw : Bool) (all : Array Oper) (tbl : List TR) (l : List Oper)
  | lp (I : St → Prop) (μ : St → Nat) (m : Nat)
  | cut (J : St → Prop)
  | scp (l : Nat) (J : St → Prop)
def Wk (sz bs : Nat) (st st' : St) : Prop := ∀ fr, FrOk bs fr → ∀ a w ρ, SatS fr sz a w ρ st → ∃ ρ', SatS fr sz a w ρ' st' ∧ EvoB bs w ρ (ovl (obL st.ob) fr) w ρ' (ovl (obL st'.ob) fr)
def confB (draw : Bool) (all : Array Oper) (tbl : List TR) : Prop := draw = true → backB all = true ∧ okTbl all tbl.reverse = true
def Run (P : Program) (sz bs : Nat) : List It → Exit → St → (St → Prop) → Prop
  | [], e, st, Q => match e with | .normal | .ret => Q st | _ => False
  | .code c :: k, e, st, Q => match e with
    | .normal => WC P sz bs c st (fun e' st' => Run P sz bs k e' st' Q)
    | .ret => Q st
    | e => Run P sz bs k e st Q
  | .blk id :: k, e, st, Q => match e with
    | .normal => Run P sz bs k .normal st Q
    | .exit j => if j = id then Run P sz bs k .normal st Q else Run P sz bs k (.exit j) st Q
    | .ret => Q st
    | e => Run P sz bs k e st Q
  | .ops draw all tbl l :: k, e, st, Q => match e with
    | .normal => Wl P sz all l tbl st (fun tbl' st' => confB draw all tbl' ∧ Run P sz bs k .normal st'.fl Q)
    | .ret => Q st
    | e => Run P sz bs k e st Q
  | .lp I μ m :: k, e, st, Q => match e with
    | .normal => ∃ st', Wk sz bs st st' ∧ I st' ∧ μ st' < m
    | .ret => Q st
    | e => Run P sz bs k e st Q
  | .cut J :: k, e, st, Q => match e with
    | .normal => ∃ st', Wk sz bs st st' ∧ J st'
    | .ret => Q st
    | e => Run P sz bs k e st Q
  | .scp l J :: k, e, st, Q => match e with
    | .normal => Run P sz bs k .normal st Q
    | .goto j => j = l ∧ ∃ st', Wk sz bs st st' ∧ J st'
    | .ret => Q st
    | e => Run P sz bs k e st Q
def Wp (P : Program) (sz bs : Nat) (k : List It) (st : St) (Q : St → Prop) : Prop := Run P sz bs k .normal st Q
section rules
variable {P : Program} {sz bs : Nat} {k : List It} {st : St} {Q : St → Prop}
theorem Run_ret : ∀ (k : List It), Run P sz bs k .ret st Q = Q st
  | [] => rfl
  | .code _ :: _ => rfl
  | .blk _ :: _ => rfl
  | .ops .. :: _ => rfl
  | .lp .. :: _ => rfl
  | .cut _ :: _ => rfl
  | .scp .. :: _ => rfl
theorem WC_mono {c : Code} {R R' : Exit → St → Prop} (h : WC P sz bs c st R) (hr : ∀ e st, R e st → R' e st) : WC P sz bs c st R' :=
  fun fr hfr a w ρ hs => wp_mono (h fr hfr a w ρ hs) fun _ _ _ ⟨st', ρ', q, s, e⟩ => ⟨st', ρ', hr _ _ q, s, e⟩
theorem WC_seq {a b : Code} {R : Exit → St → Prop} (h : WC P sz bs a st (fun e st1 => match e with | .normal => WC P sz bs b st1 R | e => R e st1)) : WC P sz bs (.seq a b) st R := by
  intro fr hfr x w ρ hs
  refine wp_seq (wp_mono (h fr hfr x w ρ hs) fun e a' w' hq => ?_)
  obtain ⟨st1, ρ1, q, s, ev⟩ := hq
  cases e with
  | normal => exact wp_mono (q fr hfr a' w' ρ1 s) fun e2 a2 w2 ⟨st2, ρ2, q2, s2, ev2⟩ => ⟨st2, ρ2, q2, s2, ev.trans ev2⟩
  | _ => exact ⟨st1, ρ1, q, s, ev⟩
theorem Wp_seq {a b : Code} (h : Wp P sz bs (.code a :: .code b :: k) st Q) : Wp P sz bs (.code (.seq a b) :: k) st Q := by
  refine WC_seq (WC_mono h fun e st1 q => ?_)
  cases e <;> first | exact q | (simp only [Run_ret] at q ⊢; exact q)
theorem Wp_skip (h : Wp P sz bs k st Q) : Wp P sz bs (.code .skip :: k) st Q :=
  fun _ _ _ w ρ hs => wp_skip ⟨st, ρ, h, hs, EvoB.refl bs w ρ _⟩
theorem Wp_label {l : Nat} (h : Wp P sz bs k st Q) : Wp P sz bs (.code (.label l) :: k) st Q :=
  fun _ _ _ w ρ hs => wp_label ⟨st, ρ, h, hs, EvoB.refl bs w ρ _⟩
theorem Wp_retQ (h : Q st) : Wp P sz bs (.code .ret :: k) st Q :=
  fun _ _ _ w ρ hs => wp_ret ⟨st, ρ, by show Run P sz bs k .ret st Q; rw [Run_ret]; exact h, hs, EvoB.refl bs w ρ _⟩
theorem Wp_exit {id : Nat} (h : Run P sz bs k (.exit id) st Q) : Wp P sz bs (.code (.exit id) :: k) st Q :=
  fun _ _ _ w ρ hs => wp_exit ⟨st, ρ, h, hs, EvoB.refl bs w ρ _⟩
theorem Wp_block {id : Nat} {c : Code} (h : Wp P sz bs (.code c :: .blk id :: k) st Q) : Wp P sz bs (.code (.block id c) :: k) st Q := by
  intro fr hfr a w ρ hs
  refine wp_block (wp_mono (h fr hfr a w ρ hs) fun e a' w' hq => ?_)
  obtain ⟨st1, ρ1, q, s, ev⟩ := hq
  cases e with
  | exit j =>
    simp only [Exit.inBlock]
    simp only [Run] at q
    split
    · rename_i hj; rw [if_pos hj] at q; exact ⟨st1, ρ1, q, s, ev⟩
    · rename_i hj; rw [if_neg hj] at q; exact ⟨st1, ρ1, q, s, ev⟩
  | ret => exact ⟨st1, ρ1, by rw [Run_ret] at q ⊢; exact q, s, ev⟩
  | _ => exact ⟨st1, ρ1, q, s, ev⟩
theorem Wp_blk {id : Nat} (h : Wp P sz bs k st Q) : Wp P sz bs (.blk id :: k) st Q := h
theorem Wp_scp0 {l : Nat} {J : St → Prop} (h : Wp P sz bs k st Q) : Wp P sz bs (.scp l J :: k) st Q := h
theorem Wp_region (hm : P.follows .mixedOrders = true) {id : Nat} {ops : Array Oper} {draw : Bool} (h : Wp P sz bs (.ops draw ops [] ops.toList :: k) st Q) : Wp P sz bs (.code (.region id ops draw) :: k) st Q :=
  WC_region hm h
theorem Wp_cond {c : Operand} {x y : Code} {t : Bool} (hc : evG st.get c = .v (.bool t)) (h : Wp P sz bs (.code (if t then x else y) :: k) st Q) : Wp P sz bs (.code (.cond c x y) :: k) st Q := by
  intro fr hfr a w ρ hs
  have hv : a.eval c = .bool t := by
    have := ev_RD (w := w) (own := Own ρ (ovl (obL st.ob) fr)) (ρ := ρ) (a := a) (get := st.get) hs.rep.glob c (fun s _ => hs.env s)
    rw [hc] at this
    generalize a.eval c = v at this
    cases this with | v _ _ h => cases h; rfl
  exact wp_cond hv (h fr hfr a w ρ hs)
theorem Wp_weaken {st' : St} (hw : Wk sz bs st st') {c : Code} (h : Wp P sz bs (.code c :: k) st' Q) : Wp P sz bs (.code c :: k) st Q := by
  intro fr hfr a w ρ hs
  obtain ⟨ρ', hs', he⟩ := hw fr hfr a w ρ hs
  exact wp_mono (h fr hfr a w ρ' hs') fun _ _ _ ⟨st2, ρ2, q, s, e2⟩ => ⟨st2, ρ2, q, s, he.trans e2⟩
theorem Run_cut_exit {J : St → Prop} {e : Exit} (he : e ≠ .normal) : Run P sz bs (.cut J :: k) e st Q = Run P sz bs k e st Q := by
  cases e <;> first | rfl | exact absurd rfl he | (rw [Run_ret, Run_ret])
theorem Wp_cut {c : Code} (J : St → Prop) (h : Wp P sz bs (.code c :: .cut J :: k) st Q) (hJ : ∀ st', J st' → Wp P sz bs k st' Q) : Wp P sz bs (.code c :: k) st Q := by
  intro fr hfr a w ρ hs
  refine wp_mono (h fr hfr a w ρ hs) fun e a2 w2 ⟨st2, ρ2, q, s, e2⟩ => ?_
  cases e with
  | normal =>
    obtain ⟨st3, hw3, hJ3⟩ := q
    obtain ⟨ρ3, hs3, he3⟩ := hw3 fr hfr a2 w2 ρ2 s
    exact ⟨st3, ρ3, hJ st3 hJ3, hs3, e2.trans he3⟩
  | _ => exact ⟨st2, ρ2, by have q' := q; rw [Run_cut_exit (by simp)] at q'; exact q', s, e2⟩
end rules
end Go.V
