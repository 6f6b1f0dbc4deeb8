/-
  THE ENGINE, PART 16: the evaluator, and that what it leaves is enough.
-/
import Derived.Test.YteidcinajdehkaaQFV15
set_option linter.unusedSimpArgs false
set_option linter.unusedVariables false
namespace Go.V
def exK (id : Nat) : List It → Option (List It)
  | [] => none
  | .blk j :: k => bif j == id then some k else exK id k
  | .code _ :: k => exK id k
  | .ops .. :: k => exK id k
  | .lp .. :: k => exK id k
  | .cut _ :: k => exK id k
  | .scp .. :: k => exK id k
def isCall (op : Op) : Bool :=
  match op with
  | .call ⟨.builtin _, _, _⟩ => false
  | .call _ => true
  | _ => false
def dstN (dst : Option Tmp) : Nat := match dst with | some t => t | none => 0
def freshB (nx : Nat) (ex al : List Nat) (wr : List (Nat × Option AObj)) : Bool := (al.all fun i => Nat.ble nx i && !ex.contains i && Nat.blt i 1000000000) && wr.all fun x => Nat.blt x.1 1000000000
def tblS (draw : Bool) (r : TR) (tbl : List TR) : List TR := bif draw then r :: tbl else tbl
def St.effR (st : St) (dst : Option Tmp) (d : D) (wr : List (Nat × Option AObj)) (al : List Nat) : St :=
  ⟨match dst with | some t => (t, d) :: st.tm | none => st.tm, st.env, applyW st.ob wr, st.nx, al ++ st.ex⟩
def W (P : Program) (T : Tab) (sz bs : Nat) : Nat → List It → St → (St → Prop) → Prop
  | 0, k, st, Q => Wp P sz bs k st Q
  | n + 1, k, st, Q =>
    match k with
    | [] => Q st
    | .code c :: k =>
      match c with
      | .skip => W P T sz bs n k st Q
      | .label _ => W P T sz bs n k st Q
      | .seq a b => W P T sz bs n (.code a :: .code b :: k) st Q
      | .region _ ops draw => W P T sz bs n (.ops draw ops [] ops.toList :: k) st Q
      | .block id c => W P T sz bs n (.code c :: .blk id :: k) st Q
      | .exit id => match exK id k with | some k' => W P T sz bs n k' st Q | none => False
      | .ret => Q st
      | .cond c x y => match evG st.get c with
        | .v (.bool t) => (match t with | true => W P T sz bs n (.code x :: k) st Q | false => W P T sz bs n (.code y :: k) st Q)
        | _ => False
      | c => Wp P sz bs (.code c :: k) st Q
    | .blk _ :: k => W P T sz bs n k st Q
    | .lp I μ m :: k => Wp P sz bs (.lp I μ m :: k) st Q
    | .cut J :: k => Wp P sz bs (.cut J :: k) st Q
    | .scp _ _ :: k => W P T sz bs n k st Q
    | .ops draw all tbl l :: k =>
      match l with
      | [] => confB draw all tbl ∧ W P T sz bs n k st.fl Q
      | o :: l =>
        match gsel all st.get o.guard with
        | .bad => False
        | .skip sl => dstB sz o.dst = true ∧ W P T sz bs n (.ops draw all (tblS draw ⟨o.dst, sl, [], [], []⟩ tbl) l :: k) (st.effR o.dst (.v (.tup [])) [] []) Q
        | .run sl =>
          match isCall o.op with
          | true => Wp P sz bs (.ops draw all tbl (o :: l) :: k) st Q
          | false =>
            match opR T st.get (obL st.ob) o.op (st.nx + dstN o.dst) with
            | .bad => False
            | .ok d wr al rd side => side ∧ freshB st.nx st.ex al wr = true ∧ dstB sz o.dst = true ∧
                W P T sz bs n (.ops draw all (tblS draw ⟨o.dst, sl ++ opSlots o.op, (roOf (obL st.ob) rd).map (·.1), wr.map (·.1), al⟩ tbl) l :: k) (st.effR o.dst d wr al) Q
section
variable {P : Program} {T : Tab} {sz bs : Nat}
theorem exK_run {id : Nat} {st : St} {Q : St → Prop} : ∀ {k k' : List It}, exK id k = some k' → Wp P sz bs k' st Q → Run P sz bs k (.exit id) st Q
  | [], _, h, _ => by simp [exK] at h
  | .blk j :: k, k', h, hw => by
    simp only [exK] at h
    simp only [Run]
    cases hj : j == id with
    | true =>
      simp only [hj, cond_true, Option.some.injEq] at h; subst h
      rw [if_pos (beq_iff_eq.1 hj).symm]; exact hw
    | false =>
      simp only [hj, cond_false] at h
      rw [if_neg (fun e => by subst e; simp at hj)]; exact exK_run h hw
  | .code _ :: k, k', h, hw => by simp only [exK] at h; simp only [Run]; exact exK_run h hw
  | .ops .. :: k, k', h, hw => by simp only [exK] at h; simp only [Run]; exact exK_run h hw
  | .lp .. :: k, k', h, hw => by simp only [exK] at h; simp only [Run]; exact exK_run h hw
  | .cut _ :: k, k', h, hw => by simp only [exK] at h; simp only [Run]; exact exK_run h hw
  | .scp .. :: k, k', h, hw => by simp only [exK] at h; simp only [Run]; exact exK_run h hw
theorem Wl_tbl {ops : Array Oper} {K K' : List TR → St → Prop} (hk : ∀ t t' st', K t st' → K' t' st') : ∀ (l : List Oper) (tbl tbl' : List TR) (st : St), Wl P sz ops l tbl st K → Wl P sz ops l tbl' st K'
  | [], _, _, _, h => hk _ _ _ h
  | _ :: l, _, _, _, ⟨r, h1, h2, h3, h4, h4w, h5⟩ => ⟨r, h1, h2, h3, h4, h4w, Wl_tbl hk l _ _ _ h5⟩
theorem freshB_ok {st : St} {al : List Nat} {wr : List (Nat × Option AObj)} (h : freshB st.nx st.ex al wr = true) : (∀ q ∈ al, st.nx ≤ q ∧ ¬ exS st q) ∧ ∀ x ∈ wr, x.1 < 1000000000 := by
  simp only [freshB, Bool.and_eq_true] at h
  refine ⟨fun q hq => ?_, fun x hx => by simpa [Nat.blt_eq] using List.all_eq_true.1 h.2 x hx⟩
  have := List.all_eq_true.1 h.1 q hq
  simp only [Bool.and_eq_true, Bool.not_eq_true', Nat.ble_eq, Nat.blt_eq] at this
  refine ⟨this.1.1, ?_⟩
  rintro (h1 | h1)
  · have := this.1.2; simp [h1] at this
  · omega
theorem Wl_tblS {ops : Array Oper} {draw : Bool} {r : TR} {tbl : List TR} {l : List Oper} {st : St} {k : List It} {Q : St → Prop}
    (h : Wp P sz bs (.ops draw ops (tblS draw r tbl) l :: k) st Q) : Wl P sz ops l (r :: tbl) st (fun tbl' st' => confB draw ops tbl' ∧ Run P sz bs k .normal st'.fl Q) := by
  cases draw with
  | true => exact h
  | false => exact Wl_tbl (fun _ _ _ hK => ⟨fun h => (Bool.noConfusion h), hK.2⟩) _ _ _ _ h
theorem W_sound (hT : TOk P T) (hm : P.follows .mixedOrders = true) : ∀ (n : Nat) (k : List It) (st : St) (Q : St → Prop), W P T sz bs n k st Q → Wp P sz bs k st Q
  | 0, _, _, _, h => h
  | n + 1, k, st, Q, h => by
    have ih := fun k st => W_sound hT hm n k st Q
    unfold W at h
    split at h
    · exact h
    · rename_i c k
      split at h
      · exact Wp_skip (ih _ _ h)
      · exact Wp_label (ih _ _ h)
      · exact Wp_seq (ih _ _ h)
      · exact Wp_region hm (ih _ _ h)
      · exact Wp_block (ih _ _ h)
      · split at h
        · rename_i k' hk; exact Wp_exit (exK_run hk (ih _ _ h))
        · exact h.elim
      · exact Wp_retQ h
      · split at h
        · rename_i t hc
          refine Wp_cond hc ?_
          cases t with
          | true => exact ih _ _ h
          | false => exact ih _ _ h
        · exact h.elim
      · exact h
    · rename_i id k; exact Wp_blk (ih k st h)
    · exact h
    · exact h
    · rename_i l J k; exact Wp_scp0 (ih k st h)
    · rename_i draw all tbl l k
      split at h
      · exact ⟨h.1, ih _ _ h.2⟩
      · rename_i o l
        split at h
        · exact h.elim
        · rename_i sl hg
          obtain ⟨h1, h2⟩ := h
          exact ⟨_, rowOk_skip hg h1, fun x hx => by obtain ⟨s, _, rfl⟩ := List.mem_map.1 hx; rfl, by simp, by simp, by simp, by
            have := Wl_tblS (ih _ _ h2)
            have e : (Row.tr ⟨o.dst, .v (.tup []), sl.map (fun s => (s, st.get s)), [], [], []⟩) = ⟨o.dst, sl, [], [], []⟩ := by simp [Row.tr, Row.slots, Row.reads, Row.writes, Function.comp_def]
            rw [e]; exact this⟩
        · rename_i sl hg
          split at h
          · exact h
          · split at h
            · exact h.elim
            · rename_i d wr al rd side hr
              obtain ⟨h1, h2, h3, h4⟩ := h
              exact ⟨_, rowOk_run hT hg hr h1 h3, fun x hx => by obtain ⟨s, _, rfl⟩ := List.mem_map.1 hx; rfl, fun x hx => (roOf_mem hx).1, (freshB_ok h2).1, (freshB_ok h2).2, by
                have := Wl_tblS (ih _ _ h4)
                have e : (Row.tr ⟨o.dst, d, (sl ++ opSlots o.op).map (fun s => (s, st.get s)), roOf (obL st.ob) rd, wr, al⟩) = ⟨o.dst, sl ++ opSlots o.op, (roOf (obL st.ob) rd).map (·.1), wr.map (·.1), al⟩ := by simp [Row.tr, Row.slots, Row.reads, Row.writes, Function.comp_def]
                rw [e]; exact this⟩
end
end Go.V
