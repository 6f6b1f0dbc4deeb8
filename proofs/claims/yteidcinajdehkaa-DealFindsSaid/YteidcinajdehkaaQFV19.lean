/-
  THE ENGINE, PART 19: a call, as one row.
-/
import Derived.Test.YteidcinajdehkaaQFV18
set_option linter.unusedSimpArgs false
set_option linter.unusedVariables false
namespace Go.V
theorem blt_t {a b : Nat} (h : a < b) : Nat.blt a b = true := by rw [Nat.blt_eq]; exact h
theorem blt_f {a b : Nat} (h : ¬ a < b) : Nat.blt a b = false := by
  cases hb : Nat.blt a b with
  | false => rfl
  | true => rw [Nat.blt_eq] at hb; exact absurd hb h
theorem outN_lt {sg : List Nat} {bs N i : Nat} (h : i < bs) : outN sg bs N i = nth sg i := by simp [outN, blt_t h]
theorem outN_new {sg : List Nat} {bs N i : Nat} (h : bs ≤ i) (h2 : i < 1000000000) : outN sg bs N i = N + 1000 * (i - bs) := by
  unfold outN; rw [blt_f (by omega), blt_t h2]; rfl
theorem outN_fr {sg : List Nat} {bs N j : Nat} (h : bs ≤ 1000000000) : outN sg bs N (1000000000 + j) = j := by
  unfold outN; rw [blt_f (by omega), blt_f (by omega)]; simp
mutual
theorem ids_ren {p : Nat → Bool} {live : Nat → Bool} {ψ : Nat → Nat} (h : ∀ j, p (ψ j) = true) : ∀ (d : D), idsD p (ren live ψ d) = true
  | .dead => rfl
  | .v _ => rfl
  | .sl f id off len sz => by simp only [ren]; cases live id <;> simp [idsD, h]
  | .slr id off len room sz => by simp only [ren]; cases live id <;> simp [idsD, h]
  | .ptr id off => by simp only [ren]; cases live id <;> simp [idsD, h]
  | .agg cs => by simp only [ren, idsD, ids_renL h cs]
  | .tup cs => by simp only [ren, idsD, ids_renL h cs]
  | .fn _ cs => by simp only [ren, idsD, ids_renL h cs]
theorem ids_renL {p : Nat → Bool} {live : Nat → Bool} {ψ : Nat → Nat} (h : ∀ j, p (ψ j) = true) : ∀ (l : List D), idsL p (renL live ψ l) = true
  | [] => rfl
  | d :: l => by simp only [renL, idsL, ids_ren h d, ids_renL h l, Bool.and_self]
end
theorem calD_run {P : Program} {f : FuncId} {ds : List D} {get : Nat → D} {o : Oper} (hcal : calD P get o.op = some (f, ds)) (hcb : callB P f = true) {w : World} {own : Nat → Prop} {ρ : Rho} {a : Act}
    (hglob : ∀ x ∈ Gv, RC w own x.1 0 x.2) (hsl : ∀ s ∈ opSlots o.op, RD w own ρ (a.tmps.getD s undef) (get s)) :
    ∃ vs : List Value, (execOp a.eval o).run P w = .ok (.enter f vs.toArray) w ∧ RDs w own ρ vs ds := by
  unfold calD at hcal
  split at hcal
  · rename_i fop args ats ho
    split at hcal
    · rename_i f0 caps hfop
      simp only [Option.some.injEq, Prod.mk.injEq] at hcal
      obtain ⟨rfl, rfl⟩ := hcal
      obtain ⟨us, vs, hfv, hvs⟩ : ∃ us vs : List Value, a.eval fop = .func (.func f0) us.toArray vs.toArray ∧ ∀ (as : List Value) (ds : List D), RDs w own ρ as ds → RDs w own ρ (us ++ (as ++ vs)) (ordA (evG get fop) ds caps) := by
        have hf := ev_RD (w := w) (own := own) (ρ := ρ) (a := a) (get := get) hglob fop (fun s hs => hsl s (by rw [ho]; simp [opSlots, hs]))
        generalize a.eval fop = v at hf
        generalize evG get fop = dv at hf hfop
        have nb : ∀ {f' : Nat}, f' < 999999 → Nat.beq f' 999999 = false := fun {f'} h => by
          cases hb : Nat.beq f' 999999 with
          | false => rfl
          | true => exact absurd (Nat.eq_of_beq_eq_true hb) (Nat.ne_of_lt h)
        cases hf with
        | v _ _ hf =>
          cases hf with
          | fn f' hf' vs cs h =>
            have hlt : Nat.blt f' 999999 = true := by simpa [Nat.blt_eq] using hf'
            simp only [capsOf, hlt, cond_true, Option.some.injEq, Prod.mk.injEq] at hfop
            obtain ⟨rfl, rfl⟩ := hfop
            refine ⟨[], vs, rfl, fun as ds had => ?_⟩
            simp only [ordA, bndF, nb hf', cond_false, List.nil_append]
            exact RDs.app had h.to_v
          | nif =>
            have h1 : Nat.blt 999999 999999 = false := by decide
            have h2 : Nat.beq 999999 999999 = true := by decide
            simp [capsOf, h1, h2, bcapP] at hfop
          | np =>
            have h1 : Nat.blt 999999 999999 = false := by decide
            have h2 : Nat.beq 999999 999999 = true := by decide
            simp [capsOf, h1, h2, bcapP] at hfop
          | nn =>
            have h1 : Nat.blt 999999 999999 = false := by decide
            have h2 : Nat.beq 999999 999999 = true := by decide
            simp [capsOf, h1, h2, bcapP] at hfop
          | ifc t =>
            have h1 : Nat.blt (t + 1000000) 999999 = false := by rw [Bool.eq_false_iff]; intro h; have := Nat.le_of_ble_eq_true h; omega
            have h2 : Nat.beq (t + 1000000) 999999 = false := by rw [Bool.eq_false_iff]; intro h; have := Nat.eq_of_beq_eq_true h; omega
            simp [capsOf, h1, h2] at hfop
          | bf f' hf' u p h =>
            have hlt : Nat.blt f' 999999 = true := by simpa [Nat.blt_eq] using hf'
            have h1 : Nat.blt 999999 999999 = false := by decide
            have h2 : Nat.beq 999999 999999 = true := by decide
            simp only [capsOf, h1, h2, bcapP, hlt, cond_true, cond_false, Option.some.injEq, Prod.mk.injEq] at hfop
            obtain ⟨rfl, rfl⟩ := hfop
            refine ⟨[u], [], rfl, fun as ds had => ?_⟩
            simp only [ordA, bndF, h2, cond_true, List.append_nil]
            exact .cons _ _ _ _ (.v _ _ h) had
          | _ => simp [capsOf] at hfop
        | fn f' hf' vs cs h =>
          have hlt : Nat.blt f' 999999 = true := by simpa [Nat.blt_eq] using hf'
          simp only [capsOf, hlt, cond_true, Option.some.injEq, Prod.mk.injEq] at hfop
          obtain ⟨rfl, rfl⟩ := hfop
          refine ⟨[], vs, rfl, fun as ds had => ?_⟩
          simp only [ordA, bndF, nb hf', cond_false, List.nil_append]
          exact RDs.app had h
        | ifc t =>
          have h1 : Nat.blt (t + 1000000) 999999 = false := by rw [Bool.eq_false_iff]; intro h; have := Nat.le_of_ble_eq_true h; omega
          have h2 : Nat.beq (t + 1000000) 999999 = false := by rw [Bool.eq_false_iff]; intro h; have := Nat.eq_of_beq_eq_true h; omega
          simp [capsOf, h1, h2] at hfop
        | bf f' hf' u d h =>
          have hlt : Nat.blt f' 999999 = true := by simpa [Nat.blt_eq] using hf'
          have h1 : Nat.blt 999999 999999 = false := by decide
          have h2 : Nat.beq 999999 999999 = true := by decide
          simp only [capsOf, h1, h2, bcapD, hlt, cond_true, cond_false, Option.some.injEq, Prod.mk.injEq] at hfop
          obtain ⟨rfl, rfl⟩ := hfop
          refine ⟨[u], [], rfl, fun as ds had => ?_⟩
          simp only [ordA, bndF, h2, cond_true, List.append_nil]
          exact .cons _ _ _ _ h had
        | _ => simp [capsOf] at hfop
      have hargsV : RDs w own ρ (us ++ (args.toList.map a.eval ++ vs)) (ordA (evG get fop) (args.toList.map (evG get)) caps) :=
        hvs _ _ (RDs.of_ev a.eval (evG get) args.toList (fun x hx => ev_RD hglob x fun s hs => hsl s (by
          rw [ho]; simp only [opSlots, List.mem_append, List.mem_flatMap]; exact .inr ⟨x, hx, hs⟩)))
      refine ⟨us ++ (args.toList.map a.eval ++ vs), ?_, hargsV⟩
      rw [run_call_fn hcb ho hfv w]
      simp
    · cases hcal
  · rename_i x name args ats ho
    split at hcal
    · rename_i t d hx
      split at hcal
      · rename_i f' hm
        simp only [Option.some.injEq, Prod.mk.injEq] at hcal
        obtain ⟨rfl, rfl⟩ := hcal
        have hv := ev_RD (w := w) (own := own) (ρ := ρ) (a := a) (get := get) hglob x (fun s hs => hsl s (by rw [ho]; simp [opSlots, hs]))
        rcases ifaceOf_some hv hx with ⟨h1, _⟩ | ⟨t', u, e, h1, h2, h3⟩
        · cases h1
        · simp only [Option.some.injEq, Prod.mk.injEq] at h1
          obtain ⟨rfl, rfl⟩ := h1
          refine ⟨u :: args.toList.map a.eval, ?_, .cons _ _ _ _ h3 (RDs.of_ev a.eval (evG get) args.toList (fun y hy => ev_RD hglob y fun s hs => hsl s (by
            rw [ho]; simp only [opSlots, List.mem_append, List.mem_flatMap]; exact .inr ⟨y, hy, hs⟩)))⟩
          rw [run_call_ifc hcb hm ho h2 w]
          simp
      · cases hcal
    · cases hcal
  · cases hcal
section
variable {P : Program} {sz : Nat} {ops : Array Oper}
theorem rowOk_callG {f : FuncId} {bs : Nat} {argc : List D} {obc obr : Obs} {r : D} (hF : Fn P f bs argc obc (fun d ob' => d = r ∧ ob' = obr)) (hcb : callB P f = true)
    {get : Nat → D} {ob : Ob} {o : Oper} {ds : List D} {sl sg : List Nat} {N : Nat}
    (hcal : calD P get o.op = some (f, ds)) (hg : gsel ops get o.guard = .run sl)
    (hargs : argc = renL allL (inN sg) ds) (hbs : sg.length = bs) (hbs2 : bs ≤ 1000000000) (hnd : ∀ i, i < bs → idx sg (nth sg i) = some i)
    (hobc : ∀ i, i < bs → ∃ x, ob (nth sg i) = some x ∧ obL obc i = some (renO allL (inN sg) x)) (hobc2 : ∀ i, bs ≤ i → obL obc i = none)
    (hobr : ∀ i ∈ keysOf obr, i < 1000000000) (hd : dstB sz o.dst = true) :
    RowOk P sz ops o ⟨o.dst, ren (liveB bs obr) (outN sg bs N) r, (sl ++ opSlots o.op).map (fun s => (s, get s)), roOf ob sg, wrIn sg bs N obr obr ++ wrOut sg, newIds bs N obr⟩ := by
  refine ⟨dstB_ok hd, rfl, fun a w ρ obx h1 h2 hrep h4 h5 hal K Q hK => ?_⟩
  have hsl : ∀ s ∈ sl ++ opSlots o.op, RD w (Own ρ obx) ρ (a.tmps.getD s undef) (get s) := fun s hm => h4 (s, get s) (List.mem_map.2 ⟨s, hm, rfl⟩)
  rw [if_pos ((wanted_of rfl).1 sl hg (fun s hm => hsl s (by simp [hm])))]
  refine .inl ?_
  -- the objects handed over
  have hsgm : ∀ i, i < bs → nth sg i ∈ sg := by
    intro i hi
    have : ∀ (l : List Nat) (i : Nat), i < l.length → nth l i ∈ l := by
      intro l
      induction l with
      | nil => intro i hi; simp at hi
      | cons a l ih => intro i hi; cases i with
        | zero => simp [nth]
        | succ i => simp only [nth, List.mem_cons]; exact .inr (ih i (by simpa using hi))
    exact this sg i (by omega)
  have hpass : ∀ i, i < bs → ∃ x, obx (nth sg i) = some x ∧ obL obc i = some (renO allL (inN sg) x) := by
    intro i hi
    obtain ⟨x, hx, hc⟩ := hobc i hi
    exact ⟨x, h5 (nth sg i, x) (mem_roOf (hsgm i hi) hx), hc⟩
  have hmem : ∀ j, j ∈ sg → ∃ i, i < bs ∧ idx sg j = some i ∧ nth sg i = j := by
    intro j hj
    have : ∀ (l : List Nat), j ∈ l → ∃ i, idx l j = some i := by
      intro l
      induction l with
      | nil => intro h; cases h
      | cons a l ih =>
        intro h
        simp only [idx]
        cases ha : a == j with
        | true => exact ⟨0, by simp⟩
        | false =>
          have : j ∈ l := (List.mem_cons.1 h).resolve_left (fun e => by simp [e] at ha)
          obtain ⟨i, hi⟩ := ih this
          exact ⟨i + 1, by simp [hi]⟩
    obtain ⟨i, hi⟩ := this sg hj
    obtain ⟨g1, g2⟩ := idx_nth hi
    exact ⟨i, by omega, hi, g1⟩
  have hnmem : ∀ j, idx sg j = none → j ∉ sg := by
    intro j h hj
    obtain ⟨i, _, hi, _⟩ := hmem j hj
    rw [h] at hi; cases hi
  let frc : Ob := fun i => if i < 1000000000 then none else if (idx sg (i - 1000000000)).isSome then none else (obx (i - 1000000000)).map (renO allL (inN sg))
  let ρc : Rho := fun i => if i < bs then ρ (nth sg i) else if i < 1000000000 then none else if (idx sg (i - 1000000000)).isSome then none else ρ (i - 1000000000)
  let obC : Ob := ovl (obL obc) frc
  let back : Nat → Nat := fun i => if i < bs then nth sg i else i - 1000000000
  have hfrc : FrOk bs frc := by
    refine ⟨fun i hi => by simp only [frc]; rw [if_pos hi], fun i x hx d hdm => ?_⟩
    simp only [frc] at hx
    split at hx
    · cases hx
    · split at hx
      · cases hx
      · cases hy : obx (i - 1000000000) with
        | none => simp [hy] at hx
        | some y =>
          simp only [hy, Option.map_some, Option.some.injEq] at hx
          subst hx
          rw [renO_cells] at hdm
          obtain ⟨d0, _, rfl⟩ := List.mem_map.1 hdm
          exact ids_ren (fun j => by
            unfold frId inN
            split
            · rename_i i hi; rw [blt_t (by have := (idx_nth hi).2; omega)]; rfl
            · rw [Nat.ble_eq_true_of_le (by omega : 1000000000 ≤ 1000000000 + j)]; simp) d0
  have hC : ∀ i x, obC i = some x → ∃ y, obx (back i) = some y ∧ x = renO allL (inN sg) y ∧ ρc i = ρ (back i) ∧ inN sg (back i) = i := by
    intro i x hx
    by_cases hi : i < bs
    · obtain ⟨y, hy1, hy2⟩ := hpass i hi
      have : obC i = some (renO allL (inN sg) y) := ovl_some hy2
      rw [this] at hx
      refine ⟨y, by simp only [back, if_pos hi]; exact hy1, (Option.some.inj hx).symm, by simp only [ρc, back, if_pos hi], ?_⟩
      simp only [back, if_pos hi, inN, hnd i hi]
    · have e1 : obL obc i = none := hobc2 i (by omega)
      have e2 : frc i = some x := by simpa [obC, ovl, e1] using hx
      simp only [frc] at e2
      by_cases h3 : i < 1000000000
      · rw [if_pos h3] at e2; cases e2
      · rw [if_neg h3] at e2
        cases h4 : idx sg (i - 1000000000) with
        | some k => simp [h4] at e2
        | none =>
          simp only [h4, Option.isSome_none, Bool.false_eq_true, if_false] at e2
          cases hy : obx (i - 1000000000) with
          | none => simp [hy] at e2
          | some y =>
            simp only [hy, Option.map_some, Option.some.injEq] at e2
            refine ⟨y, by simp only [back, if_neg hi]; exact hy, e2.symm, by simp only [ρc, back, if_neg hi, if_neg h3, h4]; rfl, ?_⟩
            simp only [back, if_neg hi, inN, h4]
            omega
  have hinN : ∀ j x, ρ j = some x → ρc (inN sg j) = some x := by
    intro j x hj
    cases hi : idx sg j with
    | some i =>
      obtain ⟨g1, g2⟩ := idx_nth hi
      simp only [inN, hi, ρc]
      rw [if_pos (by omega), g1]; exact hj
    | none =>
      simp only [inN, hi, ρc]
      rw [if_neg (by omega), if_neg (by omega), show 1000000000 + j - 1000000000 = j by omega, hi]
      exact hj
  have hownC : ∀ b, Own ρc obC b → Own ρ obx b := by
    rintro b ⟨i, x, hx, hr⟩
    obtain ⟨y, hy, _, hrb, _⟩ := hC i x hx
    exact ⟨back i, y, hy, by rw [← hrb]; exact hr⟩
  have hrepC : Rep w ρc obC := by
    refine ⟨fun i j b hi hj hri hrj => ?_, fun i x hx => ?_, fun x hx => (hrep.glob x hx).mono (fun _ _ _ => rfl) (fun b _ h => hownC b h)⟩
    · cases hxi : obC i with
      | none => exact absurd hxi hi
      | some x =>
        cases hxj : obC j with
        | none => exact absurd hxj hj
        | some x2 =>
          obtain ⟨y, hy, _, h6, h7⟩ := hC i x hxi
          obtain ⟨y2, hy2, _, h8, h9⟩ := hC j x2 hxj
          have := hrep.inj (back i) (back j) b (by rw [hy]; simp) (by rw [hy2]; simp) (by rw [← h6]; exact hri) (by rw [← h8]; exact hrj)
          rw [← h7, ← h9, this]
    · obtain ⟨y, hy, rfl, hrb, _⟩ := hC i x hx
      obtain ⟨q, hq, hro⟩ := hrep.obj (back i) y hy
      exact ⟨q, by rw [hrb]; exact hq, hro.ren (fun b _ h => hownC b h) (fun j x _ hj => hinN j x hj)⟩
  -- arguments
  obtain ⟨vs, hrun, hargsV⟩ := calD_run hcal hcb hrep.glob (fun s hs => hsl s (by simp [hs]))
  have hargsC : RDs w (Own ρc obC) ρc vs.toArray.toList argc := by
    rw [hargs]
    have := RDs.ren (own' := Own ρc obC) (ρ' := ρc) (live := allL) (ψ := inN sg) (fun b _ h => hownC b h) (fun j x _ hj => hinN j x hj) hargsV
    simpa using this
  have hfreshC : ∀ i, bs ≤ i → i < 1000000000 → ρc i = none := by
    intro i h6 h7; simp only [ρc]; rw [if_neg (by omega), if_pos h7]
  have hcall := hF frc hfrc vs.toArray w ρc hrepC hargsC hfreshC
  unfold Oper.wp
  rw [hrun, Oper.upon_enter]
  refine hcall.mono ?_
  rintro e w' ⟨v, d, ob', ρc', rfl, ⟨rfl, rfl⟩, hrd, hrepC', hevo⟩
  -- the way out
  have hevo' : EvoB bs w ρc obC w' ρc' (ovl (obL ob') frc) := hevo
  let obC' : Ob := ovl (obL ob') frc
  let out := outN sg bs N
  let new := newIds bs N ob'
  let ρ' : Rho := fun j => if j ∈ new then ρc' (bs + (j - N) / 1000) else ρ j
  let obN : Ob := upd obx (wrIn sg bs N ob' ob' ++ wrOut sg)
  have hfresh : ∀ j ∈ new, ρ j = none := hal
  have hnewobx : ∀ j ∈ new, obx j = none := fun j hj => hrep.none_of (hfresh j hj)
  have hρdef : ∀ i, i < bs → ∃ y, ρ (nth sg i) = some y := by
    intro i hi
    obtain ⟨x, hx, _⟩ := hpass i hi
    obtain ⟨q, hq, _⟩ := hrep.obj _ x hx
    exact ⟨q, hq⟩
  have hnn : ∀ i, i < bs → nth sg i ∉ new := by
    intro i hi hm
    obtain ⟨y, hy⟩ := hρdef i hi
    rw [hfresh _ hm] at hy; cases hy
  have hnewk : ∀ i ∈ keysOf ob', bs ≤ i → out i ∈ new ∧ bs + (out i - N) / 1000 = i := by
    intro i hi hb
    have e : out i = N + 1000 * (i - bs) := outN_new hb (hobr i hi)
    refine ⟨(mem_newIds bs N ob' _).2 ⟨i, hi, hb, e⟩, ?_⟩
    rw [e]; omega
  have hinj : ∀ i ∈ keysOf ob', ∀ c, (c < bs ∨ c ∈ keysOf ob') → out i = out c → i = c := by
    intro i hi c hc he
    by_cases h6 : i < bs
    · by_cases h7 : c < bs
      · have e1 := hnd i h6
        have e2 := hnd c h7
        rw [show out i = nth sg i from outN_lt h6, show out c = nth sg c from outN_lt h7] at he
        rw [he, e2] at e1; exact (Option.some.inj e1).symm
      · exfalso
        have hck : c ∈ keysOf ob' := hc.resolve_left h7
        have := (hnewk c hck (by omega)).1
        rw [← he, show out i = nth sg i from outN_lt h6] at this
        exact hnn i h6 this
    · have g1 := hnewk i hi (by omega)
      by_cases h7 : c < bs
      · exfalso
        have := g1.1
        rw [he, show out c = nth sg c from outN_lt h7] at this
        exact hnn c h7 this
      · have g2 := hnewk c (hc.resolve_left h7) (by omega)
        rw [← g1.2, ← g2.2, he]
  -- what each name holds behind the call
  have hN1 : ∀ c, (c < bs ∨ c ∈ keysOf ob') → obN (out c) = (obL ob' c).map (renO (liveB bs ob') out) := by
    intro c hc
    simp only [obN]
    rw [upd_app, upd_wrIn _ sg bs N ob' c ob' (fun i hi he => hinj i hi c hc he), upd_wrOut]
    cases hx : obL ob' c with
    | some x => rfl
    | none =>
      simp only [Option.map_none]
      by_cases h6 : c < bs
      · rw [if_pos (by rw [outN_lt h6]; exact hsgm c h6)]
      · have hck := hc.resolve_left h6
        rw [if_neg (fun hm => ?_)]
        · exact hnewobx _ (hnewk c hck (by omega)).1
        · obtain ⟨i, hi, _, h8⟩ := hmem _ hm
          have := (hnewk c hck (by omega)).1
          rw [show out c = nth sg i from h8.symm] at this
          exact hnn i hi this
  have hN2 : ∀ j, idx sg j = none → j ∉ new → obN j = obx j := by
    intro j h6 h7
    simp only [obN]
    rw [upd_app, upd_wrIn_none _ sg bs N ob' j ob' (fun i hi he => ?_), upd_wrOut, if_neg (hnmem j h6)]
    by_cases h8 : i < bs
    · rw [outN_lt h8] at he
      exact hnmem j h6 (he ▸ hsgm i h8)
    · exact h7 (he ▸ (hnewk i hi (by omega)).1)
  -- every name comes of one of the callee's
  have hcid : ∀ j x, obN j = some x → ∃ c y, obC' c = some y ∧ out c = j ∧ ρ' j = ρc' c ∧ (x = renO (liveB bs ob') out y ∨ (obx j = some x ∧ y = renO allL (inN sg) x ∧ c = 1000000000 + j ∧ ρ' j = ρ j)) := by
    intro j x hx
    cases h6 : idx sg j with
    | some i =>
      obtain ⟨g1, g2⟩ := idx_nth h6
      have hib : i < bs := by omega
      have e1 : out i = j := by rw [show out i = nth sg i from outN_lt hib]; exact g1
      have e2 := hN1 i (.inl hib)
      rw [e1, hx] at e2
      cases h7 : obL ob' i with
      | none => simp [h7] at e2
      | some y =>
        simp only [h7, Option.map_some, Option.some.injEq] at e2
        refine ⟨i, y, ovl_some h7, e1, ?_, .inl e2⟩
        have hjn : j ∉ new := g1 ▸ hnn i hib
        simp only [ρ', if_neg hjn]
        obtain ⟨q, hq⟩ := hρdef i hib
        have : ρc i = some q := by simp only [ρc, if_pos hib]; exact hq
        rw [hevo'.rho i q (.inl hib) this, ← g1, hq]
    | none =>
      by_cases h7 : j ∈ new
      · obtain ⟨i, hi, hb, e⟩ := (mem_newIds bs N ob' j).1 h7
        have e1 : out i = j := by rw [e]; exact outN_new hb (hobr i hi)
        have e2 := hN1 i (.inr hi)
        rw [e1, hx] at e2
        cases h8 : obL ob' i with
        | none => simp [h8] at e2
        | some y =>
          simp only [h8, Option.map_some, Option.some.injEq] at e2
          refine ⟨i, y, ovl_some h8, e1, ?_, .inl e2⟩
          simp only [ρ', if_pos h7]
          rw [← e1, (hnewk i hi hb).2]
      · have e2 := hN2 j h6 h7
        rw [hx] at e2
        have hfj : frc (1000000000 + j) = some (renO allL (inN sg) x) := by
          simp only [frc]
          rw [if_neg (by omega), show 1000000000 + j - 1000000000 = j by omega, h6]
          simp [← e2]
        have hob0 : obL ob' (1000000000 + j) = none := by
          cases h9 : obL ob' (1000000000 + j) with
          | none => rfl
          | some z => have := hobr _ (keysOf_obL (by rw [h9]; simp)); omega
        have e3 : obC' (1000000000 + j) = some (renO allL (inN sg) x) := by simp only [obC', ovl, hob0]; exact hfj
        obtain ⟨q, hq, _⟩ := hrep.obj j x e2.symm
        have hρj : ρ' j = ρ j := by simp only [ρ', if_neg h7]
        refine ⟨1000000000 + j, _, e3, outN_fr hbs2, ?_, .inr ⟨e2.symm, rfl, rfl, hρj⟩⟩
        have e4 := hinN j q hq
        simp only [inN, h6] at e4
        rw [hρj, hevo'.rho _ q (.inr (by omega)) e4, hq]
  have hownN : ∀ b, Own ρ' obN b → Own ρc' obC' b := by
    rintro b ⟨j, x, hx, hr⟩
    obtain ⟨c, y, hy, _, hρ, _⟩ := hcid j x hx
    exact ⟨c, y, hy, by rw [← hρ]; exact hr⟩
  have hlow : ∀ c x, c < bs → ρc' c = some x → ρ' (out c) = some x := by
    intro c x h6 hc
    rw [show out c = nth sg c from outN_lt h6]
    simp only [ρ', if_neg (hnn c h6)]
    obtain ⟨q, hq⟩ := hρdef c h6
    have : ρc c = some q := by simp only [ρc, if_pos h6]; exact hq
    rw [hevo'.rho c q (.inl h6) this] at hc
    rw [hq, ← hc]
  have hout1 : ∀ c x, liveB bs ob' c = true → ρc' c = some x → ρ' (out c) = some x := by
    intro c x hl hc
    by_cases h6 : c < bs
    · exact hlow c x h6 hc
    · have hk : c ∈ keysOf ob' := by
        simp only [liveB, Bool.or_eq_true] at hl
        rcases hl with hl | hl
        · rw [Nat.blt_eq] at hl; exact absurd hl h6
        · simpa using hl
      have g := hnewk c hk (by omega)
      simp only [ρ', if_pos g.1]
      rw [g.2]; exact hc
  let liveF : Nat → Bool := fun c => if 1000000000 ≤ c then (ρ (c - 1000000000)).isSome && (idx sg (c - 1000000000)).isNone else Nat.blt c bs
  have hliveF : ∀ j, ρ j ≠ none → allL j = true ∧ liveF (inN sg j) = true ∧ out (inN sg j) = j := by
    intro j hj
    refine ⟨rfl, ?_⟩
    cases h6 : idx sg j with
    | some i =>
      obtain ⟨g1, g2⟩ := idx_nth h6
      have hib : i < bs := by omega
      simp only [inN, h6, liveF]
      exact ⟨by rw [if_neg (by omega)]; exact blt_t hib, by rw [show out i = nth sg i from outN_lt hib]; exact g1⟩
    | none =>
      simp only [inN, h6, liveF]
      refine ⟨?_, outN_fr hbs2⟩
      rw [if_pos (by omega), show 1000000000 + j - 1000000000 = j by omega, h6]
      cases hq : ρ j with
      | none => exact absurd hq hj
      | some q => rfl
  have hout2 : ∀ c x, liveF c = true → ρc' c = some x → ρ' (out c) = some x := by
    intro c x hl hc
    simp only [liveF] at hl
    by_cases h6 : 1000000000 ≤ c
    · rw [if_pos h6] at hl
      simp only [Bool.and_eq_true, Option.isNone_iff_eq_none] at hl
      obtain ⟨j, rfl⟩ : ∃ j, c = 1000000000 + j := ⟨c - 1000000000, by omega⟩
      rw [show 1000000000 + j - 1000000000 = j by omega] at hl
      cases hq : ρ j with
      | none => simp [hq] at hl
      | some q =>
        have hjn : j ∉ new := fun hm => by rw [hfresh j hm] at hq; cases hq
        have e4 := hinN j q hq
        simp only [inN, hl.2] at e4
        rw [hevo'.rho _ q (.inr (by omega)) e4] at hc
        rw [show out (1000000000 + j) = j from outN_fr hbs2]
        simp only [ρ', if_neg hjn]
        rw [hq, ← hc]
    · rw [if_neg h6, Nat.blt_eq] at hl
      exact hlow c x hl hc
  have hevoN : Evo w ρ obx w' ρ' obN := by
    refine ⟨hevo'.os, hevo'.tape, hevo'.output, hevo'.size, fun b hb hn => hevo'.keep b hb (fun h => hn (hownC b h)), hevo'.bsz, fun b hb h => hownC b (hevo'.own b hb (hownN b h)), fun j x hj => ?_⟩
    have hjn : j ∉ new := fun hm => by rw [hfresh j hm] at hj; cases hj
    simp only [ρ', if_neg hjn]; exact hj
  refine hK v w' ρ' (hrd.ren (fun b _ h => hownN b h) hout1) ⟨fun i j b hi hj hri hrj => ?_, fun j x hx => ?_, hrep.glob_evo hevoN⟩ hevoN (fun i hi => by simp only [ρ']; exact if_neg hi)
  · cases hxi : obN i with
    | none => exact absurd hxi hi
    | some x =>
      cases hxj : obN j with
      | none => exact absurd hxj hj
      | some x2 =>
        obtain ⟨c, y, hy, ho1, hρ1, _⟩ := hcid i x hxi
        obtain ⟨c2, y2, hy2, ho2, hρ2, _⟩ := hcid j x2 hxj
        have := hrepC'.inj c c2 b (by show ovl (obL ob') frc c ≠ none; rw [show ovl (obL ob') frc c = some y from hy]; simp) (by rw [show ovl (obL ob') frc c2 = some y2 from hy2]; simp) (by rw [← hρ1]; exact hri) (by rw [← hρ2]; exact hrj)
        rw [← ho1, ← ho2, this]
  · obtain ⟨c, y, hy, ho1, hρ1, hcase⟩ := hcid j x hx
    obtain ⟨q, hq, hro⟩ := hrepC'.obj c y hy
    refine ⟨q, by rw [hρ1]; exact hq, ?_⟩
    rcases hcase with rfl | ⟨h6, rfl, _, _⟩
    · exact hro.ren (fun b _ h => hownN b h) hout1
    · obtain ⟨q0, hq0, hro0⟩ := hrep.obj j x h6
      have h7 := hro.ren (fun b _ h => hownN b h) hout2
      rw [hro0.ren_ren hliveF] at h7
      exact h7
end
end Go.V
