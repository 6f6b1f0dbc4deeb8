/-
  THE ENGINE, PART 27: data that say less; loops by a function that says what they lead to; parts of such functions.
-/
import Derived.Test.YteidcinajdehkaaQFV26
set_option linter.unusedSimpArgs false
set_option linter.unusedVariables false
namespace Go.V
mutual
inductive PLe : PV → PV → Prop
  | refl (p : PV) : PLe p p
  | nl (f : Bool) : PLe .nl (.lst f 0 [])
  | lst (f g : Bool) (n : Nat) (cs ds : List PV) (h : g = true → f = true) (t : PLes cs ds) : PLe (.lst f n cs) (.lst g n ds)
  | ipt (cs ds : List PV) (t : PLes cs ds) : PLe (.ipt cs) (.ipt ds)
  | agg (cs ds : List PV) (t : PLes cs ds) : PLe (.agg cs) (.agg ds)
  | tup (cs ds : List PV) (t : PLes cs ds) : PLe (.tup cs) (.tup ds)
  | fn (f : FuncId) (cs ds : List PV) (t : PLes cs ds) : PLe (.fn f cs) (.fn f ds)
inductive PLes : List PV → List PV → Prop
  | nil : PLes [] []
  | cons (p q : PV) (cs ds : List PV) (h : PLe p q) (t : PLes cs ds) : PLes (p :: cs) (q :: ds)
end
theorem PLes.refl : ∀ (l : List PV), PLes l l
  | [] => .nil
  | p :: l => .cons p p l l (.refl p) (PLes.refl l)
theorem PLes.app : ∀ {a b c d : List PV}, PLes a b → PLes c d → PLes (a ++ c) (b ++ d)
  | [], [], _, _, .nil, h => h
  | _, _, _, _, .cons p q cs ds h t, h2 => .cons p q _ _ h (PLes.app t h2)
theorem PLes.len : ∀ {a b : List PV}, PLes a b → a.length = b.length
  | _, _, .nil => rfl
  | _, _, .cons _ _ _ _ _ t => by simp [t.len]
theorem PLes.get : ∀ {a b : List PV}, PLes a b → ∀ {j : Nat} {q : PV}, b[j]? = some q → ∃ p, a[j]? = some p ∧ PLe p q
  | _, _, .nil, _, _, h => by simp at h
  | _, _, .cons p q cs ds h t, j, q', hj => by
    cases j with
    | zero => simp at hj; subst hj; exact ⟨p, by simp, h⟩
    | succ j => obtain ⟨p', h1, h2⟩ := t.get (by simpa using hj); exact ⟨p', by simpa using h1, h2⟩
section le
variable {w : World} {own : Nat → Prop}
mutual
theorem RP.le : ∀ {x : Value} {p q : PV}, RP w own x p → PLe p q → RP w own x q
  | _, _, _, h, .refl _ => h
  | _, _, _, .nl, .nl f => .lstN f
  | _, _, _, .lstN _, .lst f g _ _ _ h .nil => .lstN g
  | _, _, _, .lst0 _ a, .lst f g _ _ _ h .nil => .lst0 g a
  | _, _, _, .lst f n cap b off cs h1 h2 h3 hc, .lst _ g _ _ ds h t => .lst g n cap b off ds h1 (fun e => h2 (h e)) h3 (RC.le hc t)
  | _, _, _, .ipt b off cs hc, .ipt _ ds t => .ipt b off ds (RC.le hc t)
  | _, _, _, .agg vs cs h1 hh, .agg _ ds t => .agg vs ds h1 (RPs.le hh t)
  | _, _, _, .tup vs cs hh, .tup _ ds t => .tup vs ds (RPs.le hh t)
  | _, _, _, .fn f hf vs cs hh, .fn _ _ ds t => .fn f hf vs ds (RPs.le hh t)
  | _, _, _, .nif, .fn _ _ _ .nil => .nif
  | _, _, _, .np, .fn _ _ _ (.cons _ _ _ _ (.refl _) .nil) => .np
  | _, _, _, .nn a c h3 h4, .fn _ _ _ (.cons _ _ _ _ (.refl _) .nil) => .nn a c h3 h4
  | _, _, _, .ifc t v p h, .fn _ _ _ (.cons _ q _ _ hq .nil) => .ifc t v q (RP.le h hq)
  | _, _, _, .bf f hf v p h, .fn _ _ _ (.cons _ _ _ _ (.refl _) (.cons _ q _ _ hq .nil)) => .bf f hf v q (RP.le h hq)
  | _, _, _, .bf f hf v p h, .fn _ _ _ (.cons _ _ _ _ (.fn _ _ _ .nil) (.cons _ q _ _ hq .nil)) => .bf f hf v q (RP.le h hq)
theorem RC.le : ∀ {b off : Nat} {cs ds : List PV}, RC w own b off cs → PLes cs ds → RC w own b off ds
  | _, _, _, _, .nil b off, .nil => .nil b off
  | _, _, _, _, .cons b off v p cs hb h1 ho h t, .cons _ q _ ds hq tq => .cons b off v q ds hb h1 ho (RP.le h hq) (RC.le t tq)
theorem RPs.le : ∀ {vs : List Value} {cs ds : List PV}, RPs w own vs cs → PLes cs ds → RPs w own vs ds
  | _, _, _, .nil, .nil => .nil
  | _, _, _, .cons v p vs cs h t, .cons _ q _ ds hq tq => .cons v q vs ds (RP.le h hq) (RPs.le t tq)
end
end le
mutual
inductive DLe : D → D → Prop
  | dead (d : D) : DLe d .dead
  | refl (d : D) : DLe d d
  | v (p q : PV) (h : PLe p q) : DLe (.v p) (.v q)
  | sl (f : Bool) (id off len sz : Nat) : DLe (.sl f id off len sz) (.sl false id off len sz)
  | agg (cs ds : List D) (t : DLes cs ds) : DLe (.agg cs) (.agg ds)
  | tup (cs ds : List D) (t : DLes cs ds) : DLe (.tup cs) (.tup ds)
inductive DLes : List D → List D → Prop
  | nil : DLes [] []
  | cons (p q : D) (cs ds : List D) (h : DLe p q) (t : DLes cs ds) : DLes (p :: cs) (q :: ds)
end
theorem DLes.refl : ∀ (l : List D), DLes l l
  | [] => .nil
  | p :: l => .cons p p l l (.refl p) (DLes.refl l)
theorem DLes.len : ∀ {a b : List D}, DLes a b → a.length = b.length
  | _, _, .nil => rfl
  | _, _, .cons _ _ _ _ _ t => by simp [t.len]
theorem DLes.get : ∀ {a b : List D}, DLes a b → ∀ {j : Nat} {q : D}, b[j]? = some q → ∃ p, a[j]? = some p ∧ DLe p q
  | _, _, .nil, _, _, h => by simp at h
  | _, _, .cons p q cs ds h t, j, q', hj => by
    cases j with
    | zero => simp at hj; subst hj; exact ⟨p, by simp, h⟩
    | succ j => obtain ⟨p', h1, h2⟩ := t.get (by simpa using hj); exact ⟨p', by simpa using h1, h2⟩
theorem DLes.of_p : ∀ {a b : List PV}, PLes a b → DLes (a.map .v) (b.map .v)
  | _, _, .nil => .nil
  | _, _, .cons p q _ _ h t => .cons _ _ _ _ (.v p q h) (DLes.of_p t)
section dle
variable {w : World} {own : Nat → Prop} {ρ : Rho}
mutual
theorem RD.le : ∀ {x : Value} {p q : D}, RD w own ρ x p → DLe p q → RD w own ρ x q
  | x, _, _, _, .dead _ => .dead x
  | _, _, _, h, .refl _ => h
  | _, _, _, .v x p h, .v _ q hq => .v x q (h.le hq)
  | _, _, _, .sl f id off len sz b o' cap hr h1 h2 h3 h4, .sl .. => .sl false id off len sz b o' cap hr h1 (fun e => by cases e) h3 h4
  | _, _, _, .slN f id off sz hr, .sl .. => .slN false id off sz hr
  | _, _, _, .agg vs cs h1 hh, .agg _ ds t => .agg vs ds h1 (RDs.le hh t)
  | _, _, _, .tup vs cs hh, .tup _ ds t => .tup vs ds (RDs.le hh t)
theorem RDs.le : ∀ {vs : List Value} {cs ds : List D}, RDs w own ρ vs cs → DLes cs ds → RDs w own ρ vs ds
  | _, _, _, .nil, .nil => .nil
  | _, _, _, .cons v p vs cs h t, .cons _ q _ ds hq tq => .cons v q vs ds (RD.le h hq) (RDs.le t tq)
end
end dle
inductive ELe : Env → Env → Prop
  | nil : ELe [] []
  | cons (s : Nat) (d d' : D) (e e' : Env) (h : DLe d d') (t : ELe e e') : ELe ((s, d) :: e) ((s, d') :: e')
theorem ELe.lk {e e' : Env} (h : ELe e e') (s : Nat) : DLe (lk e s) (lk e' s) := by
  induction h with
  | nil => exact .refl _
  | cons a d d' e e' h t ih =>
    simp only [V.lk]
    cases a == s
    · exact ih
    · exact h
inductive OLe : Obs → Obs → Prop
  | nil : OLe [] []
  | cons (i : Nat) (o o' : AObj) (l l' : Obs) (h : DLes o.cells o'.cells) (t : OLe l l') : OLe ((i, o) :: l) ((i, o') :: l')
theorem OLe.refl : ∀ (l : Obs), OLe l l
  | [] => .nil
  | (i, o) :: l => .cons i o o l l (.refl _) (OLe.refl l)
theorem OLe.get {l l' : Obs} (h : OLe l l') (i : Nat) : (obL l' i = none ∧ obL l i = none) ∨ ∃ o o', obL l i = some o ∧ obL l' i = some o' ∧ DLes o.cells o'.cells := by
  induction h with
  | nil => exact .inl ⟨rfl, rfl⟩
  | cons a o o' l l' h t ih =>
    simp only [obL]
    cases a == i
    · exact ih
    · exact .inr ⟨o, o', rfl, rfl, h⟩
theorem Wk_le {sz bs nx : Nat} {e e' : Env} {ob ob' : Obs} (he : ELe e e') (ho : OLe ob ob') : Wk sz bs ⟨[], e, ob, nx, []⟩ ⟨[], e', ob', nx, []⟩ := by
  intro fr hfr a w ρ hs
  have key : ∀ i, (ovl (obL ob') fr i = none ∧ ovl (obL ob) fr i = none) ∨ ∃ o o', ovl (obL ob) fr i = some o ∧ ovl (obL ob') fr i = some o' ∧ DLes o.cells o'.cells := by
    intro i
    rcases ho.get i with ⟨h1, h2⟩ | ⟨o, o', h1, h2, h3⟩
    · simp only [ovl, h1, h2]
      cases fr i with
      | none => exact .inl ⟨rfl, rfl⟩
      | some o => exact .inr ⟨o, o, rfl, rfl, .refl _⟩
    · exact .inr ⟨o, o', ovl_some h1, ovl_some h2, h3⟩
  have hown : (Own ρ (ovl (obL ob') fr) : Nat → Prop) = Own ρ (ovl (obL ob) fr) := by
    funext b
    apply propext
    constructor
    · rintro ⟨i, o, h1, h2⟩
      rcases key i with ⟨k1, _⟩ | ⟨o1, o2, k1, k2, _⟩
      · rw [k1] at h1; cases h1
      · exact ⟨i, o1, k1, h2⟩
    · rintro ⟨i, o, h1, h2⟩
      rcases key i with ⟨_, k1⟩ | ⟨o1, o2, k1, k2, _⟩
      · rw [k1] at h1; cases h1
      · exact ⟨i, o2, k2, h2⟩
  have hs' : ∀ st : St, st = ⟨[], e, ob, nx, []⟩ → SatS fr sz a w ρ st → SatS fr sz a w ρ ⟨[], e', ob', nx, []⟩ := by
    intro st hst hs
    subst hst
    refine ⟨hs.defers, hs.size, ⟨fun i j b hi hj => ?_, fun i o' ho' => ?_, fun x hx => by rw [hown]; exact hs.rep.glob x hx⟩, fun s => ?_, hs.fr⟩
    · refine hs.rep.inj i j b (fun h => hi ?_) (fun h => hj ?_)
      · rcases key i with ⟨k1, _⟩ | ⟨o1, o2, k1, k2, _⟩
        · exact k1
        · rw [show ovl (obL ob) fr i = none from h] at k1; cases k1
      · rcases key j with ⟨k1, _⟩ | ⟨o1, o2, k1, k2, _⟩
        · exact k1
        · rw [show ovl (obL ob) fr j = none from h] at k1; cases k1
    · rcases key i with ⟨k1, _⟩ | ⟨o1, o2, k1, k2, k3⟩
      · rw [show ovl (obL ob') fr i = some o' from ho'] at k1; cases k1
      · have e2 : o2 = o' := by rw [show ovl (obL ob') fr i = some o' from ho'] at k2; exact (Option.some.inj k2).symm
        subst e2
        obtain ⟨x, hx, hro⟩ := hs.rep.obj i o1 k1
        refine ⟨x, hx, ?_⟩
        rw [hown]
        cases x with
        | none =>
          simp only [RO] at hro ⊢
          have := k3.len; rw [show o1.cells = [] from hro] at this
          exact List.length_eq_zero_iff.1 this.symm
        | some b =>
          obtain ⟨c, t, hb, hl, hc⟩ := hro
          refine ⟨c, t, hb, by rw [← k3.len]; exact hl, fun j d hj => ?_⟩
          obtain ⟨p, p1, p2⟩ := k3.get hj
          obtain ⟨u, u1, u2, u3⟩ := hc j p p1
          exact ⟨u, u1, u2, u3.le p2⟩
    · have h1 : RD w (Own ρ (ovl (obL ob) fr)) ρ (a.tmps.getD s undef) (lk e s) := hs.env s
      show RD w (Own ρ (ovl (obL ob') fr)) ρ (a.tmps.getD s undef) (lk e' s)
      rw [hown]
      exact h1.le (he.lk s)
  refine ⟨ρ, hs' _ rfl hs, ?_⟩
  show EvoB bs w ρ (ovl (obL ob) fr) w ρ (ovl (obL ob') fr)
  have := EvoB.refl bs w ρ (ovl (obL ob) fr)
  exact ⟨this.os, this.tape, this.output, this.size, this.keep, this.bsz, fun b hb h => by rw [hown] at h; exact h, this.rho⟩
theorem FnP_le {P : Program} {f : FuncId} {ps qs : List PV} {r r' : PV} (h : FnP P f qs r) (hp : PLes ps qs) (hr : PLe r r') : FnP P f ps r' := by
  intro fr hfr vals w ρ h1 h2 h3
  refine (h fr hfr vals w ρ h1 (h2.le (DLes.of_p hp)) h3).mono ?_
  rintro _ _ ⟨v, d, ob', ρ', e1, ⟨rfl, rfl⟩, e3, e4⟩
  exact ⟨v, .v r', [], ρ', e1, ⟨rfl, rfl⟩, e3.le (.v _ _ hr), e4⟩
section loop
variable {P : Program} {T : Tab} {sz bs : Nat} {k : List It} {st : St} {Q : St → Prop}
theorem Wp_loopG {c : Code} (G : Nat → St → Prop) (n0 : Nat) (st0 : St) (hw0 : Wk sz bs st st0) (h0 : G n0 st0)
    (round : ∀ n st', G n st' → Wp P sz bs (.code c :: .cut (fun s => ∃ m, m < n ∧ G m s) :: k) st' Q) : Wp P sz bs (.code (.loop c) :: k) st Q := by
  intro fr hfr a w ρ hs
  obtain ⟨ρ1, hs1, he1⟩ := hw0 fr hfr a w ρ hs
  refine wp_loop_ghost (fun n a' w' => ∃ st' ρ', G n st' ∧ SatS fr sz a' w' ρ' st' ∧ EvoB bs w ρ (ovl (obL st.ob) fr) w' ρ' (ovl (obL st'.ob) fr)) n0 ⟨st0, ρ1, h0, hs1, he1⟩ ?_
  rintro n a' w' ⟨st', ρ', hG, hs', he'⟩
  refine wp_mono (round n st' hG fr hfr a' w' ρ' hs') fun e a2 w2 ⟨st2, ρ2, q, s, e2⟩ => ?_
  cases e with
  | normal =>
    obtain ⟨st3, hw3, m, hlt, hG3⟩ := q
    obtain ⟨ρ3, hs3, he3⟩ := hw3 fr hfr a2 w2 ρ2 s
    exact ⟨m, hlt, st3, ρ3, hG3, hs3, (he'.trans e2).trans he3⟩
  | _ => exact ⟨st2, ρ2, by have q' := q; rw [Run_cut_exit (by simp)] at q'; exact q', s, he'.trans e2⟩
theorem cutQ {J : St → Prop} (st' : St) (h1 : Wk sz bs st st') (h2 : J st') : Wp P sz bs (.cut J :: k) st Q := ⟨st', h1, h2⟩
end loop
theorem Wk_own {sz bs nx : Nat} {e e' : Env} {ob : Obs} (s es : Nat) (hs : lk e s = .v .nl) (he : ∀ t, lk e' t = if t = s then .sl false nx 0 0 es else lk e t) (hb : bs ≤ nx) (hn : nx < 1000000000) :
    Wk sz bs ⟨[], e, ob, nx, []⟩ ⟨[], e', (nx, .p []) :: ob, nx + 1, []⟩ := by
  intro fr hfr a w ρ h
  have hnx : ρ nx = none := h.fr nx (Nat.le_refl _) (fun hx => by rcases hx with hx | hx; · cases hx
                                                                  · omega)
  let ρ' : Rho := fun i => if i = nx then some none else ρ i
  have hold : ovl (obL ob) fr nx = none := h.rep.none_of hnx
  have hov : ∀ i, ovl (obL ((nx, .p []) :: ob)) fr i = if i = nx then some (.p []) else ovl (obL ob) fr i := by
    intro i
    by_cases hi : i = nx
    · subst hi; simp [ovl, obL]
    · have : (nx == i) = false := by simpa using fun e => hi e.symm
      simp [ovl, obL, this, hi]
  have hown : (Own ρ' (ovl (obL ((nx, .p []) :: ob)) fr) : Nat → Prop) = Own ρ (ovl (obL ob) fr) := by
    funext b
    apply propext
    constructor
    · rintro ⟨i, o, h1, h2⟩
      by_cases hi : i = nx
      · subst hi; simp [ρ'] at h2
      · simp only [ρ', hi, if_false] at h2
        rw [hov, if_neg hi] at h1
        exact ⟨i, o, h1, h2⟩
    · rintro ⟨i, o, h1, h2⟩
      have hi : i ≠ nx := fun e => by subst e; rw [hnx] at h2; cases h2
      exact ⟨i, o, by rw [hov, if_neg hi]; exact h1, by simp only [ρ', hi, if_false]; exact h2⟩
  have hrho : ∀ i x, ρ i = some x → ρ' i = some x := by
    intro i x hx
    have hi : i ≠ nx := fun e => by subst e; rw [hnx] at hx; cases hx
    simp only [ρ', hi, if_false]; exact hx
  refine ⟨ρ', ⟨h.defers, h.size, ⟨fun i j b hi hj hri hrj => ?_, fun i o ho => ?_, fun x hx => by
      have := h.rep.glob x hx
      show RC w (Own ρ' (ovl (obL ((nx, .p []) :: ob)) fr)) x.1 0 x.2
      rw [hown]; exact this⟩, fun t => ?_, fun i hi hn2 => ?_⟩, ⟨rfl, rfl, rfl, Nat.le_refl _, fun _ _ _ => rfl, fun _ _ => rfl, fun b _ hb2 => by
      have : Own ρ' (ovl (obL ((nx, .p []) :: ob)) fr) b := hb2
      rw [hown] at this; exact this, fun i x _ hx => hrho i x hx⟩⟩
  · have key : ∀ i, ρ' i = some (some b) → i ≠ nx ∧ ρ i = some (some b) := by
      intro i hi
      by_cases e : i = nx
      · subst e; simp [ρ'] at hi
      · exact ⟨e, by simpa [ρ', e] using hi⟩
    obtain ⟨a1, a2⟩ := key i hri
    obtain ⟨b1, b2⟩ := key j hrj
    refine h.rep.inj i j b (fun e => hi ?_) (fun e => hj ?_) a2 b2
    · show ovl (obL ((nx, .p []) :: ob)) fr i = none
      rw [hov, if_neg a1]; exact e
    · show ovl (obL ((nx, .p []) :: ob)) fr j = none
      rw [hov, if_neg b1]; exact e
  · have ho' : ovl (obL ((nx, .p []) :: ob)) fr i = some o := ho
    rw [hov] at ho'
    by_cases hi : i = nx
    · subst hi
      simp only [if_true, Option.some.injEq] at ho'
      subst ho'
      exact ⟨none, by simp [ρ'], rfl⟩
    · rw [if_neg hi] at ho'
      obtain ⟨x, hx, hro⟩ := h.rep.obj i o ho'
      refine ⟨x, hrho i x hx, ?_⟩
      rw [show (Own ρ' (ovl (obL (St.ob ⟨[], e', (nx, .p []) :: ob, nx + 1, []⟩)) fr) : Nat → Prop) = Own ρ (ovl (obL ob) fr) from hown]
      cases x with
      | none => exact hro
      | some b =>
        obtain ⟨c, t, hb2, hl, hc⟩ := hro
        exact ⟨c, t, hb2, hl, fun j d hj => let ⟨u, u1, u2, u3⟩ := hc j d hj; ⟨u, u1, u2, u3.mono (fun _ _ _ => rfl) (fun _ _ h => h) (fun _ _ => rfl) hrho⟩⟩
  · have h0 : RD w (Own ρ (ovl (obL ob) fr)) ρ (a.tmps.getD t undef) (lk e t) := h.env t
    show RD w (Own ρ' (ovl (obL ((nx, .p []) :: ob)) fr)) ρ' (a.tmps.getD t undef) (lk e' t)
    rw [hown, he]
    by_cases ht : t = s
    · subst ht
      rw [if_pos rfl]
      rw [hs] at h0
      generalize a.tmps.getD t undef = x at h0
      cases h0 with
      | v _ _ hp => cases hp; exact .slN false nx 0 es (by simp [ρ'])
    · rw [if_neg ht]
      exact h0.mono (fun _ _ _ => rfl) (fun _ _ h => h) (fun _ _ => rfl) hrho
  · have hi' : nx + 1 ≤ i := hi
    have : i ≠ nx := by omega
    simp only [ρ', this, if_false]
    exact h.fr i (by show nx ≤ i; omega) (fun hx => hn2 (hx.elim (fun h => nomatch h) .inr))
section model
variable {α β : Type}
def grd (p : Prop) [Decidable p] (k : Option α) : Option α := if p then k else none
theorem grd_some {p : Prop} [Decidable p] {k : Option α} {r : α} (h : grd p k = some r) : p ∧ k = some r := by
  unfold grd at h; split at h
  · exact ⟨‹_›, h⟩
  · cases h
def getI (kd : IntKind) (p : PV) (k : Int → Option α) : Option α := match p with | .int kd' x => if kd' = kd then k x else none | _ => none
theorem getI_some {kd : IntKind} {p : PV} {k : Int → Option α} {r : α} (h : getI kd p k = some r) : ∃ x, p = .int kd x ∧ k x = some r := by
  unfold getI at h; split at h
  · split at h
    · rename_i x hk; subst hk; exact ⟨x, rfl, h⟩
    · cases h
  · cases h
def getB (p : PV) (k : Bool → Option α) : Option α := match p with | .bool b => k b | _ => none
theorem getB_some {p : PV} {k : Bool → Option α} {r : α} (h : getB p k = some r) : ∃ x, p = .bool x ∧ k x = some r := by
  unfold getB at h; split at h
  · exact ⟨_, rfl, h⟩
  · cases h
def getL (p : PV) (k : Nat → List PV → Option α) : Option α := match p with | .lst false n cs => k n cs | _ => none
theorem getL_some {p : PV} {k : Nat → List PV → Option α} {r : α} (h : getL p k = some r) : ∃ n cs, p = .lst false n cs ∧ k n cs = some r := by
  unfold getL at h; split at h
  · exact ⟨_, _, rfl, h⟩
  · cases h
def getA2 (p : PV) (k : PV → PV → Option α) : Option α := match p with | .agg [a, b] => k a b | _ => none
theorem getA2_some {p : PV} {k : PV → PV → Option α} {r : α} (h : getA2 p k = some r) : ∃ a b, p = .agg [a, b] ∧ k a b = some r := by
  unfold getA2 at h; split at h
  · exact ⟨_, _, rfl, h⟩
  · cases h
def getT2 (p : PV) (k : PV → PV → Option α) : Option α := match p with | .tup [a, b] => k a b | _ => none
theorem getT2_some {p : PV} {k : PV → PV → Option α} {r : α} (h : getT2 p k = some r) : ∃ a b, p = .tup [a, b] ∧ k a b = some r := by
  unfold getT2 at h; split at h
  · exact ⟨_, _, rfl, h⟩
  · cases h
def bnd' (o : Option β) (k : β → Option α) : Option α := match o with | some x => k x | none => none
theorem bnd'_some {o : Option β} {k : β → Option α} {r : α} (h : bnd' o k = some r) : ∃ x, o = some x ∧ k x = some r := by
  unfold bnd' at h; split at h
  · exact ⟨_, rfl, h⟩
  · cases h
def brn (b : Bool) (x y : Option α) : Option α := match b with | true => x | false => y
theorem brn_some {b : Bool} {x y : Option α} {r : α} (h : brn b x y = some r) : (b = true ∧ x = some r) ∨ (b = false ∧ y = some r) := by
  cases b
  · exact .inr ⟨rfl, h⟩
  · exact .inl ⟨rfl, h⟩
end model
end Go.V
