/-
  THE ENGINE, PART 17: contracts of functions, and their use at a call.
-/
import Derived.Test.YteidcinajdehkaaQFV16
set_option linter.unusedSimpArgs false
set_option linter.unusedVariables false
namespace Go.V
def Fn (P : Program) (f : FuncId) (bs : Nat) (args : List D) (ob : Obs) (Qr : D → Obs → Prop) : Prop :=
  ∀ fr, FrOk bs fr → ∀ (vals : Array Value) (w : World) (ρ : Rho), Rep w ρ (ovl (obL ob) fr) → RDs w (Own ρ (ovl (obL ob) fr)) ρ vals.toList args → (∀ i, bs ≤ i → i < 1000000000 → ρ i = none) →
    Calls P f vals w (fun e w' => ∃ v d ob' ρ', e = .returned v ∧ Qr d ob' ∧ RD w' (Own ρ' (ovl (obL ob') fr)) ρ' v d ∧ Rep w' ρ' (ovl (obL ob') fr) ∧ EvoB bs w ρ (ovl (obL ob) fr) w' ρ' (ovl (obL ob') fr))
theorem Fn.mono {P : Program} {f bs : Nat} {args : List D} {ob : Obs} {Q Q' : D → Obs → Prop} (h : Fn P f bs args ob Q) (hq : ∀ d o, Q d o → Q' d o) : Fn P f bs args ob Q' :=
  fun fr hfr vals w ρ h1 h2 h3 => (h fr hfr vals w ρ h1 h2 h3).mono fun _ _ ⟨v, d, ob', ρ', a, b, c⟩ => ⟨v, d, ob', ρ', a, hq _ _ b, c⟩
def initEnv (args : List D) : List Nat → Env
  | [] => []
  | s :: l => (s, args.getD s .dead) :: initEnv args l
theorem lk_initEnv (args : List D) (s : Nat) : ∀ (dom : List Nat), lk (initEnv args dom) s = args.getD s .dead ∨ lk (initEnv args dom) s = .dead
  | [] => .inr rfl
  | t :: l => by
    simp only [initEnv, lk]
    cases h : t == s with
    | true => have := beq_iff_eq.1 h; subst this; exact .inl rfl
    | false => exact lk_initEnv args s l
def initSt (dom : List Nat) (bs : Nat) (args : List D) (ob : Obs) : St := ⟨[], initEnv args dom, ob, bs, []⟩
def resQ (T : Tab) (st : St) : List ResultVar → (List D → Prop) → Prop
  | [], K => K []
  | .tmp t :: l, K => resQ T st l fun ds => K (st.get t :: ds)
  | .cell a ty :: l, K => match loadR T (obL st.ob) ty (st.get a) with
    | .ok d _ _ _ side => side ∧ resQ T st l fun ds => K (d :: ds)
    | .bad => False
def tupOf (ds : List D) : D := match mkO ds [] with | some ps => .v (.tup ps) | none => .tup ds
def retD (ds : List D) : D := match ds with | [d] => d | ds => tupOf ds
theorem tupOf_RD {w : World} {own : Nat → Prop} {ρ : Rho} {vs : List Value} {ds : List D} (h : RDs w own ρ vs ds) : RD w own ρ (.tuple vs.toArray) (tupOf ds) := by
  unfold tupOf
  cases hm : mkO ds [] with
  | none => exact .tup vs ds h
  | some ps =>
    have := mkO_some hm
    simp only [List.reverse_nil, List.map_nil, List.nil_append] at this
    rw [← this] at h
    exact .v _ _ (.tup vs ps h.of_v)
section
variable {P : Program} {T : Tab} {sz bs : Nat}
theorem loadVar_sound {w : World} {ρ : Rho} {ob : Ob} (hT : TOk P T) (hrep : Rep w ρ ob) {ty : TypeId} {dx d : D} {vx : Value} (hx : RD w (Own ρ ob) ρ vx dx) {wr : List (Nat × Option AObj)} {al rd : List Nat} {side : Prop} (h : loadR T ob ty dx = .ok d wr al rd side) (hs : side) :
    ∃ ad v, vx = .pointer (some ad) ∧ (loadVar ty ad).run P w = .ok v w ∧ RD w (Own ρ ob) ρ v d := by
  unfold loadR at h
  split at h
  · cases h
  · rename_i i hi
    split at h
    · rename_i cs
      cases hx with | v _ _ hx =>
      cases hx with
      | ipt b off cs hc =>
        obtain ⟨h1, h2⟩ := load_imm hT hi hc
        cases hk : i.k.agg with
        | true =>
          simp only [hk, cond_true, R.val, R.ok.injEq] at h
          obtain ⟨rfl, rfl, rfl, rfl, rfl⟩ := h
          obtain ⟨v, a1, a2⟩ := h2 hk hs; exact ⟨_, v, rfl, a1, .v _ _ a2⟩
        | false =>
          simp only [hk, cond_false, R.val, R.ok.injEq] at h
          obtain ⟨rfl, rfl, rfl, rfl, rfl⟩ := h
          obtain ⟨v, a1, a2⟩ := h1 hk hs; exact ⟨_, v, rfl, a1, .v _ _ a2⟩
    · rename_i id off
      cases hx with
      | ptr id off b hr =>
        split at h
        · rename_i cs ho
          obtain ⟨h1, h2⟩ := load_obj hT hi hrep (off := off) ho hr
          cases hk : i.k.agg with
          | true =>
            simp only [hk, cond_true, R.ok.injEq] at h
            obtain ⟨rfl, rfl, rfl, rfl, rfl⟩ := h
            obtain ⟨vs, a1, a2, a3⟩ := h2 hk (by simpa [AObj.cells] using hs)
            refine ⟨_, _, rfl, a1, .v _ _ (.agg vs _ a2 (RDs.of_v (ρ := ρ) ?_))⟩
            simpa [AObj.cells, List.map_drop, List.map_take] using a3
          | false =>
            simp only [hk, cond_false, R.ok.injEq] at h
            obtain ⟨rfl, rfl, rfl, rfl, rfl⟩ := h
            obtain ⟨v, a1, _, a3⟩ := h1 hk (.v (gp cs off)) (by simp [AObj.cells, gp_some hs])
            exact ⟨_, v, rfl, a1, a3⟩
        · rename_i cs ho
          obtain ⟨h1, h2⟩ := load_obj hT hi hrep (off := off) ho hr
          cases hk : i.k.agg with
          | true =>
            simp only [hk, cond_true, R.ok.injEq] at h
            obtain ⟨rfl, rfl, rfl, rfl, rfl⟩ := h
            obtain ⟨vs, a1, a2, a3⟩ := h2 hk hs
            exact ⟨_, _, rfl, a1, .agg vs _ a2 a3⟩
          | false =>
            simp only [hk, cond_false, R.ok.injEq] at h
            obtain ⟨rfl, rfl, rfl, rfl, rfl⟩ := h
            obtain ⟨v, a1, _, a3⟩ := h1 hk (gd cs off) (gd_some hs)
            exact ⟨_, v, rfl, a1, a3⟩
        · cases h
    · cases h
def resV (tmps : Array Value) : ResultVar → Sem Value
  | .tmp t => pure (tmps.getD t undef)
  | .cell a t => do loadVar t (← asAddr (tmps.getD a undef))
theorem resQ_sound (hT : TOk P T) {st : St} {fr : Ob} {a : Act} {w : World} {ρ : Rho} (hs : SatS fr sz a w ρ st) : ∀ (l : List ResultVar) (K : List D → Prop), resQ T st l K →
    ∃ (vs : List Value) (ds : List D), (l.mapM (resV a.tmps)).run P w = .ok vs w ∧ vs.length = l.length ∧ K ds ∧ RDs w (Own ρ (ovl (obL st.ob) fr)) ρ vs ds
  | [], K, h => ⟨[], [], by simp, rfl, h, .nil⟩
  | ResultVar.tmp t :: l, K, h => by
    obtain ⟨vs, ds, h1, h2, h3, h4⟩ := resQ_sound hT hs l _ h
    exact ⟨a.tmps.getD t undef :: vs, st.get t :: ds, by rw [List.mapM_cons, Sem.run_bind]; simp only [resV, Sem.run_pure, Result.andThen_ok, Sem.run_bind, h1], by simp [h2], h3, .cons _ _ _ _ (hs.env t) h4⟩
  | ResultVar.cell b ty :: l, K, h => by
    simp only [resQ] at h
    split at h
    · rename_i d wr al rd side hl
      obtain ⟨hside, h⟩ := h
      obtain ⟨vs, ds, h1, h2, h3, h4⟩ := resQ_sound hT hs l _ h
      have hl2 := loadR_congr (ob2 := ovl (obL st.ob) fr) hl (fun i _ y hy => ovl_some hy)
      obtain ⟨ad, v, e1, e2, e3⟩ := loadVar_sound hT hs.rep (hs.env b) hl2 hside
      refine ⟨v :: vs, d :: ds, ?_, by simp [h2], h3, .cons _ _ _ _ e3 h4⟩
      rw [List.mapM_cons, Sem.run_bind]
      simp only [resV, e1, asAddr, Sem.run_bind, Sem.run_pure, Result.andThen_ok, e2, h1]
    · exact h.elim
theorem run_results (fn : Func) (tmps : Array Value) (w : World) (vs : List Value) (h : (fn.results.toList.mapM (resV tmps)).run P w = .ok vs w) :
    (results fn tmps).run P w = .ok (match vs with | [v] => v | vs => .tuple vs.toArray) w := by
  have hm : (fn.results.mapM (resV tmps)).run P w = .ok vs.toArray w := by
    rw [Array.mapM_eq_mapM_toList, Sem.run_map, h]; rfl
  have : results fn tmps = (do
    let vs ← fn.results.mapM (resV tmps)
    pure (if h : vs.size = 1 then vs[0] else .tuple vs)) := by
    unfold results
    congr 1
  rw [this, Sem.run_bind, hm]
  simp only [Result.andThen_ok, Sem.run_pure]
  match vs with
  | [] => simp
  | [v] => simp
  | _ :: _ :: _ => simp
end
end Go.V
