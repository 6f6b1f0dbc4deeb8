/-
  THE ENGINE, PART 42: a scope in which the run jumps back to a label.
-/
import Derived.Test.YteidcinajdehkaaQFV41
import Derived.Scope
set_option linter.unusedSimpArgs false
set_option linter.unusedVariables false
namespace Go.V
def IS (P : Program) (c rest : Code) (Q : Exit → Act → World → Prop) (a : Act) (w : World) : Prop :=
  ∀ (b : Frame) (k : List Item) (cs : List Frame), ∃ e a' w', Q e a' w' ∧ Arrives P (lone (b.at a (.code rest :: .inScope c :: k)) cs w) b k cs e a' w'
def jmpQ (l : Nat) (J : Act → World → Prop) (Q : Exit → Act → World → Prop) : Exit → Act → World → Prop
  | .goto j, a, w => j = l ∧ J a w
  | e, a, w => Q e a w
theorem IS_mono {P : Program} {c r : Code} {Q Q' : Exit → Act → World → Prop} {a : Act} {w : World} (h : IS P c r Q a w) (hq : ∀ e a w, Q e a w → Q' e a w) : IS P c r Q' a w :=
  fun b k cs => let ⟨e, a', w', q, s⟩ := h b k cs; ⟨e, a', w', hq _ _ _ q, s⟩
theorem IS_of {P : Program} {c r rest : Code} {l : Nat} (hf : findLabel c l = some rest) {Q : Exit → Act → World → Prop} {a : Act} {w : World} (h : r.wp P (jmpQ l (IS P c rest Q) Q) a w) : IS P c r Q a w := by
  intro b k cs
  have hg : gotoIn l (.inScope c :: k) = some (.code rest :: .inScope c :: k) := by simp [gotoIn, hf]
  obtain ⟨e, a₁, w₁, hq, harr⟩ := h b (.inScope c :: k) cs
  cases e with
  | normal => exact ⟨.normal, a₁, w₁, hq, Steps.trans harr (.one step_inScope)⟩
  | exit id => exact ⟨.exit id, a₁, w₁, hq, fun k' hk => harr k' (by simp [exitTo, hk])⟩
  | goto l' =>
    obtain ⟨rfl, hJ'⟩ := hq
    obtain ⟨e₂, a₂, w₂, hq₂, harr₂⟩ := hJ' b k cs
    exact ⟨e₂, a₂, w₂, hq₂, .of_steps (harr _ hg) harr₂⟩
  | ret => exact ⟨_, a₁, w₁, hq, harr⟩
  | panic ch => exact ⟨_, a₁, w₁, hq, harr⟩
  | outgrown => exact ⟨_, a₁, w₁, hq, harr⟩
theorem wp_scope_IS {P : Program} {c : Code} {Q : Exit → Act → World → Prop} {a : Act} {w : World} (h : IS P c c Q a w) : (Code.scope c).wp P Q a w := by
  intro b k cs
  obtain ⟨e, a', w', hq, harr⟩ := h b k cs
  exact ⟨e, a', w', hq, .of_steps (.one step_scope) harr⟩
def WpS (P : Program) (sz bs : Nat) (c rest : Code) (k : List It) (st : St) (Q : St → Prop) : Prop :=
  ∀ fr, FrOk bs fr → ∀ a w ρ, SatS fr sz a w ρ st → IS P c rest (fun e a' w' => ∃ st' ρ', Run P sz bs k e st' Q ∧ SatS fr sz a' w' ρ' st' ∧ EvoB bs w ρ (ovl (obL st.ob) fr) w' ρ' (ovl (obL st'.ob) fr)) a w
section
variable {P : Program} {sz bs : Nat} {k : List It} {st : St} {Q : St → Prop} {c rest : Code} {l : Nat}
theorem IS_run {r : Code} {fr : Ob} (hfr : FrOk bs fr) (hf : findLabel c l = some rest) {a : Act} {w : World} {ρ : Rho} (h : r.wp P (fun e a' w' => ∃ st' ρ', Run P sz bs (.scp l (fun s => WpS P sz bs c rest k s Q) :: k) e st' Q ∧ SatS fr sz a' w' ρ' st' ∧ EvoB bs w ρ (ovl (obL st.ob) fr) w' ρ' (ovl (obL st'.ob) fr)) a w) :
    IS P c r (fun e a' w' => ∃ st' ρ', Run P sz bs k e st' Q ∧ SatS fr sz a' w' ρ' st' ∧ EvoB bs w ρ (ovl (obL st.ob) fr) w' ρ' (ovl (obL st'.ob) fr)) a w := by
  refine IS_of hf (wp_mono h fun e a2 w2 ⟨st2, ρ2, q, s, e2⟩ => ?_)
  cases e with
  | goto j =>
    obtain ⟨hj, st3, hw3, hJ3⟩ := q
    obtain ⟨ρ3, hs3, he3⟩ := hw3 fr hfr a2 w2 ρ2 s
    refine ⟨hj, IS_mono (hJ3 fr hfr a2 w2 ρ3 hs3) fun e a3 w3 ⟨st4, ρ4, q4, s4, e4⟩ => ⟨st4, ρ4, q4, s4, e2.trans (he3.trans e4)⟩⟩
  | normal => exact ⟨st2, ρ2, q, s, e2⟩
  | exit id => exact ⟨st2, ρ2, q, s, e2⟩
  | ret => exact ⟨st2, ρ2, by rw [Run_ret] at q ⊢; exact q, s, e2⟩
  | panic ch => exact ⟨st2, ρ2, q, s, e2⟩
  | outgrown => exact ⟨st2, ρ2, q, s, e2⟩
theorem Wp_scopeS (hf : findLabel c l = some rest) (h : Wp P sz bs (.code c :: .scp l (fun s => WpS P sz bs c rest k s Q) :: k) st Q) : Wp P sz bs (.code (.scope c) :: k) st Q :=
  fun fr hfr a w ρ hs => wp_scope_IS (IS_run hfr hf (h fr hfr a w ρ hs))
theorem Run_scp_mono {J J' : St → Prop} (hJ : ∀ s, J s → J' s) {e : Exit} {st : St} (h : Run P sz bs (.scp l J :: k) e st Q) : Run P sz bs (.scp l J' :: k) e st Q := by
  cases e with
  | goto j => obtain ⟨hj, st', h1, h2⟩ := h; exact ⟨hj, st', h1, hJ _ h2⟩
  | normal => exact h
  | exit id => exact h
  | ret => rw [Run_ret] at h ⊢; exact h
  | panic ch => exact h
  | outgrown => exact h
theorem Wp_scp_mono {J J' : St → Prop} (hJ : ∀ s, J s → J' s) {c : Code} {st : St} (h : Wp P sz bs (.code c :: .scp l J :: k) st Q) : Wp P sz bs (.code c :: .scp l J' :: k) st Q := by
  refine WC_mono h fun e st' q => ?_
  cases e with
  | normal => exact Run_scp_mono (e := .normal) hJ q
  | ret => rw [Run_ret] at q ⊢; exact q
  | _ => exact Run_scp_mono hJ q
theorem Wp_skipc {c : Code} {st : St} (h : Wp P sz bs (.code c :: k) st Q) : Wp P sz bs (.code (.seq .skip c) :: k) st Q := Wp_seq (Wp_skip h)
theorem WpS_G {x : Code} (hf : findLabel c l = some (.seq .skip x)) (G : Nat → St → Prop) (pass : ∀ n s, G n s → Wp P sz bs (.code x :: .scp l (fun s => ∃ m, m < n ∧ G m s) :: k) s Q) : ∀ n s, G n s → WpS P sz bs c (.seq .skip x) k s Q := by
  intro n
  induction n using Nat.strongRecOn with
  | _ n ih =>
    intro s hG fr hfr a w ρ hs
    exact IS_run hfr hf ((Wp_skipc (Wp_scp_mono (fun s' ⟨m, hm, hg⟩ => ih m hm s' hg) (pass n s hG))) fr hfr a w ρ hs)
theorem Wp_labelS {x : Code} (G : Nat → St → Prop) (n0 : Nat) (st0 : St) (hf : findLabel c l = some (.seq .skip x)) (hw : Wk sz bs st st0) (h0 : G n0 st0) (pass : ∀ n s, G n s → Wp P sz bs (.code x :: .scp l (fun s => ∃ m, m < n ∧ G m s) :: k) s Q) :
    Wp P sz bs (.code (.seq (.label l) x) :: .scp l (fun s => WpS P sz bs c (.seq .skip x) k s Q) :: k) st Q :=
  Wp_seq (Wp_label (Wp_weaken hw (Wp_scp_mono (fun s' ⟨m, _, hg⟩ => WpS_G hf G pass m s' hg) (pass n0 st0 h0))))
def gotoK (l : Nat) : List It → Option (St → Prop)
  | [] => none
  | .scp j J :: _ => bif j == l then some J else none
  | .blk _ :: k => gotoK l k
  | .code _ :: k => gotoK l k
  | .ops .. :: k => gotoK l k
  | .lp .. :: k => gotoK l k
  | .cut _ :: k => gotoK l k
theorem gotoK_run {J : St → Prop} (hJ : ∃ st', Wk sz bs st st' ∧ J st') : ∀ {k : List It}, gotoK l k = some J → Run P sz bs k (.goto l) st Q
  | [], h => by cases h
  | .scp j J' :: k, h => by
    simp only [gotoK] at h
    cases hj : j == l with
    | true =>
      simp only [hj, cond_true, Option.some.injEq] at h; subst h
      exact ⟨(beq_iff_eq.1 hj).symm, hJ⟩
    | false => simp [hj] at h
  | .blk _ :: k, h => gotoK_run (k := k) hJ h
  | .code _ :: k, h => gotoK_run (k := k) hJ h
  | .ops .. :: k, h => gotoK_run (k := k) hJ h
  | .lp .. :: k, h => gotoK_run (k := k) hJ h
  | .cut _ :: k, h => gotoK_run (k := k) hJ h
theorem Wp_goto {J : St → Prop} (st' : St) (hk : gotoK l k = some J) (hw : Wk sz bs st st') (hJ : J st') : Wp P sz bs (.code (.goto l) :: k) st Q :=
  fun fr hfr a w ρ hs => wp_goto ⟨st, ρ, gotoK_run ⟨st', hw, hJ⟩ hk, hs, EvoB.refl bs w ρ _⟩
theorem Wp_seq1 {a c : Code} (J : St → Prop) (h : Wp P sz bs (.code a :: .cut J :: .code c :: k) st Q) (hJ : ∀ st', J st' → Wp P sz bs (.code c :: k) st' Q) : Wp P sz bs (.code (.seq a c) :: k) st Q :=
  Wp_seq (Wp_cut J h hJ)
theorem W_scope {T : Tab} {n : Nat} : W P T sz bs (n + 1) (.code (.scope c) :: k) st Q = Wp P sz bs (.code (.scope c) :: k) st Q := rfl
theorem W_goto {T : Tab} {n : Nat} : W P T sz bs (n + 1) (.code (.goto l) :: k) st Q = Wp P sz bs (.code (.goto l) :: k) st Q := rfl
theorem W_scp {T : Tab} {n : Nat} {J : St → Prop} : W P T sz bs (n + 1) (.scp l J :: k) st Q = W P T sz bs n k st Q := rfl
attribute [go_sem] W_scope W_goto W_scp
end
end Go.V
