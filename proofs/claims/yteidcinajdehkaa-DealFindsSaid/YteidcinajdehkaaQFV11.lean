/-
  THE ENGINE, PART 11: a region that draws its order does what its text says, if no two operations that no edge orders touch the same thing.
-/
import Derived.Test.YteidcinajdehkaaQFV10
set_option linter.unusedSimpArgs false
set_option linter.unusedVariables false
namespace Go.V
theorem envF_false : ∀ (rows : List Row) (k : Nat) (e : Nat → D), envF (fun _ => false) k rows e = e
  | [], _, _ => rfl
  | _ :: rows, k, e => by simp only [envF]; exact envF_false rows (k + 1) e
theorem obF_false : ∀ (rows : List Row) (k : Nat) (e : Ob), obF (fun _ => false) k rows e = e
  | [], _, _ => rfl
  | _ :: rows, k, e => by simp only [obF]; exact obF_false rows (k + 1) e
theorem envF_none (X : Nat → Bool) (s : Nat) (rows : List Row) (k : Nat) (e : Nat → D) (h : ∀ (j : Nat) r, rows[j]? = some r → X (k + j) = true → r.dst ≠ some s) : envF X k rows e s = e s := by
  have := envF_agree X (fun _ => false) s rows k e e rfl (fun j r hr hne => h j r hr (by simpa using hne))
  rw [this, envF_false]
theorem obF_none (X : Nat → Bool) (s : Nat) (rows : List Row) (k : Nat) (e : Ob) (h : ∀ (j : Nat) r, rows[j]? = some r → X (k + j) = true → s ∉ r.writes) : obF X k rows e s = e s := by
  have := obF_agree X (fun _ => false) s rows k e e rfl (fun j r hr hne => h j r hr (by simpa using hne))
  rw [this, obF_false]
theorem envF_last (X : Nat → Bool) (s i : Nat) (r : Row) (hx : X i = true) (hd : r.dst = some s) : ∀ (rows : List Row) (k : Nat) (e : Nat → D), k ≤ i → rows[i - k]? = some r →
    (∀ (j : Nat) q, rows[j]? = some q → i < k + j → X (k + j) = true → q.dst ≠ some s) → envF X k rows e s = r.d
  | [], k, e, _, hr, _ => by simp at hr
  | q :: rows, k, e, hk, hr, hl => by
    simp only [envF]
    by_cases he : k = i
    · subst he
      simp only [Nat.sub_self, List.getElem?_cons_zero, Option.some.injEq] at hr
      subst hr
      rw [envF_none X s rows (k + 1) _ (fun j p hp hxj => hl (j + 1) p (by simpa using hp) (by omega) (by rwa [show k + (j + 1) = k + 1 + j by omega]))]
      simp [hx, hd, setE]
    · refine envF_last X s i r hx hd rows (k + 1) _ (by omega) ?_ (fun j p hp hi hxj => hl (j + 1) p (by simpa using hp) (by omega) (by rwa [show k + (j + 1) = k + 1 + j by omega]))
      rw [show i - k = (i - (k + 1)) + 1 by omega] at hr
      simpa using hr
theorem obF_last (X : Nat → Bool) (s i : Nat) (r : Row) (hx : X i = true) (hd : s ∈ r.writes) (b : Ob) : ∀ (rows : List Row) (k : Nat) (e : Ob), k ≤ i → rows[i - k]? = some r →
    (∀ (j : Nat) q, rows[j]? = some q → i < k + j → X (k + j) = true → s ∉ q.writes) → obF X k rows e s = upd b r.wr s
  | [], k, e, _, hr, _ => by simp at hr
  | q :: rows, k, e, hk, hr, hl => by
    simp only [obF]
    by_cases he : k = i
    · subst he
      simp only [Nat.sub_self, List.getElem?_cons_zero, Option.some.injEq] at hr
      subst hr
      rw [obF_none X s rows (k + 1) _ (fun j p hp hxj => hl (j + 1) p (by simpa using hp) (by omega) (by rwa [show k + (j + 1) = k + 1 + j by omega]))]
      simp only [hx, if_true]
      exact upd_congr _ _ _ _ (.inl hd)
    · refine obF_last X s i r hx hd b rows (k + 1) _ (by omega) ?_ (fun j p hp hi hxj => hl (j + 1) p (by simpa using hp) (by omega) (by rwa [show k + (j + 1) = k + 1 + j by omega]))
      rw [show i - k = (i - (k + 1)) + 1 by omega] at hr
      simpa using hr
structure Apart (a b : Row) : Prop where
  ab : ∀ s, a.dst = some s → s ∉ b.slots ∧ b.dst ≠ some s
  ba : ∀ s, b.dst = some s → s ∉ a.slots
  w1 : ∀ i, i ∈ a.writes → i ∉ b.reads ∧ i ∉ b.writes
  w2 : ∀ i, i ∈ b.writes → i ∉ a.reads
def edge (ops : Array Oper) (j i : Nat) : Bool := ((ops[j]?).map fun o => o.after.any fun e => Region.binds .any e && e.on == i).getD false
def edgeT (ops : Array Oper) : Nat → Nat → Nat → Bool
  | 0, j, i => edge ops j i
  | n + 1, j, i => edge ops j i || (match ops[j]? with | some o => o.after.toList.any fun e => Region.binds .any e && edgeT ops n e.on i | none => false)
theorem edgeT_down {ops : Array Oper} {X : Nat → Bool} (down : ∀ j, X j = true → ∀ i, edge ops j i = true → X i = true) : ∀ (n j i : Nat), (∀ k, edge ops j k = true → X k = true) → edgeT ops n j i = true → X i = true
  | 0, j, i, hj, h => hj i h
  | n + 1, j, i, hj, h => by
    simp only [edgeT, Bool.or_eq_true] at h
    rcases h with h | h
    · exact hj i h
    · split at h
      · rename_i o ho
        obtain ⟨e, he, h2⟩ := List.any_eq_true.1 h
        simp only [Bool.and_eq_true] at h2
        have hx : X e.on = true := hj e.on (by
          simp only [edge, ho, Option.map_some, Option.getD_some, Array.any_eq_true]
          obtain ⟨q, hq, hqe⟩ := List.mem_iff_getElem.1 he
          refine ⟨q, by simpa using hq, ?_⟩
          have e' : o.after[q]'(by simpa using hq) = e := by simpa using hqe
          rw [e']; simp [h2.1])
        exact edgeT_down down n e.on i (fun k hk => down _ hx k hk) h2.2
      · cases h
section drawn
variable {P : Program} {sz : Nat} {ops : Array Oper} {Q : Exit → Act → World → Prop} {rows : List Row} {env0 : Nat → D} {ob0 : Ob} {nx : Nat} {ex : Nat → Prop} {w0 : World} {ρ0 : Rho}
structure Inv (sz : Nat) (ops : Array Oper) (rows : List Row) (env0 : Nat → D) (ob0 : Ob) (nx : Nat) (ex : Nat → Prop) (w0 : World) (ρ0 : Rho) (X : Nat → Bool) (a : Act) (w : World) (ρ : Rho) : Prop where
  sat : Sat sz a w ρ (envF X 0 rows env0) (obF X 0 rows ob0) nx (fun q => ex q ∨ ∃ (j : Nat) (r : Row), X j = true ∧ rows[j]? = some r ∧ q ∈ r.al)
  evo : Evo w0 ρ0 ob0 w ρ (obF X 0 rows ob0)
  down : ∀ j, X j = true → ∀ i, edge ops j i = true → X i = true
theorem inv_step (hrow : ∀ (i : Nat) o r, ops[i]? = some o → rows[i]? = some r → RowOk P sz ops o r)
    (htext : ∀ (i : Nat) r, rows[i]? = some r → (∀ x ∈ r.rs, envF (fun j => decide (j < i)) 0 rows env0 x.1 = x.2) ∧ (∀ x ∈ r.ro, obF (fun j => decide (j < i)) 0 rows ob0 x.1 = some x.2) ∧ ∀ q ∈ r.al, nx ≤ q ∧ ¬ ex q)
    (hconf : ∀ (i j : Nat) ri rj, rows[i]? = some ri → rows[j]? = some rj → i < j → edgeT ops 6 j i = true ∨ Apart ri rj)
    (hal : ∀ (i j : Nat) ri rj, rows[i]? = some ri → rows[j]? = some rj → i ≠ j → ∀ q ∈ ri.al, q ∉ rj.al)
    {X : Nat → Bool} {a : Act} {w : World} {ρ : Rho} (h : Inv sz ops rows env0 ob0 nx ex w0 ρ0 X a w ρ) {i : Nat} {o : Oper} {r : Row} (ho : ops[i]? = some o) (hr : rows[i]? = some r) (hxi : X i = false) (hdeps : ∀ k, edge ops i k = true → X k = true)
    {K : Act → World → Prop} (hK : ∀ a' w' ρ', Inv sz ops rows env0 ob0 nx ex w0 ρ0 (fun j => X j || j == i) a' w' ρ' → K a' w') : wpOp P ops Q i K a w := by
  unfold wpOp
  rw [ho]
  obtain ⟨hdst, hrd, hex⟩ := hrow i o r ho hr
  obtain ⟨t1, t2, t3⟩ := htext i r hr
  -- rows whose being executed differs from the text's order are apart from row i
  have hap : ∀ (j : Nat) q, rows[j]? = some q → X j ≠ decide (j < i) → j ≠ i → (j < i ∧ Apart q r) ∨ (i < j ∧ Apart r q) := by
    intro j q hq hne hji
    rcases Nat.lt_or_gt_of_ne hji with hlt | hgt
    · refine .inl ⟨hlt, (hconf j i q r hq hr hlt).resolve_left fun he => ?_⟩
      have := edgeT_down h.down 6 i j hdeps he
      simp [this, hlt] at hne
    · refine .inr ⟨hgt, (hconf i j r q hr hq hgt).resolve_left fun he => ?_⟩
      have hxj : X j = true := by
        have : decide (j < i) = false := by simp; omega
        rw [this] at hne; simpa using hne
      rw [edgeT_down h.down 6 j i (fun k hk => h.down j hxj k hk) he] at hxi; cases hxi
  have hwr : ∀ (j : Nat) q, rows[j]? = some q → i < j → X j = true → Apart r q := by
    intro j q hq hj hxj
    refine (hconf i j r q hr hq hj).resolve_left fun he => ?_
    rw [edgeT_down h.down 6 j i (fun k hk => h.down j hxj k hk) he] at hxi; cases hxi
  refine hex a w ρ _ h.sat.defers h.sat.size h.sat.rep (fun x hx => ?_) (fun x hx => ?_) (fun q hq => ?_) _ _ (fun v w' ρ' a1 a2 a3 a4 => hK _ _ ρ' ?_)
  · have e : envF X 0 rows env0 x.1 = envF (fun j => decide (j < i)) 0 rows env0 x.1 := by
      refine envF_agree _ _ _ _ _ _ _ rfl fun j q hq hne hdq => ?_
      simp only [Nat.zero_add] at hne
      by_cases hji : j = i
      · subst hji; simp [hxi] at hne
      · rcases hap j q hq hne hji with ⟨_, ha⟩ | ⟨_, ha⟩
        · exact (ha.ab _ hdq).1 (List.mem_map.2 ⟨x, hx, rfl⟩)
        · exact ha.ba _ hdq (List.mem_map.2 ⟨x, hx, rfl⟩)
    have := h.sat.env x.1
    rw [e, t1 x hx] at this
    exact this
  · have e : obF X 0 rows ob0 x.1 = obF (fun j => decide (j < i)) 0 rows ob0 x.1 := by
      refine obF_agree _ _ _ _ _ _ _ rfl fun j q hq hne hdq => ?_
      simp only [Nat.zero_add] at hne
      by_cases hji : j = i
      · subst hji; simp [hxi] at hne
      · rcases hap j q hq hne hji with ⟨_, ha⟩ | ⟨_, ha⟩
        · exact (ha.w1 _ hdq).1 (List.mem_map.2 ⟨x, hx, rfl⟩)
        · exact ha.w2 _ hdq (List.mem_map.2 ⟨x, hx, rfl⟩)
    rw [e]; exact t2 x hx
  · refine h.sat.fr q (t3 q hq).1 ?_
    rintro (hq2 | ⟨j, rj, hxj, hrj, hqj⟩)
    · exact (t3 q hq).2 hq2
    · have hji : i ≠ j := fun e => by subst e; rw [hxj] at hxi; cases hxi
      exact hal i j r rj hr hrj hji q hq hqj
  · have eX : ∀ j, j ≠ i → (X j || j == i) = X j := by intro j hj; simp [hj]
    have eOb : obF (fun j => X j || j == i) 0 rows ob0 = upd (obF X 0 rows ob0) r.wr := by
      funext s
      by_cases hs : s ∈ r.writes
      · rw [obF_last (fun j => X j || j == i) s i r (by simp) hs (obF X 0 rows ob0) rows 0 ob0 (Nat.zero_le _) (by simpa using hr) (fun j q hq hij hxj hsq => ?_)]
        simp only [Nat.zero_add] at hij hxj
        have := hwr j q hq hij (by simpa [show j ≠ i by omega] using hxj)
        exact (this.w1 s hs).2 hsq
      · rw [upd_ne _ _ _ hs]
        refine obF_agree _ _ _ _ _ _ _ rfl fun j q hq hne => ?_
        simp only [Nat.zero_add] at hne
        by_cases hji : j = i
        · subst hji; rw [hr] at hq; cases hq; exact hs
        · rw [eX j hji] at hne; exact absurd rfl hne
    have eEnv : envF (fun j => X j || j == i) 0 rows env0 = setE (envF X 0 rows env0) o.dst r.d := by
      funext s
      rw [← hrd]
      by_cases hs : r.dst = some s
      · rw [envF_last (fun j => X j || j == i) s i r (by simp) hs rows 0 env0 (Nat.zero_le _) (by simpa using hr) (fun j q hq hij hxj hsq => ?_)]
        · simp [hs, setE]
        · simp only [Nat.zero_add] at hij hxj
          have := hwr j q hq hij (by simpa [show j ≠ i by omega] using hxj)
          exact (this.ab s hs).2 hsq
      · rw [setE_ne _ _ _ _ hs]
        refine envF_agree _ _ _ _ _ _ _ rfl fun j q hq hne => ?_
        simp only [Nat.zero_add] at hne
        by_cases hji : j = i
        · subst hji; rw [hr] at hq; cases hq; exact hs
        · rw [eX j hji] at hne; exact absurd rfl hne
    refine ⟨?_, ?_, ?_⟩
    · rw [eOb, eEnv]
      have hs := h.sat.row (dst := o.dst) hdst a1 a2 a3 a4
      refine ⟨hs.defers, hs.size, hs.rep, hs.env, fun q hq hn => hs.fr q hq ?_⟩
      rintro ((hq2 | ⟨j, rj, hxj, hrj, hqj⟩) | hq2)
      · exact hn (.inl hq2)
      · exact hn (.inr ⟨j, rj, by simp [hxj], hrj, hqj⟩)
      · exact hn (.inr ⟨i, r, by simp, hr, hq2⟩)
    · rw [eOb]; exact h.evo.trans a3
    · intro j hj k hk
      by_cases hji : j = i
      · subst hji; simp [hdeps k hk]
      · rw [eX j hji] at hj; simp [h.down j hj k hk]
end drawn
end Go.V
