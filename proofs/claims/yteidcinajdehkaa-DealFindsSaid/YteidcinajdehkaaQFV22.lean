/-
  THE ENGINE, PART 22: helpers for whoever proves a function.
-/
import Derived.Test.YteidcinajdehkaaQFV21
set_option linter.unusedSimpArgs false
set_option linter.unusedVariables false
namespace Go.V
def leE : Env → Env → Prop
  | [], _ => True
  | (a, d) :: e', e => (d = .dead ∨ lk e a = d) ∧ leE e' e
theorem leE_lk : ∀ {e' e : Env} (s : Nat), leE e' e → lk e' s = .dead ∨ lk e' s = lk e s
  | [], _, _, _ => .inl rfl
  | (a, d) :: e', e, s, h => by
    obtain ⟨h1, h2⟩ := h
    simp only [lk]
    cases ha : a == s with
    | true =>
      have := beq_iff_eq.1 ha; subst this
      rcases h1 with h1 | h1
      · exact .inl h1
      · exact .inr h1.symm
    | false => exact leE_lk s h2
theorem Wk_env {sz bs nx nx' : Nat} {e e' : Env} {ob : Obs} (h : leE e' e) (hn : nx ≤ nx') : Wk sz bs ⟨[], e, ob, nx, []⟩ ⟨[], e', ob, nx', []⟩ := by
  intro fr hfr a w ρ hs
  refine ⟨ρ, ⟨hs.defers, hs.size, hs.rep, fun s => ?_, fun i hi hn2 => hs.fr i (Nat.le_trans hn hi) (fun hx => hn2 (hx.elim (fun h => nomatch h) .inr))⟩, EvoB.refl bs w ρ _⟩
  show RD w _ ρ _ (lk e' s)
  rcases leE_lk s h with h1 | h1
  · rw [h1]; exact .dead _
  · rw [h1]; exact hs.env s
def St.int (st : St) (s : Nat) : Int := match st.get s with | .v (.int _ n) => n | _ => 0
theorem int_mk {tm env : Env} {ob : Obs} {nx s : Nat} {ex : List Nat} : St.int ⟨tm, env, ob, nx, ex⟩ s = match lkT tm env s with | .v (.int _ n) => n | _ => 0 := rfl
theorem wrap64 {n : Int} (h1 : -9223372036854775808 ≤ n) (h2 : n ≤ 9223372036854775807) : IntKind.i64.wrap n = n := by
  simp only [IntKind.wrap, IntKind.signed, IntKind.bits]
  simp
  omega
theorem gp_drop {l : List PV} {k i : Nat} : gp (l.drop k) i = gp l (k + i) := by
  simp [gp, List.getD, List.getElem?_drop]
def pureE : Env → Bool
  | [] => true
  | (_, .v _) :: e => pureE e
  | (_, .dead) :: e => pureE e
  | _ => false
theorem pureE_lk : ∀ {e : Env} (s : Nat), pureE e = true → lk e s = .dead ∨ ∃ p, lk e s = .v p
  | [], _, _ => .inl rfl
  | (a, d) :: e, s, h => by
    simp only [lk]
    cases ha : a == s with
    | true =>
      cases d with
      | dead => exact .inl rfl
      | v p => exact .inr ⟨p, rfl⟩
      | _ => simp [pureE] at h
    | false =>
      refine pureE_lk s ?_
      cases d with
      | dead => exact h
      | v p => exact h
      | _ => simp [pureE] at h
theorem Wk_clear {sz bs nx : Nat} {e e' : Env} {ob : Obs} (h : leE e' e) (hp : pureE e' = true) (hb : bs ≤ nx) (hn : nx ≤ 1000000000) (hk : (keysOf ob).all (fun i => decide (i < 1000000000)) = true) : Wk sz bs ⟨[], e, ob, nx, []⟩ ⟨[], e', [], nx, []⟩ := by
  refine Wk_ren (fun i => i) (fun _ _ => rfl) hb hn (fun t => ?_) (fun i o ho => by cases ho) (fun i j o o' ho => by cases ho) (fun i o ho => by cases ho) (fun i o ho => ?_)
  · show lk e' t = .dead ∨ _ ∧ lk e t = _
    rcases leE_lk t h with h1 | h1
    · exact .inl h1
    · rcases pureE_lk t hp with h2 | ⟨p, h2⟩
      · exact .inl h2
      · right
        show idsD _ (lk e' t) = true ∧ lk e t = ren allL _ (lk e' t)
        rw [← h1, h2]; exact ⟨rfl, rfl⟩
  · have hm := keysOf_obL (l := ob) (i := i) (by rw [ho]; simp)
    simpa using List.all_eq_true.1 hk i hm
theorem fin {T : Tab} {sz bs nx : Nat} {e : Env} {ob : Obs} {rs : List ResultVar} {Qr : D → Obs → Prop} (e' : Env) (h : leE e' e) (hp : pureE e' = true) (hb : bs ≤ nx) (hn : nx ≤ 1000000000) (hk : (keysOf ob).all (fun i => decide (i < 1000000000)) = true)
    (hr : resQ T ⟨[], e', [], nx, []⟩ rs (fun ds => Qr (retD ds) [])) : FinQ T sz bs rs Qr ⟨[], e, ob, nx, []⟩ :=
  ⟨_, Wk_clear h hp hb hn hk, hr⟩
theorem fz_mk {tm env : Env} {ob : Obs} {nx id : Nat} {ex : List Nat} {cs : List PV} : St.fz ⟨tm, env, ob, nx, ex⟩ id cs = ⟨fzEnv id cs tm, fzEnv id cs env, fzObs id cs ob, nx, ex⟩ := rfl
theorem guardS_lit1 {s : Nat} : guardS true s (.v (.bool true)) = .run [s] := rfl
theorem guardS_lit2 {s : Nat} : guardS true s (.v (.bool false)) = .skip [s] := rfl
theorem guardS_lit3 {s : Nat} : guardS false s (.v (.bool false)) = .run [s] := rfl
theorem guardS_lit5 {want : Bool} {s : Nat} : guardS want s (.v (.tup [])) = .skip [s] := rfl
theorem guardS_lit4 {s : Nat} : guardS false s (.v (.bool true)) = .skip [s] := rfl
theorem gp_zero {p : PV} {l : List PV} : gp (p :: l) 0 = p := rfl
theorem gp_succ {p : PV} {l : List PV} {n : Nat} : gp (p :: l) (n + 1) = gp l n := by simp [gp]
theorem gd_zero {p : D} {l : List D} : gd (p :: l) 0 = p := rfl
theorem gd_succ {p : D} {l : List D} {n : Nat} : gd (p :: l) (n + 1) = gd l n := by simp [gd]
theorem resQ_tmp {T : Tab} {st : St} {t : Nat} {l : List ResultVar} {K : List D → Prop} : resQ T st (.tmp t :: l) K = resQ T st l fun ds => K (st.get t :: ds) := rfl
theorem resQ_nil {T : Tab} {st : St} {K : List D → Prop} : resQ T st [] K = K [] := rfl
theorem retD_one {d : D} : retD [d] = d := rfl
theorem retD_two {p q : PV} : retD [.v p, .v q] = .v (.tup [p, q]) := rfl
theorem retD_three {p q r : PV} : retD [.v p, .v q, .v r] = .v (.tup [p, q, r]) := rfl
theorem retD_none : retD [] = .v (.tup []) := rfl
end Go.V
