/-
  THE ENGINE, PART 10: abstract states; a region of operations, in the order of its text or in whatever order its edges let.
-/
import Derived.Test.YteidcinajdehkaaQFV9
import Derived.Tactics
import Derived.Deep.LoopGhost
set_option linter.unusedSimpArgs false
set_option linter.unusedVariables false
namespace Go.V
abbrev Env := List (Nat × D)
def lk : Env → Nat → D
  | [], _ => .dead
  | (a, d) :: e, s => bif a == s then d else lk e s
def lkT : Env → Env → Nat → D
  | [], env, s => lk env s
  | (a, d) :: tm, env, s => bif a == s then d else lkT tm env s
def setv : Env → Nat → D → Env
  | [], _, _ => []
  | (a, x) :: e, s, d => bif a == s then (a, d) :: e else (a, x) :: setv e s d
def flush : Env → Env → Env
  | [], env => env
  | (a, d) :: tm, env => setv (flush tm env) a d
theorem lk_setv : ∀ (env : Env) (a s : Nat) (d : D), lk (setv env a d) s = lk env s ∨ (a = s ∧ lk (setv env a d) s = d)
  | [], _, _, _ => .inl rfl
  | (b, x) :: e, a, s, d => by
    simp only [setv]
    cases hb : b == a with
    | true =>
      have := beq_iff_eq.1 hb; subst this
      simp only [cond_true, lk]
      cases hs : b == s with
      | true => exact .inr ⟨beq_iff_eq.1 hs, by simp⟩
      | false => exact .inl (by simp)
    | false =>
      simp only [cond_false, lk]
      cases hs : b == s with
      | true => exact .inl (by simp)
      | false => simpa using lk_setv e a s d
theorem lk_setv_ne (env : Env) (a s : Nat) (d : D) (h : a ≠ s) : lk (setv env a d) s = lk env s :=
  (lk_setv env a s d).resolve_right fun x => h x.1
theorem lk_setv_self : ∀ (env : Env) (a : Nat) (d : D), lk (setv env a d) a = d ∨ (lk (setv env a d) a = .dead)
  | [], _, _ => .inr rfl
  | (b, x) :: e, a, d => by
    simp only [setv]
    cases hb : b == a with
    | true => simp only [cond_true, lk, hb]; exact .inl trivial
    | false => simp only [cond_false, lk, hb]; exact lk_setv_self e a d
theorem lk_flush : ∀ (tm env : Env) (s : Nat), lk (flush tm env) s = lkT tm env s ∨ lk (flush tm env) s = .dead
  | [], env, s => .inl rfl
  | (a, d) :: tm, env, s => by
    simp only [flush, lkT]
    cases hs : a == s with
    | true =>
      have := beq_iff_eq.1 hs; subst this
      simpa using lk_setv_self (flush tm env) a d
    | false =>
      rw [lk_setv_ne _ _ _ _ (by simpa using hs)]
      simpa using lk_flush tm env s
abbrev Obs := List (Nat × AObj)
def obL : Obs → Ob
  | [], _ => none
  | (a, o) :: l, i => bif a == i then some o else obL l i
def setO : Obs → Nat → AObj → Obs
  | [], i, o => [(i, o)]
  | (a, x) :: l, i, o => bif a == i then (a, o) :: l else (a, x) :: setO l i o
def delO : Obs → Nat → Obs
  | [], _ => []
  | (a, x) :: l, i => bif a == i then delO l i else (a, x) :: delO l i
def applyW (ob : Obs) : List (Nat × Option AObj) → Obs
  | [] => ob
  | (i, some o) :: l => setO (applyW ob l) i o
  | (i, none) :: l => delO (applyW ob l) i
theorem obL_setO : ∀ (l : Obs) (i : Nat) (o : AObj) (j : Nat), obL (setO l i o) j = if j = i then some o else obL l j
  | [], i, o, j => by
    simp only [setO, obL]
    cases h : i == j with
    | true => have := beq_iff_eq.1 h; subst this; simp
    | false => have : j ≠ i := fun e => by simp [e] at h
               simp [this]
  | (a, x) :: l, i, o, j => by
    simp only [setO]
    cases h : a == i with
    | true =>
      have := beq_iff_eq.1 h; subst this
      simp only [cond_true, obL]
      cases h2 : a == j with
      | true => have := beq_iff_eq.1 h2; subst this; simp
      | false => have : j ≠ a := fun e => by simp [e] at h2
                 simp [this]
    | false =>
      simp only [cond_false, obL, obL_setO l i o j]
      cases h2 : a == j with
      | true => have := beq_iff_eq.1 h2; subst this; have : a ≠ i := by simpa using h
                simp [this]
      | false => simp
theorem obL_delO : ∀ (l : Obs) (i j : Nat), obL (delO l i) j = if j = i then none else obL l j
  | [], i, j => by simp [delO, obL]
  | (a, x) :: l, i, j => by
    simp only [delO]
    cases h : a == i with
    | true =>
      have := beq_iff_eq.1 h; subst this
      simp only [cond_true, obL, obL_delO l a j]
      by_cases hj : j = a
      · simp [hj]
      · have : (a == j) = false := by simpa using fun e => hj e.symm
        simp [hj, this]
    | false =>
      simp only [cond_false, obL, obL_delO l i j]
      cases h2 : a == j with
      | true => have := beq_iff_eq.1 h2; subst this; have : a ≠ i := by simpa using h
                simp [this]
      | false => simp
theorem obL_applyW (ob : Obs) : ∀ (l : List (Nat × Option AObj)), obL (applyW ob l) = upd (obL ob) l
  | [] => rfl
  | (i, some o) :: l => by funext j; simp only [applyW, obL_setO, upd, obL_applyW ob l]
  | (i, none) :: l => by funext j; simp only [applyW, obL_delO, upd, obL_applyW ob l]
structure St where
  tm : Env
  env : Env
  ob : Obs
  nx : Nat
  ex : List Nat
def St.get (st : St) (s : Nat) : D := lkT st.tm st.env s
structure Sat (sz : Nat) (a : Act) (w : World) (ρ : Rho) (env : Nat → D) (ob : Ob) (nx : Nat) (ex : Nat → Prop) : Prop where
  defers : a.defers = []
  size : a.tmps.size = sz
  rep : Rep w ρ ob
  env : ∀ s, RD w (Own ρ ob) ρ (a.tmps.getD s undef) (env s)
  fr : ∀ i, nx ≤ i → ¬ ex i → ρ i = none
structure Row where
  dst : Option Tmp
  d : D
  rs : List (Nat × D)
  ro : List (Nat × AObj)
  wr : List (Nat × Option AObj)
  al : List Nat
def RowOk (P : Program) (sz : Nat) (ops : Array Oper) (o : Oper) (r : Row) : Prop :=
  (∀ t, o.dst = some t → t < sz) ∧ r.dst = o.dst ∧
  ∀ a w ρ ob, a.defers = [] → a.tmps.size = sz → Rep w ρ ob → (∀ x ∈ r.rs, RD w (Own ρ ob) ρ (a.tmps.getD x.1 undef) x.2) → (∀ x ∈ r.ro, ob x.1 = some x.2) → (∀ i ∈ r.al, ρ i = none) →
  ∀ K Q, (∀ v w' ρ', RD w' (Own ρ' (upd ob r.wr)) ρ' v r.d → Rep w' ρ' (upd ob r.wr) → Evo w ρ ob w' ρ' (upd ob r.wr) → (∀ i, i ∉ r.al → ρ' i = ρ i) → K (a.put o.dst v) w') →
    (if Region.wanted o (yielded ops a.tmps) then o.wp P a w K Q ∨ (o.asks P a w ∧ LetsOut Q) else K (a.put o.dst undef) w)
def setE (env : Nat → D) (dst : Option Tmp) (d : D) : Nat → D :=
  match dst with
  | some t => fun s => if s = t then d else env s
  | none => env
theorem put_getD (a : Act) (t s : Nat) (v : Value) (h : t < a.tmps.size) : (a.put (some t) v).tmps.getD s undef = if s = t then v else a.tmps.getD s undef := by
  simp only [Act.put, Array.getD_eq_getD_getElem?, Array.getElem?_setIfInBounds]
  by_cases hs : t = s
  · subst hs; simp [h]
  · have : s ≠ t := fun e => hs e.symm
    simp [hs, this]
theorem put_size (a : Act) (dst : Option Tmp) (v : Value) : (a.put dst v).tmps.size = a.tmps.size := by
  cases dst <;> simp [Act.put]
theorem put_defers (a : Act) (dst : Option Tmp) (v : Value) : (a.put dst v).defers = a.defers := by
  cases dst <;> rfl
theorem Sat.row {sz : Nat} {a : Act} {w w' : World} {ρ ρ' : Rho} {env : Nat → D} {ob ob' : Ob} {nx : Nat} {ex : Nat → Prop} {dst : Option Tmp} {v : Value} {d : D} {al : List Nat} (h : Sat sz a w ρ env ob nx ex) (ht : ∀ t, dst = some t → t < sz)
    (hd : RD w' (Own ρ' ob') ρ' v d) (hrep : Rep w' ρ' ob') (hevo : Evo w ρ ob w' ρ' ob') (hal : ∀ i, i ∉ al → ρ' i = ρ i) : Sat sz (a.put dst v) w' ρ' (setE env dst d) ob' nx (fun i => ex i ∨ i ∈ al) where
  defers := (put_defers a dst v).trans h.defers
  size := (put_size a dst v).trans h.size
  rep := hrep
  env := fun s => by
    cases dst with
    | none => exact (h.env s).evo hevo
    | some t =>
      rw [put_getD a t s v (by rw [h.size]; exact ht t rfl)]
      simp only [setE]
      by_cases hs : s = t
      · simp only [hs, if_true]; exact hd
      · simp only [hs, if_false]; exact (h.env s).evo hevo
  fr := fun i hi hn => by
    rw [hal i (fun hm => hn (.inr hm))]
    exact h.fr i hi (fun hm => hn (.inl hm))
def envF (X : Nat → Bool) : Nat → List Row → (Nat → D) → (Nat → D)
  | _, [], env => env
  | k, r :: rs, env => envF X (k + 1) rs (if X k then setE env r.dst r.d else env)
def obF (X : Nat → Bool) : Nat → List Row → Ob → Ob
  | _, [], ob => ob
  | k, r :: rs, ob => obF X (k + 1) rs (if X k then upd ob r.wr else ob)
def Row.slots (r : Row) : List Nat := r.rs.map (·.1)
def Row.reads (r : Row) : List Nat := r.ro.map (·.1)
def Row.writes (r : Row) : List Nat := r.wr.map (·.1)
theorem setE_ne (env : Nat → D) (dst : Option Tmp) (d : D) (s : Nat) (h : dst ≠ some s) : setE env dst d s = env s := by
  cases dst with
  | none => rfl
  | some t => simp only [setE]; rw [if_neg (fun e => h (by rw [e]))]
theorem upd_ne (ob : Ob) : ∀ (l : List (Nat × Option AObj)) (i : Nat), i ∉ l.map (·.1) → upd ob l i = ob i
  | [], _, _ => rfl
  | (j, o) :: l, i, h => by
    simp only [List.map_cons, List.mem_cons, not_or] at h
    simp only [upd, if_neg h.1, upd_ne ob l i h.2]
theorem upd_congr (ob ob2 : Ob) : ∀ (l : List (Nat × Option AObj)) (i : Nat), (i ∈ l.map (·.1) ∨ ob i = ob2 i) → upd ob l i = upd ob2 l i
  | [], i, h => by simpa [upd] using h
  | (j, o) :: l, i, h => by
    simp only [upd]
    by_cases e : i = j
    · simp [e]
    · simp only [e, if_false]
      exact upd_congr ob ob2 l i (by simpa [e] using h)
theorem envF_agree (X Y : Nat → Bool) (s : Nat) : ∀ (rows : List Row) (k : Nat) (e1 e2 : Nat → D), e1 s = e2 s → (∀ (j : Nat) r, rows[j]? = some r → X (k + j) ≠ Y (k + j) → r.dst ≠ some s) → envF X k rows e1 s = envF Y k rows e2 s
  | [], _, _, _, h, _ => h
  | r :: rows, k, e1, e2, h, hd => by
    simp only [envF]
    refine envF_agree X Y s rows (k + 1) _ _ ?_ (fun j q hq hne => hd (j + 1) q (by simpa using hq) (by rwa [show k + (j + 1) = k + 1 + j by omega]))
    by_cases hx : X k = Y k
    · rw [hx]
      cases Y k with
      | false => simpa using h
      | true =>
        simp only [if_true]
        cases hr : r.dst with
        | none => simpa [setE] using h
        | some t =>
          simp only [setE]
          by_cases hs : s = t
          · simp [hs]
          · simp [hs, h]
    · have hn := hd 0 r (by simp) (by simpa using hx)
      have a1 : (if X k = true then setE e1 r.dst r.d else e1) s = e1 s := by split; exact setE_ne _ _ _ _ hn; rfl
      have a2 : (if Y k = true then setE e2 r.dst r.d else e2) s = e2 s := by split; exact setE_ne _ _ _ _ hn; rfl
      rw [a1, a2, h]
theorem obF_agree (X Y : Nat → Bool) (s : Nat) : ∀ (rows : List Row) (k : Nat) (e1 e2 : Ob), e1 s = e2 s → (∀ (j : Nat) r, rows[j]? = some r → X (k + j) ≠ Y (k + j) → s ∉ r.writes) → obF X k rows e1 s = obF Y k rows e2 s
  | [], _, _, _, h, _ => h
  | r :: rows, k, e1, e2, h, hd => by
    simp only [obF]
    refine obF_agree X Y s rows (k + 1) _ _ ?_ (fun j q hq hne => hd (j + 1) q (by simpa using hq) (by rwa [show k + (j + 1) = k + 1 + j by omega]))
    by_cases hx : X k = Y k
    · rw [hx]
      cases Y k with
      | false => simpa using h
      | true => simp only [if_true]; exact upd_congr _ _ _ _ (.inr h)
    · have hn := hd 0 r (by simp) (by simpa using hx)
      have a1 : (if X k = true then upd e1 r.wr else e1) s = e1 s := by split; exact upd_ne _ _ _ hn; rfl
      have a2 : (if Y k = true then upd e2 r.wr else e2) s = e2 s := by split; exact upd_ne _ _ _ hn; rfl
      rw [a1, a2, h]
end Go.V
