/-
  WeekTurned: the law returns true.
-/
import Derived.Test.YtcaecfofgdogbaaDoorZWhall
import Derived.Test.YtcaecfofgdogbaaDoorZWpB
import Derived.Test.YtcaecfofgdogbaaDoorZV32
import Derived.Test.YtcaecfofgdogbaaDoorRows
import Derived.Test.YtcaecfofgdogbaaDoorCards
import Derived.Test.YtcaecfofgdogbaaDoorTie
import Derived.Test.YtcaecfofgdogbaaDoorZV31
import Derived.WalkKit
import Derived.ProofKit
import Derived.OpenShut
import Derived.Lay
import Derived.SevenTiedAt
import Derived.MakeChecks
set_option linter.unusedSimpArgs false
set_option linter.unusedVariables false
namespace Go.Proofs.YtcaecfofgdogbaaDoor
open Go.V
set_option linter.unusedSectionVars false
def cc (D : List Nat) (s : Nat) : Nat := (D.filter fun M => M.testBit s).length
theorem cc_cons (M : Nat) (D : List Nat) (s : Nat) : cc (M :: D) s = (if M.testBit s then 1 else 0) + cc D s := by
  unfold cc
  rw [List.filter_cons]
  split <;> simp <;> omega
theorem okC_ok (M : Nat) : ∀ (l : List Nat) (s0 : Nat), (∀ j, j < l.length → M.testBit (s0 + j) = true → gn l j ≠ 0) → okC M s0 l = true
  | [], _, _ => rfl
  | c :: l, s0, h => by
    have h0 := h 0 (by simp)
    have ih := okC_ok M l (s0 + 1) fun j hj ht => by
      have := h (j + 1) (by simpa using hj) (by rw [show s0 + (j + 1) = s0 + 1 + j by omega]; exact ht)
      simpa [gn] using this
    rw [okC, ih, Bool.and_true]
    cases hb : M.testBit s0 with
    | false => rfl
    | true =>
      have := h0 (by simpa using hb)
      simp [gn] at this
      simp [this]
theorem sbC_len (M : Nat) : ∀ (l : List Nat) (s0 : Nat), (sbC M s0 l).length = l.length
  | [], _ => rfl
  | c :: l, s0 => by rw [sbC, List.length_cons, sbC_len M l, List.length_cons]
theorem sbC_get (M : Nat) : ∀ (l : List Nat) (s0 j : Nat), j < l.length → gn (sbC M s0 l) j = if M.testBit (s0 + j) then gn l j - 1 else gn l j
  | [], _, j, h => by simp at h
  | c :: l, s0, 0, _ => by
    rw [sbC]
    show (bif M.testBit s0 then c - 1 else c) = if M.testBit s0 = true then c - 1 else c
    cases M.testBit s0 <;> rfl
  | c :: l, s0, j + 1, h => by
    have ih := sbC_get M l (s0 + 1) j (by simpa using h)
    rw [sbC, show s0 + (j + 1) = s0 + 1 + j by omega]
    simpa [gn] using ih
theorem hall_sound (n k : Nat) : ∀ (d : Nat) (cols acc rest : List Nat), rest.length = d → (∀ M ∈ rest, M ∈ subs n k) → (∀ s, s < cols.length → gn cols s = cc rest s) → hallB n k d cols acc = true → fac (n - k) ≤ prm n (acc ++ rest) 0
  | 0, cols, acc, rest, hr, _, hc, hh => by
    have : rest = [] := List.eq_nil_of_length_eq_zero hr
    subst this
    rw [hallB] at hh
    have hz : cols.all (· == 0) = true := by
      rw [List.all_eq_true]
      intro c hcm
      obtain ⟨j, hj, rfl⟩ := List.getElem_of_mem hcm
      have := hc j hj
      simp [gn, cc, List.getD, hj] at this
      simp [this]
    rw [hz, Bool.not_true, Bool.false_or, Nat.ble_eq] at hh
    simpa using hh
  | d + 1, cols, acc, [], hr, _, _, _ => by simp at hr
  | d + 1, cols, acc, M :: rest, hr, hs, hc, hh => by
    rw [hallB, List.all_eq_true] at hh
    have h1 := hh M (hs M (.head _))
    have h2 : okC M 0 cols = true := okC_ok M cols 0 fun j hj ht => by
      rw [Nat.zero_add] at ht
      rw [hc j hj, cc_cons, if_pos ht]; omega
    rw [h2, Bool.not_true, Bool.false_or] at h1
    have := hall_sound n k d (sbC M 0 cols) (acc ++ [M]) rest (by simpa using hr) (fun M' h => hs M' (.tail _ h)) (fun s h => by
      rw [sbC_len] at h
      rw [sbC_get M cols 0 s h, Nat.zero_add, hc s h, cc_cons]
      split <;> omega) h1
    rwa [List.append_assoc, List.singleton_append] at this
theorem hall_all {n k : Nat} (hn : n ≤ 5) (hk : k < n) : hallB n k n (List.replicate n k) [] = true := by
  rcases (show n = 1 ∨ n = 2 ∨ n = 3 ∨ n = 4 ∨ n = 5 by omega) with rfl | rfl | rfl | rfl | rfl
  · obtain rfl : k = 0 := by omega
    exact hall1_0
  · rcases (show k = 0 ∨ k = 1 by omega) with rfl | rfl
    · exact hall2_0
    · exact hall2_1
  · rcases (show k = 0 ∨ k = 1 ∨ k = 2 by omega) with rfl | rfl | rfl
    · exact hall3_0
    · exact hall3_1
    · exact hall3_2
  · rcases (show k = 0 ∨ k = 1 ∨ k = 2 ∨ k = 3 by omega) with rfl | rfl | rfl | rfl
    · exact hall4_0
    · exact hall4_1
    · exact hall4_2
    · exact hall4_3
  · rcases (show k = 0 ∨ k = 1 ∨ k = 2 ∨ k = 3 ∨ k = 4 by omega) with rfl | rfl | rfl | rfl | rfl
    · exact hall5_0
    · exact hall5_1
    · exact hall5_2
    · exact hall5_3
    · exact hall5_4
def stp (D x : List Nat) : List Nat := List.zipWith (fun M s => M ||| 2 ^ s) D x
inductive Vp (n : Nat) : List (List Nat) → List Nat → Prop
  | nil : Vp n [] (List.replicate n 0)
  | snoc (X : List (List Nat)) (D x : List Nat) (h : Vp n X D) (hx : x ∈ ext n n []) (hf : fitB (X.map nL) x n 0 = true) : Vp n (X ++ [x]) (stp D x)
theorem pc_or : ∀ M : Nat, M < 32 → ∀ s : Nat, s < 5 → M.testBit s = false → pc (M ||| 2 ^ s) = pc M + 1 := by decide +kernel
theorem or_ltn : ∀ n : Nat, n < 6 → ∀ M : Nat, M < 2 ^ n → ∀ s : Nat, s < n → M ||| 2 ^ s < 2 ^ n := by decide +kernel
theorem subs_mem : ∀ n : Nat, n < 6 → 1 ≤ n → ∀ M : Nat, M < 2 ^ n → M ∈ subs n (pc M) := by decide +kernel
theorem pow_lt : ∀ n : Nat, n < 6 → 2 ^ n ≤ 32 := by decide
theorem ext_cnt : ∀ n : Nat, n < 6 → ∀ x ∈ ext n n [], ∀ s : Nat, s < n → x.count s = 1 := by decide +kernel
theorem gn_stp {D x : List Nat} {d : Nat} (h1 : d < D.length) (h2 : d < x.length) : gn (stp D x) d = gn D d ||| 2 ^ gn x d := by
  simp [gn, stp, List.getD, List.getElem?_zipWith, h1, h2]
theorem cc_stp (s : Nat) (hs : s < 5) : ∀ (D x : List Nat), D.length = x.length → (∀ d, d < D.length → gn D d < 32 ∧ gn x d < 5 ∧ (gn D d).testBit (gn x d) = false) → cc (stp D x) s = cc D s + x.count s
  | [], [], _, _ => rfl
  | [], _ :: _, h, _ => by simp at h
  | _ :: _, [], h, _ => by simp at h
  | M :: D, t :: x, h, hd => by
    have h0 := hd 0 (by simp)
    simp only [gn, List.getD_cons_zero] at h0
    have ih := cc_stp s hs D x (by simpa using h) fun d hd' => by
      have := hd (d + 1) (by simpa using hd')
      simpa [gn] using this
    show cc ((M ||| 2 ^ t) :: stp D x) s = _
    rw [cc_cons, cc_cons, ih, tst_or M h0.1 t h0.2.1 s hs, List.count_cons]
    by_cases e : s = t
    · subst e
      rw [h0.2.2]
      simp; omega
    · have : (t == s) = false := by simpa using fun h => e h.symm
      rw [this, decide_eq_false e]
      simp; omega
theorem metB_app (P : List (List Int)) (r : List Int) (d : Nat) (s : Int) : metB (P ++ [r]) d s = (metB P d s || (decide (d < r.length) && (en r d == s))) := by
  simp [metB, List.any_append]
theorem fitB_get {P : List (List Int)} {x : List Nat} : ∀ {f d : Nat}, fitB P x f d = true → ∀ j, d ≤ j → j < d + f → metB P j (gn x j : Nat) = false
  | 0, d, _, j, h1, h2 => by omega
  | f + 1, d, h, j, h1, h2 => by
    rw [fitB, Bool.and_eq_true, Bool.not_eq_true'] at h
    by_cases e : j = d
    · subst e; exact h.1
    · exact fitB_get h.2 j (by omega) (by omega)
structure Vd (n : Nat) (X : List (List Nat)) (D : List Nat) : Prop where
  len : D.length = n
  lt : ∀ d, d < n → gn D d < 2 ^ n
  pc : ∀ d, d < n → pc (gn D d) = X.length
  cc : ∀ s, s < n → cc D s = X.length
  met : ∀ d s, d < n → s < 5 → (gn D d).testBit s = metB (X.map nL) d (s : Nat)
theorem gn_mem {l : List Nat} {d : Nat} (h : d < l.length) : gn l d ∈ l := by simp [gn, List.getD, h]
theorem Vp.vd {n : Nat} (hn : n ≤ 5) {X : List (List Nat)} {D : List Nat} (h : Vp n X D) : Vd n X D := by
  induction h with
  | nil =>
    have hz : ∀ d, gn (List.replicate n 0) d = 0 := fun d => by simp [gn, List.getD, List.getElem?_replicate]; split <;> rfl
    refine ⟨by simp, fun d _ => by rw [hz]; exact Nat.two_pow_pos n, fun d _ => by rw [hz]; decide, fun s _ => ?_, fun d s _ _ => by rw [hz]; simp [metB]⟩
    simp [Go.Proofs.YtcaecfofgdogbaaDoor.cc]
  | snoc X D x h hx hf ih =>
    obtain ⟨e1, _⟩ := ext_get hx
    have hxl : x.length = n := by simpa using e1
    have hlt := ext_lt (n := n) (by simp) hx
    have h2 := pow_lt n (by omega)
    have hnot : ∀ d, d < n → (gn D d).testBit (gn x d) = false := fun d hd => by
      have := hlt _ (gn_mem (l := x) (d := d) (by omega))
      rw [ih.met d _ hd (by omega)]
      exact fitB_get hf d (by omega) (by omega)
    have hg : ∀ d, d < n → gn (stp D x) d = gn D d ||| 2 ^ gn x d := fun d hd => gn_stp (by rw [ih.len]; exact hd) (by omega)
    have hx5 : ∀ d, d < n → gn x d < n := fun d hd => hlt _ (gn_mem (by omega))
    refine ⟨by simp [stp, ih.len, hxl], fun d hd => ?_, fun d hd => ?_, fun s hs => ?_, fun d s hd hs => ?_⟩
    · rw [hg d hd]; exact or_ltn n (by omega) _ (ih.lt d hd) _ (hx5 d hd)
    · have := ih.lt d hd
      have := hx5 d hd
      rw [hg d hd, pc_or _ (by omega) _ (by omega) (hnot d hd), ih.pc d hd]; simp
    · rw [cc_stp s (by omega) D x (by rw [ih.len, hxl]) fun d hd => by
        rw [ih.len] at hd
        have := ih.lt d hd
        have := hx5 d hd
        exact ⟨by omega, by omega, hnot d hd⟩, ih.cc s hs, ext_cnt n (by omega) x hx s hs]
      simp
    · have := ih.lt d hd
      have hx' := hx5 d hd
      rw [hg d hd, tst_or _ (by omega) _ (by omega) s hs, ih.met d s hd hs, List.map_append, List.map_singleton, metB_app, nL_len, decide_eq_true (show d < x.length by omega), Bool.true_and, nL_en (by omega)]
      congr 1
      rw [Bool.eq_iff_iff, decide_eq_true_eq, beq_iff_eq]
      constructor
      · intro h; omega
      · intro h; omega
theorem sum_len {α β : Type} {g : α → List β} : ∀ L : List α, (L.flatMap g).length = (L.map fun x => (g x).length).sum
  | [] => rfl
  | x :: L => by rw [List.flatMap_cons, List.length_append, List.map_cons, List.sum_cons, sum_len L]
theorem prm_ok (n : Nat) (hn : n ≤ 5) (X : List (List Nat)) (D : List Nat) (hD : Vd n X D) : ∀ (f : Nat) (l : List Nat) (u : Nat), l.length + f = n → u < 32 → (∀ s ∈ l, s < n) → (∀ s, s < 5 → u.testBit s = decide (s ∈ l)) →
    ((ext n f l).filter fun x => fitB (X.map nL) x f l.length).length = prm n (D.drop l.length) u
  | 0, l, u, hl, _, _, _ => by
    rw [List.drop_eq_nil_of_le (by rw [hD.len]; omega)]
    simp [ext, fitB, prm]
  | f + 1, l, u, hl, hu, hs, hb => by
    have hd : l.length < n := by omega
    have ed : D.drop l.length = gn D l.length :: D.drop (l.length + 1) := by
      rw [List.drop_eq_getElem_cons (by rw [hD.len]; exact hd)]
      simp [gn, List.getD, hD.len, hd]
    have h2 := pow_lt n (by omega)
    have hM := hD.lt l.length hd
    rw [ext, filter_fm, sum_len, ed, prm]
    congr 1
    refine List.map_congr_left fun s hs' => ?_
    have hsn := List.mem_range.1 hs'
    rw [Nat.testBit_or, hb s (by omega), hD.met l.length s hd (by omega)]
    by_cases g : s ∈ l
    · rw [if_pos g, decide_eq_true g, Bool.or_true]; rfl
    · rw [if_neg g, decide_eq_false g, Bool.or_false]
      have hx : ∀ x ∈ ext n f (l ++ [s]), gn x l.length = s := fun x hx => by
        rw [(ext_get hx).2 l.length (by simp), gn_app2]
      have hq : (ext n f (l ++ [s])).filter (fun x => fitB (X.map nL) x (f + 1) l.length) = (ext n f (l ++ [s])).filter (fun x => !metB (X.map nL) l.length (s : Nat) && fitB (X.map nL) x f (l.length + 1)) := filter_congr' fun x h => by
        show (!metB (X.map nL) l.length (gn x l.length : Nat) && _) = _
        rw [hx x h]
      rw [hq]
      cases metB (X.map nL) l.length (s : Nat) with
      | true => simp
      | false =>
        have hl1 : (l ++ [s]).length = l.length + 1 := by simp
        have ih := prm_ok n hn X D hD f (l ++ [s]) (u ||| 2 ^ s) (by omega) (or_lt u hu s (by omega)) (fun t ht => by
          rcases List.mem_append.1 ht with ht | ht
          · exact hs t ht
          · obtain rfl := List.mem_singleton.1 ht
            exact hsn) (fun t ht => by
          rw [tst_or u hu s (by omega) t ht, hb t ht, Bool.eq_iff_iff]
          simp)
        rw [hl1] at ih
        simpa using ih
theorem fit_many {n : Nat} (hn : n ≤ 5) {X : List (List Nat)} {D : List Nat} (h : Vp n X D) (hk : X.length < n) : fac (n - X.length) ≤ (fitn n (X.map nL)).length := by
  have hD := h.vd hn
  have e := prm_ok n hn X D hD n [] 0 (by simp) (by omega) (by simp) (fun s _ => by simp)
  rw [show (fitn n (X.map nL)).length = _ from e, List.length_nil, List.drop_zero]
  have := hall_sound n X.length n (List.replicate n X.length) [] D hD.len (fun M hM => by
    obtain ⟨d, hd, rfl⟩ := List.getElem_of_mem hM
    rw [hD.len] at hd
    have e2 : D[d]'(by rw [hD.len]; exact hd) = gn D d := by simp [gn, List.getD, hD.len, hd]
    rw [e2, ← hD.pc d hd]
    exact subs_mem n (by omega) (by omega) _ (hD.lt d hd)) (fun s hs => by
    rw [List.length_replicate] at hs
    rw [hD.cc s hs]
    simp [gn, List.getD, hs]) (hall_all hn hk)
  simpa using this
theorem dayE_zero {n : Int} {P : List (List Int)} {r : List Int} : ∀ {f k : Nat}, dayE n P r f k = 0 → ∀ j, k ≤ j → j < k + f → 0 ≤ en r j ∧ en r j < n ∧ en r j ∉ r.take j ∧ metB P j (en r j) = false
  | 0, k, _, j, h1, h2 => by omega
  | f + 1, k, h, j, h1, h2 => by
    rw [dayE] at h
    split at h
    · cases h
    · rename_i a1
      split at h
      · cases h
      · rename_i a2
        split at h
        · cases h
        · rename_i a3
          split at h
          · cases h
          · rename_i a4
            by_cases e : j = k
            · subst e
              exact ⟨by omega, by omega, a3, by unfold metB; simpa using a4⟩
            · exact dayE_zero h j (by omega) (by omega)
theorem rowE_zero {n : Nat} {w : Int} {L : List (List Int)} : ∀ {f i : Nat}, rowE n w L f i = 0 → ∀ j, i ≤ j → j < i + f → ((ro L j).length : Int) = w ∧ w ≤ n ∧ dayE n (L.take j) (ro L j) (ro L j).length 0 = 0
  | 0, i, _, j, h1, h2 => by omega
  | f + 1, i, h, j, h1, h2 => by
    rw [rowE] at h
    split at h
    · cases h
    · rename_i a1
      split at h
      · cases h
      · rename_i a2
        split at h
        · rename_i a3; exact absurd h a3
        · rename_i a3
          by_cases e : j = i
          · subst e
            exact ⟨by omega, by omega, by omega⟩
          · exact rowE_zero h j (by omega) (by omega)
theorem fitB_mk {P : List (List Int)} {x : List Nat} : ∀ {f d : Nat}, (∀ j, d ≤ j → j < d + f → metB P j (gn x j : Nat) = false) → fitB P x f d = true
  | 0, _, _ => rfl
  | f + 1, d, h => by
    rw [fitB, h d (by omega) (by omega), fitB_mk fun j h1 h2 => h j (by omega) (by omega)]; rfl
theorem chkE_zero {x w : Int} {L : List (List Int)} (h : chkE x w L = 0) : 1 ≤ x ∧ x ≤ 5 ∧ (L.length : Int) ≤ x ∧ rowE x w L L.length 0 = 0 := by
  unfold chkE at h
  split at h
  · cases h
  · split at h
    · cases h
    · split at h
      · cases h
      · exact ⟨by omega, by omega, by omega, h⟩
theorem check_ok (N : Nat) (hN : 2000 ≤ N) (x : Int) (L : List (List Int)) (hL : L.length ≤ 1000) (hr : ∀ r ∈ L, r.length ≤ 1000) : m23 N x (.lst false L.length (rwsP L)) = some (.int .i64 (chkE x x L)) ∧ m24 N x (.lst false L.length (rwsP L)) = some (.int .i64 (chkE x x L)) := by
  obtain ⟨T, e, _⟩ := opened_ok N hN x x L hL hr
  constructor
  · rw [m23, getL_t, e, bnd_t]
    unfold opE
    by_cases h : chkE x x L = 0
    · simp only [if_pos h]; rw [h]
    · simp only [if_neg h]
  · rw [m24, getL_t, checked_ok N hN x x L hL hr, bnd_t, getI_t]
def cntE (x : Int) (L : List (List Int)) : Int × Int := if chkE x x L ≠ 0 then (0, chkE x x L) else if (L.length : Int) = x then (0, 16) else (((fitn x.toNat L).length : Nat), 0)
theorem fitn_le {n : Nat} (hn : n ≤ 5) (L : List (List Int)) : (fitn n L).length ≤ 3125 := by
  have h1 := ext_card (n := n) n []
  have h2 := pow5 (f := n) hn hn
  have h3 := List.length_filter_le (fun l => fitB L l n 0) (ext n n [])
  unfold fitn; omega
theorem row_fit {n : Nat} (hn : n ≤ 5) {L : List (List Int)} (hp : L.length < n) {T : T3} (hT : ∀ r', Rp L L.length r' 0 T) (F : Nat) (hF : n + 2 ≤ F) : (cmpl n (L.length + 1) F L.length 0 T).map (rowOf n L.length) = (fitn n L).map nL :=
  row_cmpl n hn L L.length hp n [] T F (by simp) (by simp) (hT _) (by omega)
theorem row_cnt {n : Nat} (hn : n ≤ 5) {L : List (List Int)} (hp : L.length < n) {T : T3} (hT : ∀ r', Rp L L.length r' 0 T) (F : Nat) (hF : n + 2 ≤ F) : (cmpl n (L.length + 1) F L.length 0 T).length = (fitn n L).length := by
  have := congrArg List.length (row_fit hn hp hT F hF)
  simpa using this
theorem count_ok (N : Nat) (hN : 5000 ≤ N) (x : Int) (L : List (List Int)) (hL : L.length ≤ 1000) (hr : ∀ r ∈ L, r.length ≤ 1000) : m25 N x (.lst false L.length (rwsP L)) = some (.tup [.int .i64 (cntE x L).1, .int .i64 (cntE x L).2]) ∧ m26 N x (.lst false L.length (rwsP L)) = some (.tup [.int .i64 (cntE x L).1, .int .i64 (cntE x L).2]) := by
  obtain ⟨T, e, hT⟩ := opened_ok N (by omega) x x L hL hr
  have hc := (check_ok N (by omega) x L hL hr).2
  constructor
  · rw [m25, getL_t, e, bnd_t]
    unfold opE cntE
    by_cases h : chkE x x L = 0
    · simp only [if_pos h]
      rw [brn_nf rfl, if_neg (show ¬ chkE x x L ≠ 0 by simpa using h)]
      obtain ⟨h1, h2, h3, h4⟩ := chkE_zero h
      by_cases h5 : (L.length : Int) = x
      · rw [brn_et h5, if_pos h5]
      · rw [brn_ef h5, if_neg h5]
        obtain ⟨n, rfl⟩ : ∃ n : Nat, x = (n : Int) := ⟨x.toNat, by omega⟩
        rw [toNatN]
        have hT' := hT h
        have fl := fitn_le (n := n) (by omega) L
        have rc := row_cnt (n := n) (by omega) (by omega) hT' 100 (by omega)
        have c := cnt_ok N n (L.length + 1) L.length (by omega) (by omega) (by omega) 100 N L.length 0 0 T (hT' []).tv (by omega) (by rw [Nat.add_sub_cancel_left]; omega) (by omega) (by omega) (by omega)
        rw [rc, Nat.zero_add] at c
        rw [m64_2, m114, bnd_t, getT2_t, getI_t, getI_t, wrapN (by omega)]
        rw [show m88_2 N N (L.length : Int) 0 ((L.length + 1 : Nat) : Int) (L.length : Int) 0 (tP n T) = _ from c, bnd_t]
        show bnd' (getB (.bool false) _) _ = _
        rw [getB_t, bnd_t]
        show getT0 (.tup []) _ = _
        rw [getT0_t, m69, bnd_t, getI_t]
    · simp only [if_neg h]
      rw [brn_nt h, if_pos h]
  · rw [m26, getL_t, m66, getL_t, hc, bnd_t, getI_t]
    unfold cntE
    by_cases h : chkE x x L = 0
    · rw [brn_et h, if_neg (show ¬ chkE x x L ≠ 0 by simpa using h)]
      obtain ⟨h1, h2, h3, h4⟩ := chkE_zero h
      by_cases h5 : (L.length : Int) = x
      · rw [brn_et h5, if_pos h5, bnd_t, getI_t, brn_nt (by decide)]
      · rw [brn_ef h5, if_neg h5, bnd_t, getI_t, brn_nf h]
        obtain ⟨n, rfl⟩ : ∃ n : Nat, x = (n : Int) := ⟨x.toNat, by omega⟩
        rw [fitting_ok N n hN (by omega) L hL, bnd_t, getL_t, toNatN]
    · rw [brn_ef h, if_pos h, bnd_t, getI_t, brn_nt h]
def trF (r : List Int) : Nat → Nat → List Int → List Int
  | 0, _, a => a
  | f + 1, k, a => trF r f (k + 1) (a.set (en r k).toNat (k : Int))
def trR (n : Nat) (r : List Int) : List Int := trF r n 0 (List.replicate n 0)
def trnE (x : Int) (L : List (List Int)) : List (List Int) × Int := if chkE x x L ≠ 0 then ([], chkE x x L) else (L.map (trR x.toNat), 0)
theorem trF_len {r : List Int} : ∀ {f k : Nat} {a : List Int}, (trF r f k a).length = a.length
  | 0, _, _ => rfl
  | f + 1, k, a => by rw [trF, trF_len, List.length_set]
theorem trn_L1 (N n : Nat) (hn : n ≤ 5) (L : List (List Int)) (i : Nat) (hi : i < L.length) (hlen : (ro L i).length = n) (hv : ∀ k, k < n → 0 ≤ en (ro L i) k ∧ en (ro L i) k < n) (a b : Nat) (y : Int) (c : List PV) : ∀ (f k fuel : Nat) (A : List Int), n - k = f → f < fuel → k ≤ n → A.length = n →
    m27_L1 N (n : Int) L.length (rwsP L) a y c n (iL (ro L i)) fuel (k : Int) (iL A) = some (iL (trF (ro L i) f k A)) ∧ m28_L1 N (n : Int) L.length (rwsP L) b (i : Int) c fuel (k : Int) (iL A) = some (iL (trF (ro L i) f k A))
  | f, k, 0, _, _, h, _, _ => by omega
  | 0, k, fuel + 1, A, hf, _, hk, _ => by
    rw [m27_L1, m28_L1, brn_df (by omega), brn_df (by omega)]; exact ⟨rfl, rfl⟩
  | f + 1, k, fuel + 1, A, hf, hfu, hk, hA => by
    have v := hv k (by omega)
    obtain ⟨s, hs⟩ : ∃ s : Nat, en (ro L i) k = (s : Int) := ⟨(en (ro L i) k).toNat, by omega⟩
    have ih := trn_L1 N n hn L i hi hlen hv a b y c f (k + 1) fuel (A.set s (k : Int)) (by omega) (by omega) (by omega) (by rw [List.length_set]; exact hA)
    rw [m27_L1, m28_L1, brn_dt (by omega), brn_dt (by omega), trF, hs, toNatN]
    constructor
    · rw [grd_t ⟨by omega, by omega⟩, toNatN, grd_t (by rw [List.length_drop, iL_len]; omega), iL_gp (by omega), getI_t, hs, toNatN, grd_t ⟨by omega, by omega⟩, grd_t (by rw [iL_len]; omega), wrapN (by omega), iL_set]
      exact ih.1
    · rw [grd_t ⟨by omega, by omega⟩, toNatN, grd_t (by rw [List.length_drop, rws_len]; omega), rws_gp hi, getL_t, grd_t ⟨by omega, by omega⟩, toNatN, grd_t (by rw [List.length_drop, iL_len]; omega), iL_gp (by omega), getI_t, hs, toNatN, grd_t ⟨by omega, by omega⟩, grd_t (by rw [iL_len]; omega), wrapN (by omega), iL_set]
      exact ih.2
theorem trn_L0 (N n : Nat) (hN : 5000 ≤ N) (hn : n ≤ 5) (L : List (List Int)) (hL : L.length ≤ 1000) (hv : ∀ i, i < L.length → (ro L i).length = n ∧ ∀ k, k < n → 0 ≤ en (ro L i) k ∧ en (ro L i) k < n) : ∀ (f i fuel : Nat), L.length - i = f → f < fuel → i ≤ L.length →
    m27_L0 N (n : Int) L.length (rwsP L) fuel i (i : Int) (rwsP ((L.take i).map (trR n))) = some (L.length, rwsP (L.map (trR n))) ∧ m28_L0 N (n : Int) L.length (rwsP L) fuel i (i : Int) (rwsP ((L.take i).map (trR n))) = some (L.length, rwsP (L.map (trR n)))
  | f, i, 0, _, h, _ => by omega
  | 0, i, fuel + 1, hf, _, hi => by
    have : i = L.length := by omega
    subst this
    rw [m27_L0, m28_L0, brn_df (by omega), brn_df (by omega), List.take_length]; exact ⟨rfl, rfl⟩
  | f + 1, i, fuel + 1, hf, hfu, hi => by
    have h1 : i < L.length := by omega
    obtain ⟨v1, v2⟩ := hv i h1
    have ih := trn_L0 N n hN hn L hL hv f (i + 1) fuel (by omega) (by omega) (by omega)
    have z : List.replicate n (PV.int .i64 0) = iL (List.replicate n 0) := by simp [iL]
    have lt : (trR n (ro L i)).length = n := by unfold trR; rw [trF_len]; simp
    have e2 : rwsP ((L.take i).map (trR n)) ++ [rwP (trR n (ro L i))] = rwsP ((L.take (i + 1)).map (trR n)) := by
      rw [rws_app, take_ro h1, List.map_append]; rfl
    have e3 : PV.lst false n (iL (trR n (ro L i))) = rwP (trR n (ro L i)) := by unfold rwP; rw [lt]
    have t := trn_L1 N n hn L i h1 v1 v2 i i (i : Int) (rwsP ((L.take i).map (trR n))) n 0 N (List.replicate n 0) (by omega) (by omega) (by omega) (by simp)
    have lr : (rwsP ((L.take i).map (trR n))).length = i := by rw [rws_len, List.length_map, List.length_take]; omega
    rw [m27_L0, m28_L0, brn_dt (by omega), brn_dt (by omega)]
    constructor
    · rw [grd_t ⟨by omega, by omega⟩, toNatN, grd_t (by rw [List.length_drop, rws_len]; omega), rws_gp h1, getL_t, grd_t ⟨by omega, by omega, by omega⟩, toNatN, v1, z]
      rw [show m27_L1 N (n : Int) L.length (rwsP L) i (i : Int) (rwsP ((L.take i).map (trR n))) n (iL (ro L i)) N 0 (iL (List.replicate n 0)) = _ from t.1, bnd_t, grd_t (by omega), grd_t lr, grd_t (by rw [iL_len]; exact lt), wrapN (by omega)]
      rw [show PV.lst false n (iL (trF (ro L i) n 0 (List.replicate n 0))) = rwP (trR n (ro L i)) from e3, e2]
      exact ih.1
    · rw [grd_t ⟨by omega, by omega, by omega⟩, toNatN, z]
      rw [show m28_L1 N (n : Int) L.length (rwsP L) i (i : Int) (rwsP ((L.take i).map (trR n))) N 0 (iL (List.replicate n 0)) = _ from t.2, bnd_t, grd_t (by omega), grd_t lr, grd_t (by rw [iL_len]; exact lt), wrapN (by omega)]
      rw [show PV.lst false n (iL (trF (ro L i) n 0 (List.replicate n 0))) = rwP (trR n (ro L i)) from e3, e2]
      exact ih.2
theorem turned_ok (N : Nat) (hN : 5000 ≤ N) (x : Int) (L : List (List Int)) (hL : L.length ≤ 1000) (hr : ∀ r ∈ L, r.length ≤ 1000) : m27 N x (.lst false L.length (rwsP L)) = some (.tup [.lst false (trnE x L).1.length (rwsP (trnE x L).1), .int .i64 (trnE x L).2]) ∧ m28 N x (.lst false L.length (rwsP L)) = some (.tup [.lst false (trnE x L).1.length (rwsP (trnE x L).1), .int .i64 (trnE x L).2]) := by
  obtain ⟨c1, c2⟩ := check_ok N (by omega) x L hL hr
  rw [m27, m28, getL_t, getL_t, c1, c2, bnd_t, bnd_t, getI_t, getI_t]
  unfold trnE
  by_cases h : chkE x x L = 0
  · obtain ⟨h1, h2, h3, h4⟩ := chkE_zero h
    obtain ⟨n, rfl⟩ : ∃ n : Nat, x = (n : Int) := ⟨x.toNat, by omega⟩
    have hv : ∀ i, i < L.length → (ro L i).length = n ∧ ∀ k, k < n → 0 ≤ en (ro L i) k ∧ en (ro L i) k < n := fun i hi => by
      obtain ⟨a1, a2, a3⟩ := rowE_zero h4 i (by omega) (by omega)
      refine ⟨by omega, fun k hk => ?_⟩
      have := dayE_zero a3 k (by omega) (by omega)
      exact ⟨this.1, this.2.1⟩
    obtain ⟨t1, t2⟩ := trn_L0 N n hN (by omega) L hL hv L.length 0 N (by omega) (by omega) (by omega)
    rw [brn_nf h, brn_nf h, if_neg (show ¬ chkE n n L ≠ 0 by simpa using h), toNatN]
    constructor
    · rw [show m27_L0 N (n : Int) L.length (rwsP L) N 0 0 [] = _ from t1, bnd_t]
      show grd _ _ = _
      rw [grd_t (by rw [rws_len]; simp)]
      simp
    · rw [show m28_L0 N (n : Int) L.length (rwsP L) N 0 0 [] = _ from t2, bnd_t]
      show grd _ _ = _
      rw [grd_t (by rw [rws_len]; simp)]
      simp
  · rw [brn_nt h, brn_nt h, if_pos h]; exact ⟨rfl, rfl⟩
def fl (n : Nat) (P : List (List Int)) (f : Nat) (l : List Nat) : List (List Nat) := (ext n f l).filter fun x => fitB P x f l.length
def fitG (n : Nat) (P : List (List Int)) (f : Nat) (l : List Nat) (s : Nat) : List (List Nat) := if (decide (s ∈ l) || metB P l.length (s : Nat)) = true then [] else fl n P f (l ++ [s])
theorem fl_step (n : Nat) (P : List (List Int)) (f : Nat) (l : List Nat) : fl n P (f + 1) l = (List.range n).flatMap (fitG n P f l) := by
  unfold fl
  rw [ext, filter_fm]
  refine fm_congr fun s _ => ?_
  unfold fitG fl
  by_cases g : s ∈ l
  · rw [if_pos g, decide_eq_true g, Bool.true_or, if_pos rfl]; rfl
  · rw [if_neg g, decide_eq_false g, Bool.false_or]
    have hx : ∀ x ∈ ext n f (l ++ [s]), gn x l.length = s := fun x hx => by
      rw [(ext_get hx).2 l.length (by simp), gn_app2]
    have hq : (ext n f (l ++ [s])).filter (fun x => fitB P x (f + 1) l.length) = (ext n f (l ++ [s])).filter (fun x => !metB P l.length (s : Nat) && fitB P x f (l.length + 1)) := filter_congr' fun x h => by
      show (!metB P l.length (gn x l.length : Nat) && _) = _
      rw [hx x h]
    rw [hq]
    cases metB P l.length (s : Nat) with
    | true => simp
    | false => simp
theorem idx_L (N : Nat) (s : Int) (X : List Int) (hX : X.length ≤ 1000) : ∀ (f i fuel : Nat), X.length - i = f → f < fuel → ∃ o, m86_L0 N s X.length (iL X) fuel (i : Int) = some o ∧ (s ∈ X.drop i → ∃ j : Nat, o = .inl (.int .i64 (j : Int))) ∧ (s ∉ X.drop i → o = .inr ())
  | f, i, 0, _, h => by omega
  | f, i, fuel + 1, hf, hfu => by
    rw [m86_L0]
    by_cases h : i < X.length
    · obtain ⟨o, o1, o2, o3⟩ := idx_L N s X hX (f - 1) (i + 1) fuel (by omega) (by omega)
      rw [brn_dt (by omega), grd_t ⟨by omega, by omega⟩, toNatN, grd_t (by rw [List.length_drop, iL_len]; omega), iL_gp h, getI_t, drop_en h]
      by_cases e : s = en X i
      · rw [brn_et e]
        exact ⟨_, rfl, fun _ => ⟨i, rfl⟩, fun g => absurd (by rw [← e]; exact .head _) g⟩
      · rw [brn_ef e, wrapN (by omega)]
        refine ⟨o, o1, fun g => o2 ?_, fun g => o3 fun g2 => g (.tail _ g2)⟩
        rcases List.mem_cons.1 g with g | g
        · exact absurd g e
        · exact g
    · rw [brn_df (by omega), List.drop_eq_nil_of_le (by omega)]
      exact ⟨_, rfl, fun g => absurd g (by simp), fun _ => rfl⟩
theorem cont_ok (N : Nat) (hN : 2000 ≤ N) (s : Int) (X : List Int) (hX : X.length ≤ 1000) : m57 N (rwP X) s = some (.bool (decide (s ∈ X))) := by
  obtain ⟨o, o1, o2, o3⟩ := idx_L N s X hX X.length 0 N (by omega) (by omega)
  rw [List.drop_zero] at o2 o3
  unfold rwP
  rw [m57, getL_t, m86, getL_t, show m86_L0 N s X.length (iL X) N 0 = _ from o1, bnd_t]
  by_cases h : s ∈ X
  · obtain ⟨j, rfl⟩ := o2 h
    show bnd' (some (PV.int .i64 (j : Int))) _ = _
    rw [bnd_t, getI_t, decide_eq_true h, decide_eq_true (show (j : Int) ≥ 0 by omega)]
  · rw [o3 h, decide_eq_false h]; rfl
theorem nL_mem {s : Nat} {l : List Nat} : decide ((s : Int) ∈ nL l) = decide (s ∈ l) := by
  refine decide_eq_decide.2 ?_
  unfold nL
  rw [List.mem_map]
  constructor
  · rintro ⟨t, ht, e⟩
    have : t = s := by omega
    exact this ▸ ht
  · exact fun h => ⟨s, h, rfl⟩
theorem clash9_L1 (N n : Nat) (hn : n ≤ 5) (P : List (List Int)) (hP : P.length ≤ 1000) (hPn : ∀ q ∈ P, q.length = n) (rec : PV → List PV → Nat → List PV → Nat → List PV → Option (List PV × Nat × Nat × List PV × List PV)) (k : Nat) (hk : k < n) (cl : List PV) (s : Int) (cc oc pc : List PV) (on : Nat) : ∀ (f i fuel : Nat) (b : Bool), P.length - i = f → f < fuel → i ≤ P.length →
    m79_9_L1 N rec k cl (n : Int) s cc on P.length (rwsP P) oc fuel b (i : Int) = some (b || metB (P.drop i) k s)
  | f, i, 0, _, _, h, _ => by omega
  | 0, i, fuel + 1, b, hf, _, hi => by
    rw [m79_9_L1, brn_df (by omega), List.drop_eq_nil_of_le (by omega)]; simp [metB]
  | f + 1, i, fuel + 1, b, hf, hfu, hi => by
    have h1 : i < P.length := by omega
    have hq := hPn _ (ro_mem h1)
    have ih := fun b => clash9_L1 N n hn P hP hPn rec k hk cl s cc oc pc on f (i + 1) fuel b (by omega) (by omega) (by omega)
    have em : metB (P.drop i) k s = ((en (ro P i) k == s) || metB (P.drop (i + 1)) k s) := by
      rw [drop_ro h1]
      unfold metB
      rw [List.any_cons, decide_eq_true (show k < (ro P i).length by omega), Bool.true_and]
    rw [m79_9_L1, brn_dt (by omega), grd_t ⟨by omega, by omega⟩, toNatN, grd_t (by rw [rws_len]; omega), rws_gp h1, getL_t, wrapN (by omega), em]
    cases b with
    | true => rw [brn_t rfl, ih]; simp
    | false =>
      rw [brn_f rfl, grd_t ⟨by omega, by omega⟩, grd_t (by rw [List.length_drop, iL_len]; omega), iL_gp (by omega), getI_t, ih, Bool.false_or]
theorem fit9_L0 (N n : Nat) (hN : 5000 ≤ N) (hn : n ≤ 5) (P : List (List Int)) (hP : P.length ≤ 1000) (hPn : ∀ q ∈ P, q.length = n) (rec : PV → List PV → Nat → List PV → Nat → List PV → Option (List PV × Nat × Nat × List PV × List PV)) (f : Nat) (l : List Nat) (hl : l.length + (f + 1) = n)
    (hrec : ∀ s (A : List (List Nat)), A.length + (fl n P f (l ++ [s])).length ≤ 100000 → rec (rwP (nL (l ++ [s]))) [.int .i64 (n : Int)] A.length (rwsP (A.map nL)) P.length (rwsP P) = some (([.int .i64 (n : Int)], (A ++ fl n P f (l ++ [s])).length, P.length, rwsP P, rwsP ((A ++ fl n P f (l ++ [s])).map nL)))) : ∀ (g s fuel : Nat) (A : List (List Nat)), n - s = g → g < fuel → A.length + ((List.range' s (n - s)).flatMap (fitG n P f l)).length ≤ 100000 →
    m79_9_L0 N rec l.length (iL (nL l)) (n : Int) fuel (s : Int) [.int .i64 (n : Int)] A.length P.length (rwsP P) (rwsP (A.map nL)) = some (([.int .i64 (n : Int)], (A ++ (List.range' s (n - s)).flatMap (fitG n P f l)).length, P.length, rwsP P, rwsP ((A ++ (List.range' s (n - s)).flatMap (fitG n P f l)).map nL)))
  | g, s, 0, _, _, h, _ => by omega
  | g, s, fuel + 1, A, hg, hfu, hA => by
    rw [m79_9_L0]
    by_cases h : s < n
    · have hc := cont_ok N (by omega) (s : Int) (nL l) (by rw [nL_len]; omega)
      unfold rwP at hc
      rw [nL_len, nL_mem] at hc
      rw [range'_step h, List.flatMap_cons, List.length_append] at hA
      rw [brn_dt (by omega), hc, bnd_t, getB_t, show m79_9_L1 N rec l.length (iL (nL l)) (n : Int) (s : Int) [.int .i64 (n : Int)] A.length P.length (rwsP P) (rwsP (A.map nL)) N (decide (s ∈ l)) 0 = _ from clash9_L1 N n hn P hP hPn rec l.length (by omega) (iL (nL l)) (s : Int) [.int .i64 (n : Int)] (rwsP (A.map nL)) [] A.length P.length 0 N (decide (s ∈ l)) (by omega) (by omega) (by omega), List.drop_zero, bnd_t, range'_step h, List.flatMap_cons, wrapN (by omega)]
      by_cases g1 : (decide (s ∈ l) || metB P l.length (s : Nat)) = true
      · have e : fitG n P f l s = [] := by unfold fitG; rw [if_pos g1]
        rw [e] at hA ⊢
        rw [brn_t g1, List.nil_append]
        exact fit9_L0 N n hN hn P hP hPn rec f l hl hrec (g - 1) (s + 1) fuel A (by omega) (by omega) (by simpa using hA)
      · have e : fitG n P f l s = fl n P f (l ++ [s]) := by unfold fitG; rw [if_neg g1]
        rw [e] at hA ⊢
        have ih := fit9_L0 N n hN hn P hP hPn rec f l hl hrec (g - 1) (s + 1) fuel (A ++ fl n P f (l ++ [s])) (by omega) (by omega) (by rw [List.length_append]; omega)
        have hr := hrec s A (by omega)
        have e2 : PV.lst false (l.length + 1) (iL (nL l) ++ [.int .i64 (s : Int)]) = rwP (nL (l ++ [s])) := by
          rw [iL_app, show nL l ++ [(s : Int)] = nL (l ++ [s]) by simp [nL]]
          unfold rwP; rw [nL_len, List.length_append, List.length_singleton]
        rw [List.append_assoc] at ih
        rw [brn_f (by simpa using g1), grd_t ⟨by omega, by omega⟩, grd_t (by rw [iL_len, nL_len]), grd_t (by omega), e2, hr, bnd_t]
        exact ih
    · rw [brn_df (by omega), show n - s = 0 by omega]; simp
theorem fit9_ok (N n : Nat) (hN : 5000 ≤ N) (hn : n ≤ 5) (P : List (List Int)) (hP : P.length ≤ 1000) (hPn : ∀ q ∈ P, q.length = n) : ∀ (f fu : Nat) (l : List Nat) (A : List (List Nat)), l.length + f = n → f < fu → A.length + (fl n P f l).length ≤ 100000 →
    m79_9 N fu (rwP (nL l)) [.int .i64 (n : Int)] A.length (rwsP (A.map nL)) P.length (rwsP P) = some (([.int .i64 (n : Int)], (A ++ fl n P f l).length, P.length, rwsP P, rwsP ((A ++ fl n P f l).map nL)))
  | f, 0, _, _, _, h, _ => by omega
  | 0, fu + 1, l, A, hl, _, hA => by
    have hll := nL_len l
    have e0 : fl n P 0 l = [l] := by simp [fl, ext, fitB]
    rw [e0] at hA ⊢
    rw [m79_9]
    unfold rwP
    rw [getL_t, grd_t (by simp), show gp [PV.int .i64 (n : Int)] 0 = .int .i64 (n : Int) from rfl, getI_t, brn_et (by omega), grd_t (by simp at hA; omega), grd_t (by rw [rws_len]; simp)]
    rw [show rwsP (A.map nL) ++ [PV.lst false (nL l).length (iL (nL l))] = rwsP ((A ++ [l]).map nL) by simp [rwsP, rwP], List.length_append, List.length_singleton]
  | f + 1, fu + 1, l, A, hl, hf, hA => by
    have hll := nL_len l
    have hs := fl_step n P f l
    rw [hs] at hA ⊢
    rw [m79_9]
    unfold rwP
    have e := fit9_L0 N n hN hn P hP hPn (m79_9 N fu) f l hl (fun s A hA => fit9_ok N n hN hn P hP hPn f fu (l ++ [s]) A (by simp; omega) (by omega) hA) n 0 N A (by omega) (by omega) (by rw [Nat.sub_zero, ← List.range_eq_range']; exact hA)
    rw [Nat.sub_zero, ← List.range_eq_range'] at e
    rw [getL_t, grd_t (by simp), show gp [PV.int .i64 (n : Int)] 0 = .int .i64 (n : Int) from rfl, getI_t, brn_ef (by omega), hll]
    rw [show m79_9_L0 N (m79_9 N fu) l.length (iL (nL l)) (n : Int) N 0 [.int .i64 (n : Int)] A.length P.length (rwsP P) (rwsP (A.map nL)) = _ from e, bnd_t]
theorem met_hd {P : List (List Int)} {i n : Nat} (hn1 : 1 ≤ n) (h1 : i < P.length) (hq : (ro P i).length = n) (s : Int) : metB (P.drop i) 0 s = ((en (ro P i) 0 == s) || metB (P.drop (i + 1)) 0 s) := by
  rw [drop_ro h1]
  unfold metB
  rw [List.any_cons, decide_eq_true (show 0 < (ro P i).length by omega), Bool.true_and]
theorem topB_L1 (N n : Nat) (hn1 : 1 ≤ n) (P : List (List Int)) (hP : P.length ≤ 1000) (hPn : ∀ q ∈ P, q.length = n) (s : Int) (c0 c3 : List PV) (a : Nat) : ∀ (f i fuel : Nat) (b : Bool), P.length - i = f → f < fuel → i ≤ P.length →
    m79_7_L1 N (n : Int) s c0 a P.length (rwsP P) c3 fuel b (i : Int) = some (b || metB (P.drop i) 0 s)
  | f, i, 0, _, _, h, _ => by omega
  | 0, i, fuel + 1, b, hf, _, hi => by
    rw [m79_7_L1, brn_df (by omega), List.drop_eq_nil_of_le (by omega)]; simp [metB]
  | f + 1, i, fuel + 1, b, hf, hfu, hi => by
    have h1 : i < P.length := by omega
    have hq := hPn _ (ro_mem h1)
    have ih := fun b => topB_L1 N n hn1 P hP hPn s c0 c3 a f (i + 1) fuel b (by omega) (by omega) (by omega)
    rw [m79_7_L1, brn_dt (by omega), grd_t ⟨by omega, by omega⟩, toNatN, grd_t (by rw [rws_len]; omega), rws_gp h1, getL_t, wrapN (by omega), met_hd hn1 h1 hq]
    cases b with
    | true => rw [brn_t rfl, ih]; simp
    | false =>
      rw [brn_f rfl, grd_t (by omega), grd_t (by rw [iL_len]; omega), iL_gp (by omega), getI_t, ih, Bool.false_or]
theorem topB_L0 (N n : Nat) (hN : 5000 ≤ N) (hn1 : 1 ≤ n) (hn : n ≤ 5) (P : List (List Int)) (hP : P.length ≤ 1000) (hPn : ∀ q ∈ P, q.length = n) : ∀ (g s fuel : Nat) (A : List (List Nat)), n - s = g → g < fuel → A.length + ((List.range' s (n - s)).flatMap (fitG n P (n - 1) [])).length ≤ 100000 →
    m79_7_L0 N (n : Int) fuel (s : Int) [.int .i64 (n : Int)] A.length P.length (rwsP P) (rwsP (A.map nL)) = some ([.int .i64 (n : Int)], (A ++ (List.range' s (n - s)).flatMap (fitG n P (n - 1) [])).length, P.length, rwsP P, rwsP ((A ++ (List.range' s (n - s)).flatMap (fitG n P (n - 1) [])).map nL))
  | g, s, 0, _, _, h, _ => by omega
  | g, s, fuel + 1, A, hg, hfu, hA => by
    rw [m79_7_L0]
    by_cases h : s < n
    · have hc := cont_ok N (by omega) (s : Int) [] (by simp)
      rw [show rwP [] = PV.lst false 0 [] from rfl, decide_eq_false (show ¬ (s : Int) ∈ ([] : List Int) by simp)] at hc
      rw [range'_step h, List.flatMap_cons, List.length_append] at hA
      have hm := topB_L1 N n hn1 P hP hPn (s : Int) [.int .i64 (n : Int)] (rwsP (A.map nL)) A.length P.length 0 N false (by omega) (by omega) (by omega)
      rw [Bool.false_or, List.drop_zero] at hm
      rw [brn_dt (by omega), hc, bnd_t, getB_t, show m79_7_L1 N (n : Int) (s : Int) [.int .i64 (n : Int)] A.length P.length (rwsP P) (rwsP (A.map nL)) N false 0 = _ from hm, bnd_t, wrapN (by omega), range'_step h, List.flatMap_cons]
      by_cases g1 : metB P 0 (s : Nat) = true
      · have e : fitG n P (n - 1) [] s = [] := by unfold fitG; rw [if_pos (by simpa using g1)]
        rw [e] at hA ⊢
        rw [brn_t g1, List.nil_append]
        exact topB_L0 N n hN hn1 hn P hP hPn (g - 1) (s + 1) fuel A (by omega) (by omega) (by simpa using hA)
      · have e : fitG n P (n - 1) [] s = fl n P (n - 1) [s] := by unfold fitG; rw [if_neg (by simpa using g1)]; rfl
        rw [e] at hA ⊢
        have ih := topB_L0 N n hN hn1 hn P hP hPn (g - 1) (s + 1) fuel (A ++ fl n P (n - 1) [s]) (by omega) (by omega) (by rw [List.length_append]; omega)
        have hr := fit9_ok N n hN hn P hP hPn (n - 1) N [s] A (by simp; omega) (by omega) (by omega)
        rw [List.append_assoc] at ih
        rw [brn_f (by simpa using g1), show PV.lst false 1 [PV.int .i64 (s : Int)] = rwP (nL [s]) from rfl, hr, bnd_t]
        exact ih
    · rw [brn_df (by omega), show n - s = 0 by omega]; simp
theorem fl_all {n : Nat} (hn1 : 1 ≤ n) (P : List (List Int)) : (List.range' 0 (n - 0)).flatMap (fitG n P (n - 1) []) = fitn n P := by
  have := fl_step n P (n - 1) []
  rw [Nat.sub_zero, ← List.range_eq_range', ← this, show n - 1 + 1 = n by omega]; rfl
theorem m38_3_ok (N n : Nat) (hN : 5000 ≤ N) (hn1 : 1 ≤ n) (hn : n ≤ 5) (P : List (List Int)) (hP : P.length ≤ 1000) (hPn : ∀ q ∈ P, q.length = n) : m38_3 N (n : Int) P.length (rwsP P) = some (.lst false (fitn n P).length (rwsP ((fitn n P).map nL)), rwsP P) := by
  have h := topB_L0 N n hN hn1 hn P hP hPn n 0 N [] (by omega) (by omega) (by rw [fl_all hn1]; have := fitn_le hn P; simp; omega)
  rw [fl_all hn1, List.nil_append] at h
  rw [m38_3, m79_7, brn_ef (by omega), show m79_7_L0 N (n : Int) N 0 [.int .i64 (n : Int)] 0 P.length (rwsP P) [] = _ from h, bnd_t, bnd_t]
  show grd _ _ = _
  rw [grd_t (by rw [rws_len, List.length_map])]
theorem ext_dis : ∀ n : Nat, n < 6 → ∀ x ∈ ext n n [], ∀ k : Nat, k < n → gn x k ∉ x.take k := by decide +kernel
theorem mem_nL {s : Nat} {l : List Nat} : (s : Int) ∈ nL l ↔ s ∈ l := by
  have := @nL_mem s l
  exact ⟨fun h => by simpa [h] using this, fun h => by simpa [h] using this⟩
theorem dayE_mk {n : Int} {P : List (List Int)} {r : List Int} : ∀ {f k : Nat}, (∀ j, k ≤ j → j < k + f → 0 ≤ en r j ∧ en r j < n ∧ en r j ∉ r.take j ∧ metB P j (en r j) = false) → dayE n P r f k = 0
  | 0, k, _ => rfl
  | f + 1, k, h => by
    obtain ⟨h1, h2, h3, h4⟩ := h k (by omega) (by omega)
    unfold metB at h4
    rw [dayE, if_neg (by omega), if_neg (by omega), if_neg h3, if_neg (by simpa using h4)]
    exact dayE_mk fun j g1 g2 => h j (by omega) (by omega)
theorem rowE_mk {n : Nat} {L : List (List Int)} : ∀ {f i : Nat}, (∀ j, i ≤ j → j < i + f → (ro L j).length = n ∧ dayE n (L.take j) (ro L j) (ro L j).length 0 = 0) → rowE n n L f i = 0
  | 0, i, _ => rfl
  | f + 1, i, h => by
    obtain ⟨h1, h2⟩ := h i (by omega) (by omega)
    rw [rowE, if_neg (by omega), if_neg (by omega), if_neg (by rw [h2]; simp)]
    exact rowE_mk fun j g1 g2 => h j (by omega) (by omega)
theorem vp_rows {n : Nat} (hn : n ≤ 5) {X : List (List Nat)} {D : List Nat} (h : Vp n X D) : ∀ j, j < X.length → (ro (X.map nL) j).length = n ∧ dayE n ((X.map nL).take j) (ro (X.map nL) j) (ro (X.map nL) j).length 0 = 0 := by
  induction h with
  | nil => intro j hj; simp at hj
  | snoc X D x h hx hf ih =>
    intro j hj
    rw [List.map_append, List.map_singleton]
    by_cases e : j < X.length
    · have e1 : ro (X.map nL ++ [nL x]) j = ro (X.map nL) j := by
        unfold ro; rw [List.getD, List.getElem?_append_left (by simpa using e)]; rfl
      rw [e1, List.take_append_of_le_length (by simp; omega)]
      exact ih j e
    · have ej : j = (X.map nL).length := by simp at hj ⊢; omega
      have e1 : ro (X.map nL ++ [nL x]) j = nL x := by subst ej; simp [ro]
      have hl := (ext_get hx).1
      have hlt := ext_lt (fun s hs => absurd hs (by simp)) hx
      simp at hl
      rw [e1, List.take_append_of_le_length (by omega), ej, List.take_length, nL_len]
      refine ⟨hl, dayE_mk fun k _ hk => ?_⟩
      have hk' : k < x.length := by omega
      have hd := ext_dis n (by omega) x hx k (by omega)
      have hm := hlt _ (gn_mem hk')
      rw [nL_en hk']
      refine ⟨by omega, by omega, ?_, fitB_get hf k (by omega) (by omega)⟩
      rw [show (nL x).take k = nL (x.take k) by simp [nL], mem_nL]
      exact hd
theorem vp_chk {n : Nat} (hn1 : 1 ≤ n) (hn : n ≤ 5) {X : List (List Nat)} {D : List Nat} (h : Vp n X D) (hX : X.length ≤ n) : chkE n n (X.map nL) = 0 := by
  unfold chkE
  rw [if_neg (by omega), if_neg (by omega), if_neg (by simp; omega)]
  exact rowE_mk fun j _ hj => vp_rows hn h j (by simpa using hj)
theorem vp_len {n : Nat} {X : List (List Nat)} {D : List Nat} (h : Vp n X D) : ∀ q ∈ X.map nL, q.length = n := by
  induction h with
  | nil => intro q hq; simp at hq
  | snoc X D x h hx hf ih =>
    intro q hq
    rw [List.map_append, List.mem_append] at hq
    rcases hq with hq | hq
    · exact ih q hq
    · simp at hq; subst hq
      rw [nL_len]; simpa using (ext_get hx).1
theorem fac_pos : ∀ n : Nat, 1 ≤ fac n
  | 0 => Nat.le_refl 1
  | n + 1 => by rw [fac]; exact Nat.le_trans (fac_pos n) (Nat.le_mul_of_pos_left _ (by omega))
theorem getA7_t {α : Type} {a b c d e f g : PV} {k : PV → PV → PV → PV → PV → PV → PV → Option α} : getA7 (.agg [a, b, c, d, e, f, g]) k = k a b c d e f g := rfl
theorem wr8 : ∀ a : Nat, a < 256 → IntKind.i64.wrap (1 + Int.tmod (IntKind.i64.wrap (a : Int)) 5) = ((1 + a % 5 : Nat) : Int) := by decide +kernel
theorem wr9 : ∀ n : Nat, n < 6 → ∀ b : Nat, b < 256 → Int.tmod (IntKind.i64.wrap (b : Int)) (IntKind.i64.wrap ((n : Int) + 1)) = ((b % (n + 1) : Nat) : Int) := by decide +kernel
theorem wr0 {b m : Nat} (hb : b < 256) : Int.tmod (IntKind.i64.wrap (b : Int)) (m : Int) = ((b % m : Nat) : Int) := by
  have : IntKind.i64.wrap (b : Int) = (b : Int) := by
    cases b with
    | zero => decide
    | succ b => exact wrapN (by omega)
  rw [this]; rfl
def u8s (l : List Nat) : List PV := l.map fun (x : Nat) => PV.int .u8 (x : Int)
theorem u8_gp {l : List Nat} {i : Nat} (h : i < l.length) : gp (u8s l) i = .int .u8 (gn l i : Int) := by simp [u8s, gp, gn, List.getD, h]
theorem made_L (N n : Nat) (hN : 5000 ≤ N) (hn1 : 1 ≤ n) (hn : n ≤ 5) (a b c0 c1 c2 c3 c4 : Nat) (ha : a < 256) (hb : b < 256) (h0 : c0 < 256) (h1 : c1 < 256) (h2 : c2 < 256) (h3 : c3 < 256) (h4 : c4 < 256) (en' : n = 1 + a % 5) : ∀ (f fuel : Nat) (X : List (List Nat)) (D : List Nat), b % (n + 1) - X.length = f → f < fuel → Vp n X D → X.length ≤ b % (n + 1) →
    ∃ X' D', Vp n X' D' ∧ X'.length ≤ n ∧ m37_L0 N 5 (.int .u8 (c0 : Int)) (.int .u8 (c1 : Int)) (.int .u8 (c2 : Int)) (.int .u8 (c3 : Int)) (.int .u8 (c4 : Int)) (a : Int) (b : Int) fuel X.length (X.length : Int) (rwsP (X.map nL)) = some (X'.length, rwsP (X'.map nL))
  | f, 0, _, _, _, h, _, _ => by omega
  | f, fuel + 1, X, D, hf, hfu, hV, hX => by
    have hm : b % (n + 1) < n + 1 := Nat.mod_lt _ (by omega)
    rw [m37_L0, wr8 a ha, ← en', wr9 n (by omega) b hb]
    by_cases h : X.length < b % (n + 1)
    · have hk := fit_many hn hV (by omega)
      have hp := fac_pos (n - X.length)
      have hl := vp_len hV
      have e38 := m38_3_ok N n hN hn1 hn (X.map nL) (by simp; omega) hl
      rw [List.length_map] at e38
      have e : [PV.int .u8 (a : Int), .int .u8 (b : Int), .int .u8 (c0 : Int), .int .u8 (c1 : Int), .int .u8 (c2 : Int), .int .u8 (c3 : Int), .int .u8 (c4 : Int)] = u8s [a, b, c0, c1, c2, c3, c4] := rfl
      have hg : gn [a, b, c0, c1, c2, c3, c4] (2 + X.length) < 256 := by
        have hx : X.length < 5 := by omega
        generalize X.length = j at hx
        match j, hx with
        | 0, _ => exact h0
        | 1, _ => exact h1
        | 2, _ => exact h2
        | 3, _ => exact h3
        | 4, _ => exact h4
      rw [brn_dt (by omega), e38, bnd_t]
      dsimp only
      rw [getL_t, grd_t ⟨by omega, by omega⟩, toNatN, grd_t (by omega), e, u8_gp (by simp; omega)]
      generalize gn [a, b, c0, c1, c2, c3, c4] (2 + X.length) = y at hg
      have hM : (fitn n (X.map nL)).length ≤ 3125 := fitn_le hn _
      have hlt : y % (fitn n (X.map nL)).length < (fitn n (X.map nL)).length := Nat.mod_lt _ (by omega)
      have hmem : (fitn n (X.map nL)).getD (y % (fitn n (X.map nL)).length) [] ∈ fitn n (X.map nL) := by
        rw [List.getD, List.getElem?_eq_getElem hlt]; exact List.getElem_mem hlt
      have e2 : gp (rwsP ((fitn n (X.map nL)).map nL)) (y % (fitn n (X.map nL)).length) = rwP (nL ((fitn n (X.map nL)).getD (y % (fitn n (X.map nL)).length) [])) := by
        rw [rws_gp (by simpa using hlt)]
        unfold ro
        rw [List.getD, List.getElem?_map, List.getD, List.getElem?_eq_getElem hlt]; rfl
      generalize (fitn n (X.map nL)).getD (y % (fitn n (X.map nL)).length) [] = x at hmem e2
      obtain ⟨hx, hf'⟩ := List.mem_filter.1 hmem
      obtain ⟨X', D', g1, g2, g3⟩ := made_L N n hN hn1 hn a b c0 c1 c2 c3 c4 ha hb h0 h1 h2 h3 h4 en' (f - 1) fuel (X ++ [x]) _ (by simp; omega) (by omega) (.snoc X D x hV hx hf') (by simp; omega)
      rw [List.length_append, List.length_singleton, List.map_append, List.map_singleton, ← rws_app] at g3
      rw [getI_t, grd_t (by omega), wr0 hg, grd_t ⟨by omega, by omega⟩, toNatN, grd_t (by rw [List.length_drop, rws_len, List.length_map]; omega), e2]
      unfold rwP at g3 ⊢
      rw [getL_t, grd_t (by omega), grd_t (by rw [rws_len, List.length_map]), wrapN (by omega)]
      exact ⟨X', D', g1, g2, g3⟩
    · rw [brn_df (by omega)]
      exact ⟨X, D, hV, by omega, rfl⟩
theorem made_ok (N : Nat) (hN : 5000 ≤ N) (a b c0 c1 c2 c3 c4 : Nat) (ha : a < 256) (hb : b < 256) (h0 : c0 < 256) (h1 : c1 < 256) (h2 : c2 < 256) (h3 : c3 < 256) (h4 : c4 < 256) : ∃ n X D, 1 ≤ n ∧ n ≤ 5 ∧ Vp n X D ∧ X.length ≤ n ∧ m37 N (.agg [.int .u8 (a : Int), .int .u8 (b : Int), .int .u8 (c0 : Int), .int .u8 (c1 : Int), .int .u8 (c2 : Int), .int .u8 (c3 : Int), .int .u8 (c4 : Int)]) 5 = some (.tup [.int .i64 (n : Int), .lst false X.length (rwsP (X.map nL))]) := by
  have hn : 1 + a % 5 ≤ 5 := by have := Nat.mod_lt a (show 0 < 5 by omega); omega
  have hm : b % (1 + a % 5 + 1) < 1 + a % 5 + 1 := Nat.mod_lt _ (by omega)
  obtain ⟨X, D, g1, g2, g3⟩ := made_L N (1 + a % 5) hN (by omega) hn a b c0 c1 c2 c3 c4 ha hb h0 h1 h2 h3 h4 rfl (b % (1 + a % 5 + 1) - 0) N [] _ rfl (by omega) .nil (by simp)
  refine ⟨1 + a % 5, X, D, by omega, hn, g1, g2, ?_⟩
  rw [m37, getA7_t, getI_t, grd_t (by decide), getI_t, grd_t (by rw [wr8 a ha, wrapN (by omega)]; omega), show m37_L0 N 5 (.int .u8 (c0 : Int)) (.int .u8 (c1 : Int)) (.int .u8 (c2 : Int)) (.int .u8 (c3 : Int)) (.int .u8 (c4 : Int)) (a : Int) (b : Int) N 0 0 [] = _ from g3, bnd_t]
  dsimp only
  rw [grd_t (by rw [rws_len, List.length_map]), wr8 a ha]
theorem plan_L2 (N n : Nat) (hn : n ≤ 5) (L : List (List Int)) (hL : L.length ≤ 1000) (hl : ∀ i, i < L.length → (ro L i).length = n) (i : Nat) (hi : i < L.length) (y : Int) (c : List PV) (m : Nat) (k : Nat) (hk : k < n) (s : Int) (h : metB (L.take i) k s = false) : ∀ (f j fuel : Nat), i - j = f → f < fuel → j ≤ i →
    m40_L2 N y L.length (rwsP L) (i : Int) m c (k : Int) s fuel (j : Int) = some (.inr ())
  | f, j, 0, _, _, _ => by omega
  | f, j, fuel + 1, hf, hfu, hj => by
    rw [m40_L2, toNatN]
    by_cases g : j < i
    · have hq := hl j (by omega)
      have e : (en (ro L j) k == s) = false := by
        unfold metB at h
        rw [List.any_eq_false] at h
        have := h (ro L j) (by
          have : ro L j = ro (L.take i) j := by unfold ro; rw [List.getD, List.getD, List.getElem?_take_of_lt g]
          rw [this]; exact ro_mem (by rw [List.length_take]; omega))
        rw [decide_eq_true (show k < (ro L j).length by omega), Bool.true_and] at this
        simpa using this
      rw [brn_dt (by omega), grd_t ⟨by omega, by omega⟩, toNatN, grd_t ⟨by rw [List.length_drop, List.length_take, rws_len]; omega, by omega⟩, rws_gp (by omega), getL_t, grd_t (by omega), toNatN, grd_t (by rw [List.length_drop, iL_len]; omega), iL_gp (by omega), getI_t, brn_f e, wrapN (by omega)]
      exact plan_L2 N n hn L hL hl i hi y c m k hk s h (f - 1) (j + 1) fuel (by omega) (by omega) (by omega)
    · rw [brn_df (by omega)]
theorem plan_L1 (N n : Nat) (hN : 5000 ≤ N) (hn : n ≤ 5) (L : List (List Int)) (hL : L.length ≤ 1000) (hl : ∀ i, i < L.length → (ro L i).length = n) (i : Nat) (hi : i < L.length) (h : ∀ k, k < n → 0 ≤ en (ro L i) k ∧ en (ro L i) k < n ∧ en (ro L i) k ∉ (ro L i).take k ∧ metB (L.take i) k (en (ro L i) k) = false) : ∀ (f k fuel : Nat), n - k = f → f < fuel → k ≤ n →
    m40_L1 N (n : Int) L.length (rwsP L) (i : Int) n (iL (ro L i)) fuel (k : Int) = some (.inr ())
  | f, k, 0, _, _, _ => by omega
  | f, k, fuel + 1, hf, hfu, hk => by
    rw [m40_L1]
    by_cases g : k < n
    · obtain ⟨e1, e2, e3, e4⟩ := h k g
      have h1 := hl i hi
      have ec := cont_ok N (by omega) (en (ro L i) k) ((ro L i).take k) (by rw [List.length_take]; omega)
      unfold rwP at ec
      rw [decide_eq_false e3, List.length_take, show min k (ro L i).length = k by omega, ← iL_take] at ec
      have e5 := plan_L2 N n hn L hL hl i hi (n : Int) (iL (ro L i)) n k g (en (ro L i) k) e4 i 0 N (by omega) (by omega) (by omega)
      rw [brn_dt (by omega), grd_t ⟨by omega, by omega⟩, toNatN, grd_t (by rw [List.length_drop, iL_len]; omega), iL_gp (by omega), getI_t, brn_df (by omega), brn_df (by omega), grd_t (by omega), grd_t (by rw [iL_len]; omega), ec, bnd_t, getB_t, brn_f rfl, grd_t (by omega), grd_t (rws_len L), show m40_L2 N (n : Int) L.length (rwsP L) (i : Int) n (iL (ro L i)) (k : Int) (en (ro L i) k) N 0 = _ from e5, bnd_t]
      dsimp only
      rw [wrapN (by omega)]
      exact plan_L1 N n hN hn L hL hl i hi h (f - 1) (k + 1) fuel (by omega) (by omega) (by omega)
    · rw [brn_df (by omega)]
theorem plan_L0 (N n : Nat) (hN : 5000 ≤ N) (hn : n ≤ 5) (L : List (List Int)) (hL : L.length ≤ n) (h : ∀ j, j < L.length → (ro L j).length = n ∧ dayE n (L.take j) (ro L j) (ro L j).length 0 = 0) : ∀ (f i fuel : Nat), L.length - i = f → f < fuel → i ≤ L.length →
    m40_L0 N (n : Int) L.length (rwsP L) fuel (i : Int) = some (.inr ())
  | f, i, 0, _, _, _ => by omega
  | f, i, fuel + 1, hf, hfu, hi => by
    rw [m40_L0]
    by_cases g : i < L.length
    · obtain ⟨e1, e2⟩ := h i g
      have e3 := plan_L1 N n hN hn L (by omega) (fun j hj => (h j hj).1) i g (fun k hk => dayE_zero e2 k (by omega) (by omega)) n 0 N (by omega) (by omega) (by omega)
      rw [brn_dt (by omega), grd_t ⟨by omega, by omega⟩, toNatN, grd_t (by rw [List.length_drop, rws_len]; omega), rws_gp g, getL_t, e1, brn_nf rfl, show m40_L1 N (n : Int) L.length (rwsP L) (i : Int) n (iL (ro L i)) N 0 = _ from e3, bnd_t]
      dsimp only
      rw [wrapN (by omega)]
      exact plan_L0 N n hN hn L hL h (f - 1) (i + 1) fuel (by omega) (by omega) (by omega)
    · rw [brn_df (by omega)]
theorem planned_ok (N : Nat) (hN : 5000 ≤ N) (n : Nat) (hn : n ≤ 5) (L : List (List Int)) (hL : L.length ≤ n) (h : ∀ j, j < L.length → (ro L j).length = n ∧ dayE n (L.take j) (ro L j) (ro L j).length 0 = 0) : m40 N (n : Int) (.lst false L.length (rwsP L)) = some (.bool true) := by
  have e := plan_L0 N n hN hn L hL h L.length 0 N (by omega) (by omega) (by omega)
  rw [m40, getL_t, brn_df (by omega), show m40_L0 N (n : Int) L.length (rwsP L) N 0 = _ from e, bnd_t]
def inv (n : Nat) (x : List Nat) : List Nat := (List.range n).map fun s => x.idxOf s
theorem inv_ext : ∀ n : Nat, n < 6 → ∀ x ∈ ext n n [], inv n x ∈ ext n n [] := by decide +kernel
theorem inv_inv : ∀ n : Nat, n < 6 → ∀ x ∈ ext n n [], inv n (inv n x) = x := by decide +kernel
theorem inv_at : ∀ n : Nat, n < 6 → ∀ x ∈ ext n n [], ∀ d : Nat, d < n → gn (inv n x) (gn x d) = d ∧ gn x (gn (inv n x) d) = d ∧ gn (inv n x) d < n := by decide +kernel
theorem inv_perm : ∀ n : Nat, n < 6 → ((ext n n []).map (inv n)).isPerm (ext n n []) = true := by decide +kernel
theorem inv_tr : ∀ n : Nat, n < 6 → ∀ x ∈ ext n n [], trR n (nL x) = nL (inv n x) := by decide +kernel
theorem inv_len {n : Nat} {x : List Nat} : (inv n x).length = n := by simp [inv]
theorem met_nL (X : List (List Nat)) (k s : Nat) : metB (X.map nL) k (s : Nat) = X.any fun q => decide (k < q.length) && (gn q k == s) := by
  induction X with
  | nil => rfl
  | cons q X ih =>
    unfold metB at ih ⊢
    rw [List.map_cons, List.any_cons, ih, List.any_cons, nL_len]
    congr 1
    by_cases h : k < q.length
    · rw [nL_en h]
      congr 1
      by_cases g : gn q k = s
      · rw [g]; simp
      · rw [beq_eq_false_iff_ne.2 g, beq_eq_false_iff_ne.2 (by omega)]
    · rw [decide_eq_false h]; rfl
theorem fit_iff {n : Nat} {X : List (List Nat)} (hX : ∀ q ∈ X, q.length = n) (x : List Nat) : fitB (X.map nL) x n 0 = true ↔ ∀ q ∈ X, ∀ j, j < n → gn q j ≠ gn x j := by
  constructor
  · intro h q hq j hj e
    have h1 := fitB_get h j (by omega) (by omega)
    rw [met_nL, List.any_eq_false] at h1
    exact h1 q hq (by rw [decide_eq_true (show j < q.length by rw [hX q hq]; exact hj), e]; simp)
  · intro h
    refine fitB_mk fun j _ hj => ?_
    rw [met_nL, List.any_eq_false]
    intro q hq hh
    have hh' : j < q.length ∧ gn q j = gn x j := by simpa using hh
    exact h q hq j (by omega) hh'.2
theorem ext_len {n : Nat} {x : List Nat} (h : x ∈ ext n n []) : x.length = n := by simpa using (ext_get h).1
theorem ext_ltn {n : Nat} {x : List Nat} (h : x ∈ ext n n []) {d : Nat} (hd : d < n) : gn x d < n :=
  ext_lt (fun s hs => absurd hs (by simp)) h _ (gn_mem (by rw [ext_len h]; exact hd))
theorem fit_inv {n : Nat} (hn : n < 6) {X : List (List Nat)} (hX : ∀ q ∈ X, q ∈ ext n n []) {x : List Nat} (hx : x ∈ ext n n []) : fitB ((X.map (inv n)).map nL) (inv n x) n 0 = fitB (X.map nL) x n 0 := by
  have h1 := fit_iff (n := n) (X := X) (fun q hq => ext_len (hX q hq)) x
  have h2 := fit_iff (n := n) (X := X.map (inv n)) (fun q hq => by obtain ⟨y, _, rfl⟩ := List.mem_map.1 hq; exact inv_len) (inv n x)
  rw [Bool.eq_iff_iff, h1, h2]
  constructor
  · intro h q hq j hj e
    refine h (inv n q) (List.mem_map.2 ⟨q, hq, rfl⟩) (gn x j) (ext_ltn hx hj) ?_
    rw [(inv_at n hn x hx j hj).1, ← e, (inv_at n hn q (hX q hq) j hj).1]
  · intro h q hq j hj e
    obtain ⟨y, hy, rfl⟩ := List.mem_map.1 hq
    have a := inv_at n hn x hx j hj
    refine h y hy (gn (inv n x) j) a.2.2 ?_
    rw [a.2.1, ← e, (inv_at n hn y (hX y hy) j hj).2.1]
theorem vp_mem {n : Nat} {X : List (List Nat)} {D : List Nat} (h : Vp n X D) : ∀ q ∈ X, q ∈ ext n n [] := by
  induction h with
  | nil => intro q hq; simp at hq
  | snoc X D x h hx hf ih =>
    intro q hq
    rcases List.mem_append.1 hq with hq | hq
    · exact ih q hq
    · simp at hq; subst hq; exact hx
theorem vp_turn {n : Nat} (hn : n < 6) {X : List (List Nat)} {D : List Nat} (h : Vp n X D) : ∃ D', Vp n (X.map (inv n)) D' := by
  induction h with
  | nil => exact ⟨_, .nil⟩
  | snoc X D x h hx hf ih =>
    obtain ⟨D', h'⟩ := ih
    rw [List.map_append, List.map_singleton]
    exact ⟨_, .snoc _ D' _ h' (inv_ext n hn x hx) (by rw [fit_inv hn (vp_mem h) hx]; exact hf)⟩
theorem turn_rows {n : Nat} (hn : n < 6) {X : List (List Nat)} (hX : ∀ q ∈ X, q ∈ ext n n []) : (X.map nL).map (trR n) = (X.map (inv n)).map nL := by
  rw [List.map_map, List.map_map]
  exact List.map_congr_left fun q hq => inv_tr n hn q (hX q hq)
theorem turn_back {n : Nat} (hn : n < 6) {X : List (List Nat)} (hX : ∀ q ∈ X, q ∈ ext n n []) : (X.map (inv n)).map (inv n) = X := by
  rw [List.map_map]
  exact (List.map_congr_left fun q hq => inv_inv n hn q (hX q hq)).trans (List.map_id _)
theorem turn_cnt {n : Nat} (hn : n < 6) {X : List (List Nat)} (hX : ∀ q ∈ X, q ∈ ext n n []) : (fitn n ((X.map (inv n)).map nL)).length = (fitn n (X.map nL)).length := by
  have hp := List.isPerm_iff.1 (inv_perm n hn)
  unfold fitn
  rw [← (hp.filter _).length_eq, List.filter_map, List.length_map]
  congr 1
  exact filter_congr' fun x hx => fit_inv hn hX hx
theorem street_L1 (N n : Nat) (L T : List (List Int)) (hL : L.length ≤ 1000) (i : Nat) (hi : i < L.length) (hTl : T.length = L.length) (h1 : (ro L i).length = n) (hn : n ≤ 5) (h2 : (ro T i).length = n)
    (h : ∀ k, k < n → 0 ≤ en (ro L i) k ∧ en (ro L i) k < n ∧ en (ro T i) (en (ro L i) k).toNat = (k : Int)) (x : Int) (a : Nat) (c : List PV) : ∀ (f k fuel : Nat), n - k = f → f < fuel → k ≤ n →
    m7_L1 N x a c T.length (rwsP T) (i : Int) n (iL (ro L i)) fuel (k : Int) = some (.inr ())
  | f, k, 0, _, _, _ => by omega
  | f, k, fuel + 1, hf, hfu, hk => by
    rw [m7_L1]
    by_cases g : k < n
    · obtain ⟨e1, e2, e3⟩ := h k g
      have e0 : (en (ro L i) k).toNat < n := by omega
      rw [brn_dt (by omega), grd_t ⟨by omega, by omega⟩, toNatN, grd_t (by rw [List.length_drop, iL_len]; omega), iL_gp (by omega), getI_t, grd_t (by omega), toNatN, grd_t (by rw [List.length_drop, rws_len]; omega), rws_gp (by omega), getL_t, grd_t ⟨by omega, by omega⟩, grd_t (by rw [List.length_drop, iL_len]; omega), iL_gp (by omega), getI_t, brn_nf e3, wrapN (by omega)]
      exact street_L1 N n L T hL i hi hTl h1 hn h2 h x a c (f - 1) (k + 1) fuel (by omega) (by omega) (by omega)
    · rw [brn_df (by omega)]
theorem street_L0 (N n : Nat) (hN : 5000 ≤ N) (L T : List (List Int)) (hL : L.length ≤ 1000) (hTl : T.length = L.length) (hn : n ≤ 5)
    (h : ∀ i, i < L.length → (ro L i).length = n ∧ (ro T i).length = n ∧ ∀ k, k < n → 0 ≤ en (ro L i) k ∧ en (ro L i) k < n ∧ en (ro T i) (en (ro L i) k).toNat = (k : Int)) (x : Int) : ∀ (f i fuel : Nat), L.length - i = f → f < fuel → i ≤ L.length →
    m7_L0 N x L.length (rwsP L) T.length (rwsP T) fuel (i : Int) = some (.inr ())
  | f, i, 0, _, _, _ => by omega
  | f, i, fuel + 1, hf, hfu, hi => by
    rw [m7_L0]
    by_cases g : i < L.length
    · obtain ⟨e1, e2, e3⟩ := h i g
      have h1 := street_L1 N n L T hL i g hTl e1 hn e2 e3 x L.length (rwsP L) n 0 N (by omega) (by omega) (by omega)
      rw [brn_dt (by omega), grd_t ⟨by omega, by omega⟩, toNatN, grd_t (by rw [List.length_drop, rws_len]; omega), rws_gp g, getL_t, e1, show m7_L1 N x L.length (rwsP L) T.length (rwsP T) (i : Int) n (iL (ro L i)) N 0 = _ from h1, bnd_t]
      dsimp only
      rw [wrapN (by omega)]
      exact street_L0 N n hN L T hL hTl hn h x (f - 1) (i + 1) fuel (by omega) (by omega) (by omega)
    · rw [brn_df (by omega)]
theorem ro_map {X : List (List Nat)} {i : Nat} (h : i < X.length) : ro (X.map nL) i = nL (X.getD i []) ∧ X.getD i [] ∈ X := by
  rw [List.getD, List.getElem?_eq_getElem h]
  refine ⟨?_, List.getElem_mem h⟩
  unfold ro
  rw [List.getD, List.getElem?_map, List.getElem?_eq_getElem h]; rfl
theorem law7 (a b c0 c1 c2 c3 c4 : Nat) (ha : a < 256) (hb : b < 256) (h0 : c0 < 256) (h1 : c1 < 256) (h2 : c2 < 256) (h3 : c3 < 256) (h4 : c4 < 256) : m7 5000 (.agg [.int .u8 (a : Int), .int .u8 (b : Int), .int .u8 (c0 : Int), .int .u8 (c1 : Int), .int .u8 (c2 : Int), .int .u8 (c3 : Int), .int .u8 (c4 : Int)]) = some (.bool true) := by
  obtain ⟨n, X, D, hn1, hn, hV, hX, e37⟩ := made_ok 5000 (by omega) a b c0 c1 c2 c3 c4 ha hb h0 h1 h2 h3 h4
  have hm := vp_mem hV
  obtain ⟨D', hV'⟩ := vp_turn (by omega) hV
  have hlen : (X.map nL).length = X.length := List.length_map ..
  have hlen' : ((X.map (inv n)).map nL).length = X.length := by simp
  have hl := vp_len hV
  have hl' := vp_len hV'
  have hl1 : (X.map nL).length ≤ 1000 := by omega
  have hl1' : ((X.map (inv n)).map nL).length ≤ 1000 := by omega
  have hl2 : ∀ r ∈ X.map nL, r.length ≤ 1000 := fun r hr => by rw [hl r hr]; omega
  have hl2' : ∀ r ∈ (X.map (inv n)).map nL, r.length ≤ 1000 := fun r hr => by rw [hl' r hr]; omega
  have hc := vp_chk hn1 hn hV hX
  have hc' := vp_chk hn1 hn hV' (by simpa using hX)
  have e27 := (turned_ok 5000 (by omega) (n : Int) (X.map nL) hl1 hl2).1
  have e27' := (turned_ok 5000 (by omega) (n : Int) ((X.map (inv n)).map nL) hl1' hl2').1
  have t1 : trnE n (X.map nL) = ((X.map (inv n)).map nL, 0) := by
    unfold trnE; rw [if_neg (by rw [hc]; simp), toNatN, turn_rows (by omega) hm]
  have t2 : trnE n ((X.map (inv n)).map nL) = (X.map nL, 0) := by
    unfold trnE; rw [if_neg (by rw [hc']; simp), toNatN, turn_rows (by omega) (vp_mem hV'), turn_back (by omega) hm]
  rw [t1] at e27
  rw [t2] at e27'
  have e25 := (count_ok 5000 (by omega) (n : Int) (X.map nL) hl1 hl2).1
  have e25' := (count_ok 5000 (by omega) (n : Int) ((X.map (inv n)).map nL) hl1' hl2').1
  have hcn : cntE n ((X.map (inv n)).map nL) = cntE n (X.map nL) := by
    unfold cntE; rw [hc, hc', hlen, hlen', toNatN, turn_cnt (by omega) hm]
  have e40 := planned_ok 5000 (by omega) n hn _ (by rw [hlen']; exact hX) (fun j hj => vp_rows hn hV' j (by simpa using hj))
  have e21 := lsame_ok 5000 (by omega) (X.map nL) hl1 hl2
  have eL := street_L0 5000 n (by omega) (X.map nL) ((X.map (inv n)).map nL) hl1 (by omega) hn (fun i hi => by
    rw [hlen] at hi
    obtain ⟨r1, r2⟩ := ro_map hi
    have hi' : i < (X.map (inv n)).length := by simpa using hi
    have r3 := (ro_map hi').1
    have r4 : (X.map (inv n)).getD i [] = inv n (X.getD i []) := by
      rw [List.getD, List.getElem?_map, List.getD, List.getElem?_eq_getElem hi]; rfl
    rw [r4] at r3
    rw [r1, r3, nL_len, nL_len, ext_len (hm _ r2), inv_len]
    refine ⟨rfl, rfl, fun k hk => ?_⟩
    have q := ext_ltn (hm _ r2) hk
    rw [nL_en (by rw [ext_len (hm _ r2)]; exact hk), toNatN, nL_en (by rw [inv_len]; exact q), (inv_at n (by omega) _ (hm _ r2) k hk).1]
    exact ⟨by omega, by omega, rfl⟩) (n : Int) (X.map nL).length 0 5000 rfl (by omega) (by omega)
  have m16t : m16 5000 = some (.bool true) := rfl
  rw [hlen] at e27 e25 eL e21 e27'
  rw [hlen'] at e27 e25' e27' e40 eL
  rw [m7, getA7_t, e37, bnd_t, getT2_t, getI_t, getL_t, e27, bnd_t, getT2_t, getL_t, getI_t, brn_nf rfl, brn_nf rfl, e40, bnd_t, getB_t, brn_t rfl, show m7_L0 5000 (n : Int) X.length (rwsP (X.map nL)) X.length (rwsP ((X.map (inv n)).map nL)) 5000 0 = _ from eL, bnd_t]
  dsimp only
  rw [e27', bnd_t, getT2_t, getL_t, getI_t, brn_nf rfl, e21, bnd_t, getB_t, brn_t rfl, e25, bnd_t, getT2_t, getI_t, getI_t, e25', bnd_t, getT2_t, getI_t, getI_t, hcn, brn_et rfl, brn_et rfl, m16t, bnd_t, getB_t]
end Go.Proofs.YtcaecfofgdogbaaDoor
namespace Go.Proofs.YtcaecfofgdogbaaDoor
open Go.V
theorem oct_of {x : List PV} (h : PT tab 5 x) : ∃ n : Nat, n < 256 ∧ x = [.int .u8 (n : Int)] := by
  obtain ⟨a, e, h1, h2⟩ := h.int' tl5 rfl
  have h1' : (0 : Int) ≤ a := h1
  have h2' : a ≤ 255 := h2
  exact ⟨a.toNat, by omega, by rw [e]; congr 2; omega⟩
theorem rota_of {qs : List PV} (h : PT tab 40 qs) : ∃ a b c0 c1 c2 c3 c4 : Nat, (a < 256 ∧ b < 256 ∧ c0 < 256 ∧ c1 < 256 ∧ c2 < 256 ∧ c3 < 256 ∧ c4 < 256) ∧ qs = [.int .u8 (a : Int), .int .u8 (b : Int), .int .u8 (c0 : Int), .int .u8 (c1 : Int), .int .u8 (c2 : Int), .int .u8 (c3 : Int), .int .u8 (c4 : Int)] := by
  obtain ⟨x, rs, rfl, hx, h⟩ := (h.structs tl40 rfl).cons'
  obtain ⟨y, rs, rfl, hy, h⟩ := h.cons'
  obtain ⟨z, rs, rfl, hz, h⟩ := h.cons'
  obtain rfl := h.nil'
  obtain ⟨a, ha, rfl⟩ := oct_of hx
  obtain ⟨b, hb, rfl⟩ := oct_of hy
  obtain ⟨xs, rfl, hl, hxs⟩ := hz.arr' tl38 rfl
  match xs, hl with
  | [p, q, r, s, t], _ =>
    obtain ⟨c0, h0, rfl⟩ := oct_of (hxs p (by simp))
    obtain ⟨c1, h1, rfl⟩ := oct_of (hxs q (by simp))
    obtain ⟨c2, h2, rfl⟩ := oct_of (hxs r (by simp))
    obtain ⟨c3, h3, rfl⟩ := oct_of (hxs s (by simp))
    obtain ⟨c4, h4, rfl⟩ := oct_of (hxs t (by simp))
    exact ⟨a, b, c0, c1, c2, c3, c4, ⟨ha, hb, h0, h1, h2, h3, h4⟩, rfl⟩
theorem con7 (x0 : List PV) (hx : PT tab 40 x0) : FnP Tryd.prog 7 [.agg x0] (.bool true) := by
  obtain ⟨a, b, c0, c1, c2, c3, c4, ⟨ha, hb, h0, h1, h2, h3, h4⟩, rfl⟩ := rota_of hx
  exact FnP_le (c7 5000 _ _ (law7 a b c0 c1 c2 c3 c4 ha hb h0 h1 h2 h3 h4)) (.cons _ _ _ _ (.refl _) .nil) (.refl _)
end Go.Proofs.YtcaecfofgdogbaaDoor
namespace Go.Proofs.YtcaecfofgdogbaaDoor.weekTurned
open Go.ChangeShapes Go.WideShapes Go.ChangeAt Go.RowKit Go.V
theorem own : ownKnob Tryd.prog.godebug = none := by kernel_rfl
theorem laid : laidOutB Tryd.prog = true := by kernel_rfl
set_option maxRecDepth 100000 in
theorem lifted (os : Os) (started : os.Started) (H : Type) (enc : TypeId × Value → H) :
    ReturnsInHanded {} Tryd.checked os 7 .any (fun w args => (Rows.weekTurnedSpec.pre enc Tryd.prog Tryd.f7 [] false w args ∧ laidMetH Tryd.prog [("math/bits.deBruijn32tab", Rows.laid_math_bits_deBruijn32tab), ("math/bits.deBruijn64tab", Rows.laid_math_bits_deBruijn64tab)] w) ∧ sizedMet enc Tryd.prog Tryd.f7 (OpenSpec.ofChange Rows.weekTurnedSpec) false w args)
      (Rows.weekTurnedSpec.post enc Tryd.prog Tryd.f7 false true false false) := by
  refine returnsInHanded_of_change_and (C := Tryd.checked) (X := fun w _ => laidMetH Tryd.prog [("math/bits.deBruijn32tab", Rows.laid_math_bits_deBruijn32tab), ("math/bits.deBruijn64tab", Rows.laid_math_bits_deBruijn64tab)] w) (fun _ _ _ hh h => h.of_heap hh) own started (by kernel_rfl) Tryd.func7
    (ChangeSpec.witness_shaped (enc := enc) (C := Tryd.checked) (os := os) (X := fun w _ => laidMetH Tryd.prog [("math/bits.deBruijn32tab", Rows.laid_math_bits_deBruijn32tab), ("math/bits.deBruijn64tab", Rows.laid_math_bits_deBruijn64tab)] w) false (World.laidAll Tryd.prog os [("math/bits.deBruijn32tab", Rows.laid_math_bits_deBruijn32tab), ("math/bits.deBruijn64tab", Rows.laid_math_bits_deBruijn64tab)]) #[.agg #[.int .u8 0, .int .u8 0, .int .u8 0, .int .u8 0, .int .u8 0, .int .u8 0, .int .u8 0]] 8 (World.laidAll_os _ _ _)
      (World.shaped_of_ZipB (by kernel_rfl) (by kernel_rfl)) (by kernel_rfl) (by kernel_rfl) (by kernel_rfl)
      (by rw [MakeChecks.laidMetH_plain _ _ _ (by kernel_rfl)]; exact laidMet_laidAll _ (by kernel_rfl) (by kernel_rfl))) ?_
  intro W base args ds gs before hval0 hW _ _ hL _
  have hW' := hW
  obtain ⟨p, q, hA0, hV, rfl, hfz, hnd⟩ := hW
  have hA : DataW.TrodAll enc Tryd.prog W 0 (fun _ => true) true Tryd.f7.params.toList args.toList ds p := hA0
  rw [Tryd.params7] at hA
  obtain ⟨v0, vs0, d0, ds0, p0, q0, e0, rfl, rfl, h0, hr0⟩ := trodAll_cons hA
  obtain ⟨rfl, rfl, rfl⟩ := trodAll_nil hr0
  obtain rfl : args = #[v0] := by cases args; simp_all
  obtain ⟨x0, k0, t0⟩ := arg_agg (n := 8) tab_ok (hval0 0 40 v0 rfl rfl) h0 (by kernel_rfl) (by kernel_rfl)
  obtain ⟨rfl, rfl⟩ := trodVars_none hV
  clear hA0 hval0
  simp only [List.append_nil] at hW'
  refine (FnP.calls (W := W) (vals := #[v0]) (con7 x0 t0) (.cons _ _ _ _ k0 .nil) (laidG hL)).mono fun e W' ⟨he, hg⟩ => ?_
  subst he
  exact ⟨_, rfl, post_of_kept (pv := []) hW' (fun _ _ _ => trodAll_cons_mk (shut_bool Tryd.underlying4 _) trodAll_mk0) (fun sp hsp => trodAll_cons_mk (Kept.trod hg laid (by kernel_rfl) (of_decide_eq_true (by kernel_rfl)) h0 (fun y hy => hsp y (by simp [hy]))) (trodAll_mk0)) (fun _ _ => rfl) (by simp)
    hg (ok_one (by kernel_rfl) rfl (okWide_bool_mk Tryd.underlying4 _))⟩
theorem over : Rows.weekTurnedRow.holds Tryd.pinned (OpenSpec.ofChange Rows.weekTurnedSpec) :=
  OpenClaim.holds_of_wide 7 Tryd.f7 rfl rfl rfl rfl rfl rfl rfl ⟨rfl, rfl, rfl, rfl, rfl⟩ rfl rfl rfl rfl rfl (by kernel_rfl) Tryd.func7 (by kernel_rfl)
    (of_decide_eq_true (by kernel_rfl)) (by unfold Func.isWrapper; first | (rw [if_pos (by decide +kernel)]; kernel_rfl) | (rw [if_neg (by decide +kernel)]; exact ⟨rfl, rfl⟩))
    (fun os started H enc _ => lifted os started H enc)
theorem card : Rows.WeekTurnedCardSaid :=
  Claim7.holds_tied_plain_at .later [] [.data, .data] true (true, "b10945a5c0c6bbe518806a5b2982a3effa3ad2c65afd0553d66b8bf8a483c2f3") true (over) (fun _ h => by cases h) (by kernel_rfl) (fun _ h => by cases h) weekTurned_row_tie rfl ⟨rfl, rfl⟩ (by kernel_rfl) rfl
    (fun f fn hf hfn => by
      obtain rfl : f = 7 := Option.some.inj ((show Tryd.prog.funcNamed "breeze/breezelaw03.WeekTurned" = some 7 by kernel_rfl).symm.trans hf) |>.symm
      obtain rfl : fn = Tryd.f7 := (Option.some.inj (Tryd.func7.symm.trans hfn)).symm
      exact ⟨by kernel_rfl, fun j t ht => by
        rw [Tryd.params7] at ht
        rcases j with _ | j
        · obtain rfl : t = 40 := by simpa using ht.symm
          exact (show Tryd.prog.wantsStandIn 40 = false by kernel_rfl)
        · simp at ht⟩)
    (by kernel_rfl)
end Go.Proofs.YtcaecfofgdogbaaDoor.weekTurned
namespace Go.Proofs.YtcaecfofgdogbaaDoor
/-- the statement -/
theorem weekTurned_holds : Rows.WeekTurnedCardSaid := weekTurned.card
#print axioms weekTurned_holds
end Go.Proofs.YtcaecfofgdogbaaDoor
