/-
  WeekRows: the law returns true.
-/
import Derived.Test.YtcaecfofgdogbaaDoorRWhall
import Derived.Test.YtcaecfofgdogbaaDoorRV32
import Derived.Test.YtcaecfofgdogbaaDoorRows
import Derived.Test.YtcaecfofgdogbaaDoorCards
import Derived.Test.YtcaecfofgdogbaaDoorTie
import Derived.Test.YtcaecfofgdogbaaDoorRK3
import Derived.Test.YtcaecfofgdogbaaDoorRWpB
import Derived.Test.YtcaecfofgdogbaaDoorRV31
import Derived.WalkKit
import Derived.ProofKit
import Derived.OpenShut
import Derived.Lay
import Derived.SevenTiedAt
import Derived.MakeChecks
set_option linter.unusedSimpArgs false
set_option linter.unusedVariables false
namespace Go.Proofs.YtcaecfofgdogbaaDoor
open Go.V
set_option linter.unusedSectionVars false
def cc (D : List Nat) (s : Nat) : Nat := (D.filter fun M => M.testBit s).length
theorem cc_cons (M : Nat) (D : List Nat) (s : Nat) : cc (M :: D) s = (if M.testBit s then 1 else 0) + cc D s := by
  unfold cc
  rw [List.filter_cons]
  split <;> simp <;> omega
theorem okC_ok (M : Nat) : ∀ (l : List Nat) (s0 : Nat), (∀ j, j < l.length → M.testBit (s0 + j) = true → gn l j ≠ 0) → okC M s0 l = true
  | [], _, _ => rfl
  | c :: l, s0, h => by
    have h0 := h 0 (by simp)
    have ih := okC_ok M l (s0 + 1) fun j hj ht => by
      have := h (j + 1) (by simpa using hj) (by rw [show s0 + (j + 1) = s0 + 1 + j by omega]; exact ht)
      simpa [gn] using this
    rw [okC, ih, Bool.and_true]
    cases hb : M.testBit s0 with
    | false => rfl
    | true =>
      have := h0 (by simpa using hb)
      simp [gn] at this
      simp [this]
theorem sbC_len (M : Nat) : ∀ (l : List Nat) (s0 : Nat), (sbC M s0 l).length = l.length
  | [], _ => rfl
  | c :: l, s0 => by rw [sbC, List.length_cons, sbC_len M l, List.length_cons]
theorem sbC_get (M : Nat) : ∀ (l : List Nat) (s0 j : Nat), j < l.length → gn (sbC M s0 l) j = if M.testBit (s0 + j) then gn l j - 1 else gn l j
  | [], _, j, h => by simp at h
  | c :: l, s0, 0, _ => by
    rw [sbC]
    show (bif M.testBit s0 then c - 1 else c) = if M.testBit s0 = true then c - 1 else c
    cases M.testBit s0 <;> rfl
  | c :: l, s0, j + 1, h => by
    have ih := sbC_get M l (s0 + 1) j (by simpa using h)
    rw [sbC, show s0 + (j + 1) = s0 + 1 + j by omega]
    simpa [gn] using ih
theorem hall_sound (n k : Nat) : ∀ (d : Nat) (cols acc rest : List Nat), rest.length = d → (∀ M ∈ rest, M ∈ subs n k) → (∀ s, s < cols.length → gn cols s = cc rest s) → hallB n k d cols acc = true → fac (n - k) ≤ prm n (acc ++ rest) 0
  | 0, cols, acc, rest, hr, _, hc, hh => by
    have : rest = [] := List.eq_nil_of_length_eq_zero hr
    subst this
    rw [hallB] at hh
    have hz : cols.all (· == 0) = true := by
      rw [List.all_eq_true]
      intro c hcm
      obtain ⟨j, hj, rfl⟩ := List.getElem_of_mem hcm
      have := hc j hj
      simp [gn, cc, List.getD, hj] at this
      simp [this]
    rw [hz, Bool.not_true, Bool.false_or, Nat.ble_eq] at hh
    simpa using hh
  | d + 1, cols, acc, [], hr, _, _, _ => by simp at hr
  | d + 1, cols, acc, M :: rest, hr, hs, hc, hh => by
    rw [hallB, List.all_eq_true] at hh
    have h1 := hh M (hs M (.head _))
    have h2 : okC M 0 cols = true := okC_ok M cols 0 fun j hj ht => by
      rw [Nat.zero_add] at ht
      rw [hc j hj, cc_cons, if_pos ht]; omega
    rw [h2, Bool.not_true, Bool.false_or] at h1
    have := hall_sound n k d (sbC M 0 cols) (acc ++ [M]) rest (by simpa using hr) (fun M' h => hs M' (.tail _ h)) (fun s h => by
      rw [sbC_len] at h
      rw [sbC_get M cols 0 s h, Nat.zero_add, hc s h, cc_cons]
      split <;> omega) h1
    rwa [List.append_assoc, List.singleton_append] at this
theorem hall_all {n k : Nat} (hn : n ≤ 5) (hk : k < n) : hallB n k n (List.replicate n k) [] = true := by
  rcases (show n = 1 ∨ n = 2 ∨ n = 3 ∨ n = 4 ∨ n = 5 by omega) with rfl | rfl | rfl | rfl | rfl
  · obtain rfl : k = 0 := by omega
    exact hall1_0
  · rcases (show k = 0 ∨ k = 1 by omega) with rfl | rfl
    · exact hall2_0
    · exact hall2_1
  · rcases (show k = 0 ∨ k = 1 ∨ k = 2 by omega) with rfl | rfl | rfl
    · exact hall3_0
    · exact hall3_1
    · exact hall3_2
  · rcases (show k = 0 ∨ k = 1 ∨ k = 2 ∨ k = 3 by omega) with rfl | rfl | rfl | rfl
    · exact hall4_0
    · exact hall4_1
    · exact hall4_2
    · exact hall4_3
  · rcases (show k = 0 ∨ k = 1 ∨ k = 2 ∨ k = 3 ∨ k = 4 by omega) with rfl | rfl | rfl | rfl | rfl
    · exact hall5_0
    · exact hall5_1
    · exact hall5_2
    · exact hall5_3
    · exact hall5_4
def stp (D x : List Nat) : List Nat := List.zipWith (fun M s => M ||| 2 ^ s) D x
inductive Vp (n : Nat) : List (List Nat) → List Nat → Prop
  | nil : Vp n [] (List.replicate n 0)
  | snoc (X : List (List Nat)) (D x : List Nat) (h : Vp n X D) (hx : x ∈ ext n n []) (hf : fitB (X.map nL) x n 0 = true) : Vp n (X ++ [x]) (stp D x)
theorem pc_or : ∀ M : Nat, M < 32 → ∀ s : Nat, s < 5 → M.testBit s = false → pc (M ||| 2 ^ s) = pc M + 1 := by decide +kernel
theorem or_ltn : ∀ n : Nat, n < 6 → ∀ M : Nat, M < 2 ^ n → ∀ s : Nat, s < n → M ||| 2 ^ s < 2 ^ n := by decide +kernel
theorem subs_mem : ∀ n : Nat, n < 6 → 1 ≤ n → ∀ M : Nat, M < 2 ^ n → M ∈ subs n (pc M) := by decide +kernel
theorem pow_lt : ∀ n : Nat, n < 6 → 2 ^ n ≤ 32 := by decide
theorem ext_cnt : ∀ n : Nat, n < 6 → ∀ x ∈ ext n n [], ∀ s : Nat, s < n → x.count s = 1 := by decide +kernel
theorem gn_stp {D x : List Nat} {d : Nat} (h1 : d < D.length) (h2 : d < x.length) : gn (stp D x) d = gn D d ||| 2 ^ gn x d := by
  simp [gn, stp, List.getD, List.getElem?_zipWith, h1, h2]
theorem cc_stp (s : Nat) (hs : s < 5) : ∀ (D x : List Nat), D.length = x.length → (∀ d, d < D.length → gn D d < 32 ∧ gn x d < 5 ∧ (gn D d).testBit (gn x d) = false) → cc (stp D x) s = cc D s + x.count s
  | [], [], _, _ => rfl
  | [], _ :: _, h, _ => by simp at h
  | _ :: _, [], h, _ => by simp at h
  | M :: D, t :: x, h, hd => by
    have h0 := hd 0 (by simp)
    simp only [gn, List.getD_cons_zero] at h0
    have ih := cc_stp s hs D x (by simpa using h) fun d hd' => by
      have := hd (d + 1) (by simpa using hd')
      simpa [gn] using this
    show cc ((M ||| 2 ^ t) :: stp D x) s = _
    rw [cc_cons, cc_cons, ih, tst_or M h0.1 t h0.2.1 s hs, List.count_cons]
    by_cases e : s = t
    · subst e
      rw [h0.2.2]
      simp; omega
    · have : (t == s) = false := by simpa using fun h => e h.symm
      rw [this, decide_eq_false e]
      simp; omega
theorem metB_app (P : List (List Int)) (r : List Int) (d : Nat) (s : Int) : metB (P ++ [r]) d s = (metB P d s || (decide (d < r.length) && (en r d == s))) := by
  simp [metB, List.any_append]
theorem fitB_get {P : List (List Int)} {x : List Nat} : ∀ {f d : Nat}, fitB P x f d = true → ∀ j, d ≤ j → j < d + f → metB P j (gn x j : Nat) = false
  | 0, d, _, j, h1, h2 => by omega
  | f + 1, d, h, j, h1, h2 => by
    rw [fitB, Bool.and_eq_true, Bool.not_eq_true'] at h
    by_cases e : j = d
    · subst e; exact h.1
    · exact fitB_get h.2 j (by omega) (by omega)
structure Vd (n : Nat) (X : List (List Nat)) (D : List Nat) : Prop where
  len : D.length = n
  lt : ∀ d, d < n → gn D d < 2 ^ n
  pc : ∀ d, d < n → pc (gn D d) = X.length
  cc : ∀ s, s < n → cc D s = X.length
  met : ∀ d s, d < n → s < 5 → (gn D d).testBit s = metB (X.map nL) d (s : Nat)
theorem gn_mem {l : List Nat} {d : Nat} (h : d < l.length) : gn l d ∈ l := by simp [gn, List.getD, h]
theorem Vp.vd {n : Nat} (hn : n ≤ 5) {X : List (List Nat)} {D : List Nat} (h : Vp n X D) : Vd n X D := by
  induction h with
  | nil =>
    have hz : ∀ d, gn (List.replicate n 0) d = 0 := fun d => by simp [gn, List.getD, List.getElem?_replicate]; split <;> rfl
    refine ⟨by simp, fun d _ => by rw [hz]; exact Nat.two_pow_pos n, fun d _ => by rw [hz]; decide, fun s _ => ?_, fun d s _ _ => by rw [hz]; simp [metB]⟩
    simp [Go.Proofs.YtcaecfofgdogbaaDoor.cc]
  | snoc X D x h hx hf ih =>
    obtain ⟨e1, _⟩ := ext_get hx
    have hxl : x.length = n := by simpa using e1
    have hlt := ext_lt (n := n) (by simp) hx
    have h2 := pow_lt n (by omega)
    have hnot : ∀ d, d < n → (gn D d).testBit (gn x d) = false := fun d hd => by
      have := hlt _ (gn_mem (l := x) (d := d) (by omega))
      rw [ih.met d _ hd (by omega)]
      exact fitB_get hf d (by omega) (by omega)
    have hg : ∀ d, d < n → gn (stp D x) d = gn D d ||| 2 ^ gn x d := fun d hd => gn_stp (by rw [ih.len]; exact hd) (by omega)
    have hx5 : ∀ d, d < n → gn x d < n := fun d hd => hlt _ (gn_mem (by omega))
    refine ⟨by simp [stp, ih.len, hxl], fun d hd => ?_, fun d hd => ?_, fun s hs => ?_, fun d s hd hs => ?_⟩
    · rw [hg d hd]; exact or_ltn n (by omega) _ (ih.lt d hd) _ (hx5 d hd)
    · have := ih.lt d hd
      have := hx5 d hd
      rw [hg d hd, pc_or _ (by omega) _ (by omega) (hnot d hd), ih.pc d hd]; simp
    · rw [cc_stp s (by omega) D x (by rw [ih.len, hxl]) fun d hd => by
        rw [ih.len] at hd
        have := ih.lt d hd
        have := hx5 d hd
        exact ⟨by omega, by omega, hnot d hd⟩, ih.cc s hs, ext_cnt n (by omega) x hx s hs]
      simp
    · have := ih.lt d hd
      have hx' := hx5 d hd
      rw [hg d hd, tst_or _ (by omega) _ (by omega) s hs, ih.met d s hd hs, List.map_append, List.map_singleton, metB_app, nL_len, decide_eq_true (show d < x.length by omega), Bool.true_and, nL_en (by omega)]
      congr 1
      rw [Bool.eq_iff_iff, decide_eq_true_eq, beq_iff_eq]
      constructor
      · intro h; omega
      · intro h; omega
theorem sum_len {α β : Type} {g : α → List β} : ∀ L : List α, (L.flatMap g).length = (L.map fun x => (g x).length).sum
  | [] => rfl
  | x :: L => by rw [List.flatMap_cons, List.length_append, List.map_cons, List.sum_cons, sum_len L]
theorem prm_ok (n : Nat) (hn : n ≤ 5) (X : List (List Nat)) (D : List Nat) (hD : Vd n X D) : ∀ (f : Nat) (l : List Nat) (u : Nat), l.length + f = n → u < 32 → (∀ s ∈ l, s < n) → (∀ s, s < 5 → u.testBit s = decide (s ∈ l)) →
    ((ext n f l).filter fun x => fitB (X.map nL) x f l.length).length = prm n (D.drop l.length) u
  | 0, l, u, hl, _, _, _ => by
    rw [List.drop_eq_nil_of_le (by rw [hD.len]; omega)]
    simp [ext, fitB, prm]
  | f + 1, l, u, hl, hu, hs, hb => by
    have hd : l.length < n := by omega
    have ed : D.drop l.length = gn D l.length :: D.drop (l.length + 1) := by
      rw [List.drop_eq_getElem_cons (by rw [hD.len]; exact hd)]
      simp [gn, List.getD, hD.len, hd]
    have h2 := pow_lt n (by omega)
    have hM := hD.lt l.length hd
    rw [ext, filter_fm, sum_len, ed, prm]
    congr 1
    refine List.map_congr_left fun s hs' => ?_
    have hsn := List.mem_range.1 hs'
    rw [Nat.testBit_or, hb s (by omega), hD.met l.length s hd (by omega)]
    by_cases g : s ∈ l
    · rw [if_pos g, decide_eq_true g, Bool.or_true]; rfl
    · rw [if_neg g, decide_eq_false g, Bool.or_false]
      have hx : ∀ x ∈ ext n f (l ++ [s]), gn x l.length = s := fun x hx => by
        rw [(ext_get hx).2 l.length (by simp), gn_app2]
      have hq : (ext n f (l ++ [s])).filter (fun x => fitB (X.map nL) x (f + 1) l.length) = (ext n f (l ++ [s])).filter (fun x => !metB (X.map nL) l.length (s : Nat) && fitB (X.map nL) x f (l.length + 1)) := filter_congr' fun x h => by
        show (!metB (X.map nL) l.length (gn x l.length : Nat) && _) = _
        rw [hx x h]
      rw [hq]
      cases metB (X.map nL) l.length (s : Nat) with
      | true => simp
      | false =>
        have hl1 : (l ++ [s]).length = l.length + 1 := by simp
        have ih := prm_ok n hn X D hD f (l ++ [s]) (u ||| 2 ^ s) (by omega) (or_lt u hu s (by omega)) (fun t ht => by
          rcases List.mem_append.1 ht with ht | ht
          · exact hs t ht
          · obtain rfl := List.mem_singleton.1 ht
            exact hsn) (fun t ht => by
          rw [tst_or u hu s (by omega) t ht, hb t ht, Bool.eq_iff_iff]
          simp)
        rw [hl1] at ih
        simpa using ih
theorem fit_many {n : Nat} (hn : n ≤ 5) {X : List (List Nat)} {D : List Nat} (h : Vp n X D) (hk : X.length < n) : fac (n - X.length) ≤ (fitn n (X.map nL)).length := by
  have hD := h.vd hn
  have e := prm_ok n hn X D hD n [] 0 (by simp) (by omega) (by simp) (fun s _ => by simp)
  rw [show (fitn n (X.map nL)).length = _ from e, List.length_nil, List.drop_zero]
  have := hall_sound n X.length n (List.replicate n X.length) [] D hD.len (fun M hM => by
    obtain ⟨d, hd, rfl⟩ := List.getElem_of_mem hM
    rw [hD.len] at hd
    have e2 : D[d]'(by rw [hD.len]; exact hd) = gn D d := by simp [gn, List.getD, hD.len, hd]
    rw [e2, ← hD.pc d hd]
    exact subs_mem n (by omega) (by omega) _ (hD.lt d hd)) (fun s hs => by
    rw [List.length_replicate] at hs
    rw [hD.cc s hs]
    simp [gn, List.getD, hs]) (hall_all hn hk)
  simpa using this
theorem ext_mem {n : Nat} : ∀ (f : Nat) (l x : List Nat), x.length = l.length + f → x.take l.length = l → (∀ s ∈ x, s < n) → (∀ k, k < x.length → gn x k ∉ x.take k) → x ∈ ext n f l
  | 0, l, x, hl, ht, _, _ => by
    rw [List.take_of_length_le (by omega)] at ht
    rw [ht]; exact .head _
  | f + 1, l, x, hl, ht, hs, hd => by
    have h1 : l.length < x.length := by omega
    rw [ext, List.mem_flatMap]
    refine ⟨gn x l.length, List.mem_range.2 (hs _ (gn_mem h1)), ?_⟩
    have h2 := hd l.length h1
    rw [ht] at h2
    rw [if_neg h2]
    refine ext_mem f _ x (by simp; omega) ?_ hs hd
    rw [List.length_append, List.length_singleton, List.take_succ_eq_append_getElem h1, ht]
    congr 2
    simp [gn, List.getD, h1]
theorem dayE_zero {n : Int} {P : List (List Int)} {r : List Int} : ∀ {f k : Nat}, dayE n P r f k = 0 → ∀ j, k ≤ j → j < k + f → 0 ≤ en r j ∧ en r j < n ∧ en r j ∉ r.take j ∧ metB P j (en r j) = false
  | 0, k, _, j, h1, h2 => by omega
  | f + 1, k, h, j, h1, h2 => by
    rw [dayE] at h
    split at h
    · cases h
    · rename_i a1
      split at h
      · cases h
      · rename_i a2
        split at h
        · cases h
        · rename_i a3
          split at h
          · cases h
          · rename_i a4
            by_cases e : j = k
            · subst e
              exact ⟨by omega, by omega, a3, by unfold metB; simpa using a4⟩
            · exact dayE_zero h j (by omega) (by omega)
theorem nL_toNat {r : List Int} (h : ∀ k, k < r.length → 0 ≤ en r k) : nL (r.map Int.toNat) = r := by
  refine list_en (by simp [nL]) fun d hd => ?_
  have hd' : d < r.length := by simpa [nL] using hd
  have := h d hd'
  rw [nL_en (by simpa using hd')]
  have e : gn (r.map Int.toNat) d = (en r d).toNat := by simp [gn, en, List.getD, hd']
  rw [e]; omega
theorem rowE_zero {n : Nat} {w : Int} {L : List (List Int)} : ∀ {f i : Nat}, rowE n w L f i = 0 → ∀ j, i ≤ j → j < i + f → ((ro L j).length : Int) = w ∧ w ≤ n ∧ dayE n (L.take j) (ro L j) (ro L j).length 0 = 0
  | 0, i, _, j, h1, h2 => by omega
  | f + 1, i, h, j, h1, h2 => by
    rw [rowE] at h
    split at h
    · cases h
    · rename_i a1
      split at h
      · cases h
      · rename_i a2
        split at h
        · rename_i a3; exact absurd h a3
        · rename_i a3
          by_cases e : j = i
          · subst e
            exact ⟨by omega, by omega, by omega⟩
          · exact rowE_zero h j (by omega) (by omega)
theorem fitB_mk {P : List (List Int)} {x : List Nat} : ∀ {f d : Nat}, (∀ j, d ≤ j → j < d + f → metB P j (gn x j : Nat) = false) → fitB P x f d = true
  | 0, _, _ => rfl
  | f + 1, d, h => by
    rw [fitB, h d (by omega) (by omega), fitB_mk fun j h1 h2 => h j (by omega) (by omega)]; rfl
theorem plan_vp {n : Nat} {L : List (List Int)} (h : ∀ j, j < L.length → ((ro L j).length : Int) = n ∧ dayE n (L.take j) (ro L j) (ro L j).length 0 = 0) : ∀ i, i ≤ L.length → ∃ X D, Vp n X D ∧ X.map nL = L.take i
  | 0, _ => ⟨[], _, .nil, by simp⟩
  | i + 1, hi => by
    obtain ⟨X, D, h1, h2⟩ := plan_vp h i (by omega)
    obtain ⟨a1, a2⟩ := h i (by omega)
    have hz := fun j (hj : j < (ro L i).length) => dayE_zero a2 j (by omega) (by omega)
    have en' : nL ((ro L i).map Int.toNat) = ro L i := nL_toNat fun k hk => (hz k hk).1
    have ge : ∀ k, k < (ro L i).length → gn ((ro L i).map Int.toNat) k = (en (ro L i) k).toNat := fun k hk => by simp [gn, en, List.getD, hk]
    refine ⟨X ++ [(ro L i).map Int.toNat], _, .snoc X D _ h1 ?_ ?_, ?_⟩
    · refine ext_mem n [] _ (by simp; omega) rfl (fun s hs => ?_) (fun k hk => ?_)
      · obtain ⟨k, hk, rfl⟩ := List.getElem_of_mem hs
        have hk' : k < (ro L i).length := by simpa using hk
        have := hz k hk'
        have e := ge k hk'
        simp only [gn, List.getD, hk, List.getElem?_eq_getElem, Option.getD_some] at e
        rw [e]; omega
      · have hk' : k < (ro L i).length := by simpa using hk
        have hzk := hz k hk'
        rw [ge k hk']
        intro hm
        apply hzk.2.2.1
        rw [← List.map_take, List.mem_map] at hm
        obtain ⟨y, hy, e⟩ := hm
        obtain ⟨q, hq, rfl⟩ := List.getElem_of_mem hy
        have hq2 : q < (ro L i).length := by
          rw [List.length_take] at hq; omega
        have := (hz q hq2).1
        have eq : ((ro L i).take k)[q] = en (ro L i) q := by simp [en, List.getD, hq2]
        rw [eq] at e
        have : en (ro L i) q = en (ro L i) k := by omega
        rw [← this, ← eq]
        exact List.getElem_mem hq
    · refine fitB_mk fun j _ hj => ?_
      have hj' : j < (ro L i).length := by omega
      have := hz j hj'
      rw [ge j hj', h2]
      rw [show (((en (ro L i) j).toNat : Nat) : Int) = en (ro L i) j by omega]
      exact this.2.2.2
    · rw [List.map_append, h2, List.map_singleton, en', ← take_ro (by omega)]
theorem chkE_zero {x w : Int} {L : List (List Int)} (h : chkE x w L = 0) : 1 ≤ x ∧ x ≤ 5 ∧ (L.length : Int) ≤ x ∧ rowE x w L L.length 0 = 0 := by
  unfold chkE at h
  split at h
  · cases h
  · split at h
    · cases h
    · split at h
      · cases h
      · exact ⟨by omega, by omega, by omega, h⟩
theorem plan_ok {n : Nat} {L : List (List Int)} (h : chkE n n L = 0) : ∃ X D, Vp n X D ∧ X.map nL = L := by
  obtain ⟨h1, h2, h3, h4⟩ := chkE_zero h
  obtain ⟨X, D, e1, e2⟩ := plan_vp (n := n) (L := L) (fun j hj => by
    have := rowE_zero h4 j (by omega) (by omega)
    exact ⟨this.1, this.2.2⟩) L.length (by omega)
  exact ⟨X, D, e1, by rw [e2, List.take_length]⟩
theorem check_ok (N : Nat) (hN : 2000 ≤ N) (x : Int) (L : List (List Int)) (hL : L.length ≤ 1000) (hr : ∀ r ∈ L, r.length ≤ 1000) : m23 N x (.lst false L.length (rwsP L)) = some (.int .i64 (chkE x x L)) ∧ m24 N x (.lst false L.length (rwsP L)) = some (.int .i64 (chkE x x L)) := by
  obtain ⟨T, e, _⟩ := opened_ok N hN x x L hL hr
  constructor
  · rw [m23, getL_t, e, bnd_t]
    unfold opE
    by_cases h : chkE x x L = 0
    · simp only [if_pos h]; rw [h]
    · simp only [if_neg h]
  · rw [m24, getL_t, checked_ok N hN x x L hL hr, bnd_t, getI_t]
def cntE (x : Int) (L : List (List Int)) : Int × Int := if chkE x x L ≠ 0 then (0, chkE x x L) else if (L.length : Int) = x then (0, 16) else (((fitn x.toNat L).length : Nat), 0)
theorem fitn_le {n : Nat} (hn : n ≤ 5) (L : List (List Int)) : (fitn n L).length ≤ 3125 := by
  have h1 := ext_card (n := n) n []
  have h2 := pow5 (f := n) hn hn
  have h3 := List.length_filter_le (fun l => fitB L l n 0) (ext n n [])
  unfold fitn; omega
theorem row_fit {n : Nat} (hn : n ≤ 5) {L : List (List Int)} (hp : L.length < n) {T : T3} (hT : ∀ r', Rp L L.length r' 0 T) (F : Nat) (hF : n + 2 ≤ F) : (cmpl n (L.length + 1) F L.length 0 T).map (rowOf n L.length) = (fitn n L).map nL :=
  row_cmpl n hn L L.length hp n [] T F (by simp) (by simp) (hT _) (by omega)
theorem row_cnt {n : Nat} (hn : n ≤ 5) {L : List (List Int)} (hp : L.length < n) {T : T3} (hT : ∀ r', Rp L L.length r' 0 T) (F : Nat) (hF : n + 2 ≤ F) : (cmpl n (L.length + 1) F L.length 0 T).length = (fitn n L).length := by
  have := congrArg List.length (row_fit hn hp hT F hF)
  simpa using this
theorem count_ok (N : Nat) (hN : 5000 ≤ N) (x : Int) (L : List (List Int)) (hL : L.length ≤ 1000) (hr : ∀ r ∈ L, r.length ≤ 1000) : m25 N x (.lst false L.length (rwsP L)) = some (.tup [.int .i64 (cntE x L).1, .int .i64 (cntE x L).2]) ∧ m26 N x (.lst false L.length (rwsP L)) = some (.tup [.int .i64 (cntE x L).1, .int .i64 (cntE x L).2]) := by
  obtain ⟨T, e, hT⟩ := opened_ok N (by omega) x x L hL hr
  have hc := (check_ok N (by omega) x L hL hr).2
  constructor
  · rw [m25, getL_t, e, bnd_t]
    unfold opE cntE
    by_cases h : chkE x x L = 0
    · simp only [if_pos h]
      rw [brn_nf rfl, if_neg (show ¬ chkE x x L ≠ 0 by simpa using h)]
      obtain ⟨h1, h2, h3, h4⟩ := chkE_zero h
      by_cases h5 : (L.length : Int) = x
      · rw [brn_et h5, if_pos h5]
      · rw [brn_ef h5, if_neg h5]
        obtain ⟨n, rfl⟩ : ∃ n : Nat, x = (n : Int) := ⟨x.toNat, by omega⟩
        rw [toNatN]
        have hT' := hT h
        have fl := fitn_le (n := n) (by omega) L
        have rc := row_cnt (n := n) (by omega) (by omega) hT' 100 (by omega)
        have c := cnt_ok N n (L.length + 1) L.length (by omega) (by omega) (by omega) 100 N L.length 0 0 T (hT' []).tv (by omega) (by rw [Nat.add_sub_cancel_left]; omega) (by omega) (by omega) (by omega)
        rw [rc, Nat.zero_add] at c
        rw [m64_2, m114, bnd_t, getT2_t, getI_t, getI_t, wrapN (by omega)]
        rw [show m88_2 N N (L.length : Int) 0 ((L.length + 1 : Nat) : Int) (L.length : Int) 0 (tP n T) = _ from c, bnd_t]
        show bnd' (getB (.bool false) _) _ = _
        rw [getB_t, bnd_t]
        show getT0 (.tup []) _ = _
        rw [getT0_t, m69, bnd_t, getI_t]
    · simp only [if_neg h]
      rw [brn_nt h, if_pos h]
  · rw [m26, getL_t, m66, getL_t, hc, bnd_t, getI_t]
    unfold cntE
    by_cases h : chkE x x L = 0
    · rw [brn_et h, if_neg (show ¬ chkE x x L ≠ 0 by simpa using h)]
      obtain ⟨h1, h2, h3, h4⟩ := chkE_zero h
      by_cases h5 : (L.length : Int) = x
      · rw [brn_et h5, if_pos h5, bnd_t, getI_t, brn_nt (by decide)]
      · rw [brn_ef h5, if_neg h5, bnd_t, getI_t, brn_nf h]
        obtain ⟨n, rfl⟩ : ∃ n : Nat, x = (n : Int) := ⟨x.toNat, by omega⟩
        rw [fitting_ok N n hN (by omega) L hL, bnd_t, getL_t, toNatN]
    · rw [brn_ef h, if_pos h, bnd_t, getI_t, brn_nt h]
def nxtE (x : Int) (L : List (List Int)) : List Int × Int := if chkE x x L ≠ 0 then ([], chkE x x L) else if (L.length : Int) = x then ([], 16) else (nL ((fitn x.toNat L).headD []), 0)
def rowsE (n : Nat) (A : List Int) : List (List Int) := (List.range n).map fun j => (A.drop (j * 5)).take n
theorem rows_L (N n : Nat) (hN : 5000 ≤ N) (hn1 : 1 ≤ n) (hn : n ≤ 5) (A : List Int) (hA : A.length = 25) : ∀ (f i fuel : Nat), n - i = f → f < fuel → i ≤ n →
    m65_L0 N (n : Int) (iL A) fuel i (i : Int) (rwsP ((List.range i).map fun j => (A.drop (j * 5)).take n)) = some (n, rwsP (rowsE n A))
  | f, i, 0, _, h, _ => by omega
  | 0, i, fuel + 1, hf, _, hi => by
    have : i = n := by omega
    subst this
    rw [m65_L0, brn_df (by omega)]; rfl
  | f + 1, i, fuel + 1, hf, hfu, hi => by
    have e1 : List.take n (List.drop (i * 5) (iL A)) = iL ((A.drop (i * 5)).take n) := by simp [iL, List.map_drop, List.map_take]
    have hl : ((A.drop (i * 5)).take n).length = n := by rw [List.length_take, List.length_drop]; omega
    have c : m56 N (.lst false n (iL ((A.drop (i * 5)).take n))) = some (rwP ((A.drop (i * 5)).take n)) := by
      rw [m56, getL_t, grd_t (by omega), grd_t (by rw [iL_len]; exact hl), grd_t (by omega)]
      unfold rwP; rw [hl]
    have ih := rows_L N n hN hn1 hn A hA f (i + 1) fuel (by omega) (by omega) (by omega)
    have e2 : rwsP ((List.range i).map fun j => (A.drop (j * 5)).take n) ++ [rwP ((A.drop (i * 5)).take n)] = rwsP ((List.range (i + 1)).map fun j => (A.drop (j * 5)).take n) := by
      rw [rws_app, List.range_succ, List.map_append]; rfl
    rw [m65_L0, brn_dt (by omega), grd_t ⟨by omega, by omega⟩, grd_t ⟨by omega, by omega⟩, toNatN, toNatN, e1, c, bnd_t]
    show getL (.lst false _ _) _ = _
    rw [getL_t, grd_t (by omega), grd_t (by rw [rws_len]; simp), wrapN (by omega)]
    show m65_L0 N (n : Int) (iL A) fuel (i + 1) ((i + 1 : Nat) : Int) (rwsP ((List.range i).map fun j => (A.drop (j * 5)).take n) ++ [rwP ((A.drop (i * 5)).take n)]) = _
    rw [e2, ih]
theorem getA_t {α : Type} {c : List PV} {f : List PV → Option α} : getA (.agg c) f = f c := rfl
theorem rows_ok' (N n : Nat) (hN : 5000 ≤ N) (hn1 : 1 ≤ n) (hn : n ≤ 5) (A : List Int) (hA : A.length = 25) : m65 N (.agg (iL A)) (n : Int) = some (.lst false n (rwsP (rowsE n A))) := by
  have := rows_L N n hN hn1 hn A hA n 0 N (by omega) (by omega) (by omega)
  rw [m65, getA_t, show m65_L0 N (n : Int) (iL A) N 0 0 [] = _ from this, bnd_t]
  show grd _ _ = _
  rw [grd_t (by rw [rws_len]; simp [rowsE])]
theorem oneP_A (a b : Nat) (z : Bool) (A : List Int) (hA : A.length = 25) : List.take 25 (List.drop 3 (oneP a b z A)) = iL A := by
  have : List.drop 3 (oneP a b z A) = iL A := rfl
  rw [this, List.take_of_length_le (by rw [iL_len]; omega)]
theorem search_one (N n : Nat) (hN : 5000 ≤ N) (a b : Nat) (A : List Int) (hA : A.length = 25) (T : T3) (R : List T3) (h : m88 N N (a : Int) 0 (b : Int) (oneP a b false A) (tP n T) = some (oneR n a b false A T R)) :
    m64 N (tP n T) (oneP a b false A) = some (.tup [], (oneR n a b false A T R).2.2, (oneR n a b false A T R).2.1) := by
  rw [m64, m112, grd_t (by simp [oneP]), show gp (oneP a b false A) 0 = .int .i64 (a : Int) from rfl, getI_t, grd_t (by simp [oneP]), show gp (oneP a b false A) 1 = .int .i64 (b : Int) from rfl, getI_t, bnd_t, getT2_t, getI_t, getI_t, h, bnd_t]
  cases R <;> rfl
theorem fit_cons {n : Nat} (hn : n ≤ 5) {L : List (List Int)} (h : chkE n n L = 0) (hp : L.length < n) : ∃ y l, fitn n L = y :: l := by
  obtain ⟨X, D, h1, rfl⟩ := plan_ok h
  have hm := fit_many hn h1 (by simpa using hp)
  have hf : ∀ m, 1 ≤ fac m := fun m => by
    induction m with
    | zero => exact Nat.le_refl _
    | succ m ih => rw [fac]; exact Nat.le_trans ih (Nat.le_mul_of_pos_left _ (by omega))
  have h0 := hf (n - X.length)
  cases e : fitn n (X.map nL) with
  | nil => rw [e] at hm; simp at hm; omega
  | cons y l => exact ⟨y, l, rfl⟩
theorem next_ok (N : Nat) (hN : 5000 ≤ N) (x : Int) (L : List (List Int)) (hL : L.length ≤ 1000) (hr : ∀ r ∈ L, r.length ≤ 1000) : m19 N x (.lst false L.length (rwsP L)) = some (.tup [rwP (nxtE x L).1, .int .i64 (nxtE x L).2]) ∧ m20 N x (.lst false L.length (rwsP L)) = some (.tup [rwP (nxtE x L).1, .int .i64 (nxtE x L).2]) := by
  obtain ⟨T, e, hT⟩ := opened_ok N (by omega) x x L hL hr
  have hc := (check_ok N (by omega) x L hL hr).2
  constructor
  · rw [m19, getL_t, e, bnd_t]
    unfold opE nxtE
    by_cases h : chkE x x L = 0
    · simp only [if_pos h]
      rw [brn_nf rfl, if_neg (show ¬ chkE x x L ≠ 0 by simpa using h)]
      obtain ⟨h1, h2, h3, h4⟩ := chkE_zero h
      by_cases h5 : (L.length : Int) = x
      · rw [brn_et h5, if_pos h5]; rfl
      · rw [brn_ef h5, if_neg h5]
        obtain ⟨n, rfl⟩ : ∃ n : Nat, x = (n : Int) := ⟨x.toNat, by omega⟩
        rw [toNatN]
        have hT' := hT h
        obtain ⟨y, l, hy⟩ := fit_cons (n := n) (by omega) h (by omega)
        have rf := row_fit (n := n) (by omega) (by omega) hT' 100 (by omega)
        rw [hy] at rf ⊢
        have c := one_ok N n (L.length + 1) L.length (L.length + 1) (by omega) (by omega) (by omega) false (List.replicate 25 0) (by simp) 100 N L.length 0 T (hT' []).tv (by omega) (by rw [Nat.add_sub_cancel_left]; omega) (by omega) (by omega)
        have sg := search_one N n hN L.length (L.length + 1) (List.replicate 25 0) (by simp) T _ c
        cases hR : cmpl n (L.length + 1) 100 L.length 0 T with
        | nil => rw [hR] at rf; cases rf
        | cons T' R =>
          rw [hR] at rf sg
          simp only [List.map_cons, List.cons.injEq] at rf
          have hT2 : T'.1.length = 25 := by
            have hm : ∀ (f i k : Nat) (T1 T2 : T3), T2 ∈ cmpl n (L.length + 1) f i k T1 → T2.1.length = T1.1.length := by
              intro f
              induction f with
              | zero => intro i k T1 T2 h; cases h
              | succ f ih =>
                intro i k T1 T2 h
                rw [cmpl] at h
                split at h
                · obtain rfl := List.mem_singleton.1 h; rfl
                · split at h
                  · exact ih _ _ _ _ h
                  · split at h
                    · exact ih _ _ _ _ h
                    · obtain ⟨s, _, h⟩ := List.mem_flatMap.1 h
                      rw [ih _ _ _ _ h]; simp [putT]
            rw [hm 100 L.length 0 T T' (by rw [hR]; exact .head _)]
            exact (hT' []).tv.tb.la
          rw [wrapN (by omega)]
          show bnd' (m64 N (tP n T) (oneP L.length (L.length + 1) false (List.replicate 25 0))) _ = _
          rw [sg, bnd_t]
          show getT0 (.tup []) _ = _
          rw [getT0_t]
          show grd (28 ≤ List.length (oneP L.length (L.length + 1) true T'.1)) _ = _
          rw [grd_t (by simp [oneP, iL_len, hT2]), show List.take 25 (List.drop 3 (oneR n L.length (L.length + 1) false (List.replicate 25 0) T (T' :: R)).2.1) = iL T'.1 from oneP_A _ _ _ _ hT2, rows_ok' N n hN (by omega) (by omega) T'.1 hT2, bnd_t, getL_t, grd_t ⟨by omega, by omega⟩]
          have hl : (rowsE n T'.1).length = n := by simp [rowsE]
          have hro : ro (rowsE n T'.1) L.length = nL y := by
            rw [← rf.1]
            have : L.length < n := by omega
            simp [ro, rowsE, List.getD, this, rowOf]
          rw [grd_t (by rw [List.length_drop, rws_len, hl]; omega), rws_gp (by omega), getL_t, hro]
          rfl
    · simp only [if_neg h]
      rw [brn_nt h, if_pos h]; rfl
  · rw [m20, getL_t, m66, getL_t, hc, bnd_t, getI_t]
    unfold nxtE
    by_cases h : chkE x x L = 0
    · rw [brn_et h, if_neg (show ¬ chkE x x L ≠ 0 by simpa using h)]
      obtain ⟨h1, h2, h3, h4⟩ := chkE_zero h
      by_cases h5 : (L.length : Int) = x
      · rw [brn_et h5, if_pos h5, bnd_t, getI_t, brn_nt (by decide)]; rfl
      · rw [brn_ef h5, if_neg h5, bnd_t, getI_t, brn_nf h]
        obtain ⟨n, rfl⟩ : ∃ n : Nat, x = (n : Int) := ⟨x.toNat, by omega⟩
        obtain ⟨y, l, hy⟩ := fit_cons (n := n) (by omega) h (by omega)
        rw [fitting_ok N n hN (by omega) L hL, bnd_t, getL_t, toNatN, hy, grd_t (by simp <;> omega), grd_t (by simp [rwsP]), rws_gp (by simp), getL_t]
        rfl
    · rw [brn_ef h, if_pos h, bnd_t, getI_t, brn_nt h]; rfl
def freD (n : Nat) (L : List (List Int)) (d : Nat) : List Nat := (List.range n).filter fun s => !metB L d (s : Nat)
def freE (x : Int) (L : List (List Int)) : List (List Int) × Int := if chkE x x L ≠ 0 then ([], chkE x x L) else ((List.range x.toNat).map fun d => nL (freD x.toNat L d), 0)
theorem list_L (N : Nat) : ∀ (X fuel : Nat) (A : List Nat), X < 32 → X < fuel → A.length + (bits X).length ≤ 1000 → m62_L0 N fuel (X : Int) A.length (iL (nL A)) = some (A.length + (bits X).length, iL (nL (A ++ bits X)))
  | X, 0, _, _, h, _ => by omega
  | X, fuel + 1, A, hX, hf, hA => by
    rw [m62_L0]
    by_cases h0 : X = 0
    · subst h0
      rw [brn_nf (by simp), bits_zero]; simp
    · obtain ⟨b1, b2, b3⟩ := bits_step X hX h0
      rw [b1, List.length_cons] at hA ⊢
      have ih := list_L N (X &&& (X - 1)) fuel (A ++ [low X]) (by omega) (by omega) (by simp; omega)
      rw [List.length_append, List.length_singleton, List.append_assoc, List.singleton_append] at ih
      rw [brn_nt (by omega), tz_ok N X hX h0, bnd_t, getI_t, grd_t (by omega), grd_t (by rw [iL_len, nL_len]), b_rest X hX h0, iL_app, show nL A ++ [(low X : Int)] = nL (A ++ [low X]) by simp [nL], ih]
      congr 2; omega
theorem bits_le (X : Nat) : (bits X).length ≤ 5 := by
  have := List.length_filter_le (fun s => X.testBit s) (List.range 5)
  simpa [bits] using this
theorem list_ok (N : Nat) (hN : 5000 ≤ N) (X : Nat) (hX : X < 32) : m62 N (X : Int) = some (rwP (nL (bits X))) := by
  have b := bits_le X
  have := list_L N X N [] hX (by omega) (by simp; omega)
  rw [m62, show m62_L0 N N (X : Int) 0 [] = _ from this, bnd_t]
  show grd _ _ = _
  simp only [List.length_nil, Nat.zero_add, List.nil_append]
  rw [grd_t (by rw [iL_len, nL_len])]
  unfold rwP; rw [nL_len]
theorem free_L (N n : Nat) (hN : 5000 ≤ N) (hn : n ≤ 5) (L : List (List Int)) (T : T3) (hT : Rp L L.length [] 0 T) : ∀ (f d fuel : Nat), n - d = f → f < fuel → d ≤ n →
    m17_L1 N (n : Int) (tP n T) fuel d (d : Int) (rwsP ((List.range d).map fun d => nL (freD n L d))) = some (n, rwsP ((List.range n).map fun d => nL (freD n L d)))
  | f, d, 0, _, h, _ => by omega
  | 0, d, fuel + 1, hf, _, hd => by
    have : d = n := by omega
    subst this
    rw [m17_L1, brn_df (by omega)]
  | f + 1, d, fuel + 1, hf, hfu, hd => by
    have hl := tbl_len (n := n) hT.tv.tb
    have ih := free_L N n hN hn L T hT f (d + 1) fuel (by omega) (by omega) (by omega)
    have hX := diff_lt _ (all_lt n (by omega)) _ (hT.tv.tb.d32 d (by omega))
    have hb : bits ((2 ^ n - 1) &&& (31 - bn T.2.2 d)) = freD n L d := by
      unfold bits freD
      have : List.range 5 = List.range n ++ (List.range (5 - n)).map (n + ·) := by rw [← List.range_add, show n + (5 - n) = 5 by omega]
      rw [this, List.filter_append]
      have z : ((List.range (5 - n)).map (n + ·)).filter (fun s => ((2 ^ n - 1) &&& (31 - bn T.2.2 d)).testBit s) = [] := by
        rw [List.filter_eq_nil_iff]
        intro s hs
        obtain ⟨j, hj, rfl⟩ := List.mem_map.1 hs
        have := List.mem_range.1 hj
        rw [tst_diff _ (all_lt n (by omega)) _ (hT.tv.tb.d32 d (by omega)) _ (by omega), tst_all n (by omega) _ (by omega), decide_eq_false (by omega)]
        simp
      rw [z, List.append_nil]
      refine filter_congr' fun s hs => ?_
      have hs := List.mem_range.1 hs
      rw [tst_diff _ (all_lt n (by omega)) _ (hT.tv.tb.d32 d (by omega)) _ (by omega), tst_all n (by omega) _ (by omega), decide_eq_true hs, Bool.true_and]
      congr 1
      rw [Bool.eq_iff_iff, hT.d d s (by omega) (by omega)]
      unfold metB
      rw [List.any_eq_true]
      constructor
      · rintro (⟨q, hq, h5, h6⟩ | h5)
        · exact ⟨q, hq, by simp [h5, h6]⟩
        · omega
      · rintro ⟨q, hq, h5⟩
        simp only [Bool.and_eq_true, decide_eq_true_eq, beq_iff_eq] at h5
        exact .inl ⟨q, hq, h5⟩
    have e2 : rwsP ((List.range d).map fun d => nL (freD n L d)) ++ [rwP (nL (freD n L d))] = rwsP ((List.range (d + 1)).map fun d => nL (freD n L d)) := by
      rw [rws_app, List.range_succ, List.map_append]; rfl
    rw [m17_L1, brn_dt (by omega), grd_t (by omega), grd_t ⟨by omega, by omega⟩, toNatN, toNatN, grd_t (by unfold tP; omega)]
    rw [show gp (tP n T) (31 + d) = .int .u64 (bn T.2.2 d : Int) from gp_d hT.tv.tb (by omega), getU_t, b_all n (by omega), b_diff _ (all_lt n (by omega)) _ (hT.tv.tb.d32 d (by omega)), list_ok N hN _ hX, hb, bnd_t]
    show getL (.lst false _ _) _ = _
    rw [getL_t, grd_t (by omega), grd_t (by rw [rws_len]; simp), wrapN (by omega)]
    show m17_L1 N (n : Int) (tP n T) fuel (d + 1) ((d + 1 : Nat) : Int) (rwsP ((List.range d).map fun d => nL (freD n L d)) ++ [rwP (nL (freD n L d))]) = _
    rw [e2, ih]
theorem fre_L1 (N n : Nat) (hN : 5000 ≤ N) (hn : n ≤ 5) (L : List (List Int)) (hL : L.length ≤ 1000) (d a : Nat) (c : List PV) : ∀ (f s fuel : Nat) (A : List Nat), n - s = f → f < fuel → A.length ≤ s → s ≤ n →
    m18_L1 N (n : Int) L.length (rwsP L) a (d : Int) c fuel A.length (s : Int) (iL (nL A)) = some ((A ++ (List.range' s (n - s)).filter fun s => !metB L d (s : Nat)).length, iL (nL (A ++ (List.range' s (n - s)).filter fun s => !metB L d (s : Nat))))
  | f, s, 0, _, _, h, _, _ => by omega
  | 0, s, fuel + 1, A, hf, _, _, hs => by
    rw [m18_L1, brn_df (by omega), show n - s = 0 by omega]; simp
  | f + 1, s, fuel + 1, A, hf, hfu, hA, hs => by
    rw [m18_L1, brn_dt (by omega), met_ok N (by omega) d (s : Nat) L hL, bnd_t, getB_t, range'_step (show s < n by omega), List.filter_cons, wrapN (by omega)]
    cases metB L d (s : Nat) with
    | true =>
      rw [brn_t rfl, if_neg (by simp)]
      exact fre_L1 N n hN hn L hL d a c f (s + 1) fuel A (by omega) (by omega) (by omega) (by omega)
    | false =>
      have ih := fre_L1 N n hN hn L hL d a c f (s + 1) fuel (A ++ [s]) (by omega) (by omega) (by simp; omega) (by omega)
      rw [List.length_append, List.length_singleton, List.append_assoc, List.singleton_append] at ih
      rw [brn_f rfl, if_pos (by simp), grd_t (by omega), grd_t (by rw [iL_len, nL_len]), iL_app, show nL A ++ [(s : Int)] = nL (A ++ [s]) by simp [nL], ih]
theorem fre_L0 (N n : Nat) (hN : 5000 ≤ N) (hn : n ≤ 5) (L : List (List Int)) (hL : L.length ≤ 1000) : ∀ (f d fuel : Nat), n - d = f → f < fuel → d ≤ n →
    m18_L0 N (n : Int) L.length (rwsP L) fuel d (d : Int) (rwsP ((List.range d).map fun d => nL (freD n L d))) = some (n, rwsP ((List.range n).map fun d => nL (freD n L d)))
  | f, d, 0, _, h, _ => by omega
  | 0, d, fuel + 1, hf, _, hd => by
    have : d = n := by omega
    subst this
    rw [m18_L0, brn_df (by omega)]
  | f + 1, d, fuel + 1, hf, hfu, hd => by
    have ih := fre_L0 N n hN hn L hL f (d + 1) fuel (by omega) (by omega) (by omega)
    have e := fre_L1 N n hN hn L hL d d (rwsP ((List.range d).map fun d => nL (freD n L d))) n 0 N [] (by omega) (by omega) (by simp) (by omega)
    rw [List.nil_append, Nat.sub_zero, ← List.range_eq_range'] at e
    have e2 : rwsP ((List.range d).map fun d => nL (freD n L d)) ++ [rwP (nL (freD n L d))] = rwsP ((List.range (d + 1)).map fun d => nL (freD n L d)) := by
      rw [rws_app, List.range_succ, List.map_append]; rfl
    rw [m18_L0, brn_dt (by omega), show m18_L1 N (n : Int) L.length (rwsP L) d (d : Int) (rwsP ((List.range d).map fun d => nL (freD n L d))) N 0 0 [] = _ from e, bnd_t]
    show grd _ _ = _
    rw [grd_t (by omega), grd_t (by rw [rws_len]; simp), grd_t (by rw [iL_len, nL_len]), wrapN (by omega)]
    have e3 : PV.lst false (freD n L d).length (iL (nL (freD n L d))) = rwP (nL (freD n L d)) := by unfold rwP; rw [nL_len]
    show m18_L0 N (n : Int) L.length (rwsP L) fuel (d + 1) ((d + 1 : Nat) : Int) (rwsP ((List.range d).map fun d => nL (freD n L d)) ++ [PV.lst false (freD n L d).length (iL (nL (freD n L d)))]) = _
    rw [e3, e2, ih]
theorem free_ok (N : Nat) (hN : 5000 ≤ N) (x : Int) (L : List (List Int)) (hL : L.length ≤ 1000) (hr : ∀ r ∈ L, r.length ≤ 1000) : m17 N x (.lst false L.length (rwsP L)) = some (.tup [.lst false (freE x L).1.length (rwsP (freE x L).1), .int .i64 (freE x L).2]) ∧ m18 N x (.lst false L.length (rwsP L)) = some (.tup [.lst false (freE x L).1.length (rwsP (freE x L).1), .int .i64 (freE x L).2]) := by
  obtain ⟨T, e, hT⟩ := opened_ok N (by omega) x x L hL hr
  have hc := (check_ok N (by omega) x L hL hr).2
  constructor
  · rw [m17, getL_t, e, bnd_t]
    unfold opE freE
    by_cases h : chkE x x L = 0
    · simp only [if_pos h]
      obtain ⟨h1, h2, h3, h4⟩ := chkE_zero h
      obtain ⟨n, rfl⟩ : ∃ n : Nat, x = (n : Int) := ⟨x.toNat, by omega⟩
      rw [brn_nf rfl, if_neg (show ¬ chkE n n L ≠ 0 by simpa using h), toNatN, show m17_L1 N (n : Int) (tP n T) N 0 0 [] = _ from free_L N n hN (by omega) L T (hT h []) n 0 N (by omega) (by omega) (by omega), bnd_t]
      show grd _ _ = _
      rw [grd_t (by rw [rws_len]; simp)]
      simp
    · simp only [if_neg h]
      rw [brn_nt h, if_pos h]; rfl
  · rw [m18, getL_t, hc, bnd_t, getI_t]
    unfold freE
    by_cases h : chkE x x L = 0
    · obtain ⟨h1, h2, h3, h4⟩ := chkE_zero h
      obtain ⟨n, rfl⟩ : ∃ n : Nat, x = (n : Int) := ⟨x.toNat, by omega⟩
      rw [brn_nf h, if_neg (show ¬ chkE n n L ≠ 0 by simpa using h), toNatN, show m18_L0 N (n : Int) L.length (rwsP L) N 0 0 [] = _ from fre_L0 N n hN (by omega) L hL n 0 N (by omega) (by omega) (by omega), bnd_t]
      show grd _ _ = _
      rw [grd_t (by rw [rws_len]; simp)]
      simp
    · rw [brn_nt h, if_pos h]; rfl
def trF (r : List Int) : Nat → Nat → List Int → List Int
  | 0, _, a => a
  | f + 1, k, a => trF r f (k + 1) (a.set (en r k).toNat (k : Int))
def trR (n : Nat) (r : List Int) : List Int := trF r n 0 (List.replicate n 0)
def trnE (x : Int) (L : List (List Int)) : List (List Int) × Int := if chkE x x L ≠ 0 then ([], chkE x x L) else (L.map (trR x.toNat), 0)
theorem trF_len {r : List Int} : ∀ {f k : Nat} {a : List Int}, (trF r f k a).length = a.length
  | 0, _, _ => rfl
  | f + 1, k, a => by rw [trF, trF_len, List.length_set]
theorem trn_L1 (N n : Nat) (hn : n ≤ 5) (L : List (List Int)) (i : Nat) (hi : i < L.length) (hlen : (ro L i).length = n) (hv : ∀ k, k < n → 0 ≤ en (ro L i) k ∧ en (ro L i) k < n) (a b : Nat) (y : Int) (c : List PV) : ∀ (f k fuel : Nat) (A : List Int), n - k = f → f < fuel → k ≤ n → A.length = n →
    m27_L1 N (n : Int) L.length (rwsP L) a y c n (iL (ro L i)) fuel (k : Int) (iL A) = some (iL (trF (ro L i) f k A)) ∧ m28_L1 N (n : Int) L.length (rwsP L) b (i : Int) c fuel (k : Int) (iL A) = some (iL (trF (ro L i) f k A))
  | f, k, 0, _, _, h, _, _ => by omega
  | 0, k, fuel + 1, A, hf, _, hk, _ => by
    rw [m27_L1, m28_L1, brn_df (by omega), brn_df (by omega)]; exact ⟨rfl, rfl⟩
  | f + 1, k, fuel + 1, A, hf, hfu, hk, hA => by
    have v := hv k (by omega)
    obtain ⟨s, hs⟩ : ∃ s : Nat, en (ro L i) k = (s : Int) := ⟨(en (ro L i) k).toNat, by omega⟩
    have ih := trn_L1 N n hn L i hi hlen hv a b y c f (k + 1) fuel (A.set s (k : Int)) (by omega) (by omega) (by omega) (by rw [List.length_set]; exact hA)
    rw [m27_L1, m28_L1, brn_dt (by omega), brn_dt (by omega), trF, hs, toNatN]
    constructor
    · rw [grd_t ⟨by omega, by omega⟩, toNatN, grd_t (by rw [List.length_drop, iL_len]; omega), iL_gp (by omega), getI_t, hs, toNatN, grd_t ⟨by omega, by omega⟩, grd_t (by rw [iL_len]; omega), wrapN (by omega), iL_set]
      exact ih.1
    · rw [grd_t ⟨by omega, by omega⟩, toNatN, grd_t (by rw [List.length_drop, rws_len]; omega), rws_gp hi, getL_t, grd_t ⟨by omega, by omega⟩, toNatN, grd_t (by rw [List.length_drop, iL_len]; omega), iL_gp (by omega), getI_t, hs, toNatN, grd_t ⟨by omega, by omega⟩, grd_t (by rw [iL_len]; omega), wrapN (by omega), iL_set]
      exact ih.2
theorem trn_L0 (N n : Nat) (hN : 5000 ≤ N) (hn : n ≤ 5) (L : List (List Int)) (hL : L.length ≤ 1000) (hv : ∀ i, i < L.length → (ro L i).length = n ∧ ∀ k, k < n → 0 ≤ en (ro L i) k ∧ en (ro L i) k < n) : ∀ (f i fuel : Nat), L.length - i = f → f < fuel → i ≤ L.length →
    m27_L0 N (n : Int) L.length (rwsP L) fuel i (i : Int) (rwsP ((L.take i).map (trR n))) = some (L.length, rwsP (L.map (trR n))) ∧ m28_L0 N (n : Int) L.length (rwsP L) fuel i (i : Int) (rwsP ((L.take i).map (trR n))) = some (L.length, rwsP (L.map (trR n)))
  | f, i, 0, _, h, _ => by omega
  | 0, i, fuel + 1, hf, _, hi => by
    have : i = L.length := by omega
    subst this
    rw [m27_L0, m28_L0, brn_df (by omega), brn_df (by omega), List.take_length]; exact ⟨rfl, rfl⟩
  | f + 1, i, fuel + 1, hf, hfu, hi => by
    have h1 : i < L.length := by omega
    obtain ⟨v1, v2⟩ := hv i h1
    have ih := trn_L0 N n hN hn L hL hv f (i + 1) fuel (by omega) (by omega) (by omega)
    have z : List.replicate n (PV.int .i64 0) = iL (List.replicate n 0) := by simp [iL]
    have lt : (trR n (ro L i)).length = n := by unfold trR; rw [trF_len]; simp
    have e2 : rwsP ((L.take i).map (trR n)) ++ [rwP (trR n (ro L i))] = rwsP ((L.take (i + 1)).map (trR n)) := by
      rw [rws_app, take_ro h1, List.map_append]; rfl
    have e3 : PV.lst false n (iL (trR n (ro L i))) = rwP (trR n (ro L i)) := by unfold rwP; rw [lt]
    have t := trn_L1 N n hn L i h1 v1 v2 i i (i : Int) (rwsP ((L.take i).map (trR n))) n 0 N (List.replicate n 0) (by omega) (by omega) (by omega) (by simp)
    have lr : (rwsP ((L.take i).map (trR n))).length = i := by rw [rws_len, List.length_map, List.length_take]; omega
    rw [m27_L0, m28_L0, brn_dt (by omega), brn_dt (by omega)]
    constructor
    · rw [grd_t ⟨by omega, by omega⟩, toNatN, grd_t (by rw [List.length_drop, rws_len]; omega), rws_gp h1, getL_t, grd_t ⟨by omega, by omega, by omega⟩, toNatN, v1, z]
      rw [show m27_L1 N (n : Int) L.length (rwsP L) i (i : Int) (rwsP ((L.take i).map (trR n))) n (iL (ro L i)) N 0 (iL (List.replicate n 0)) = _ from t.1, bnd_t, grd_t (by omega), grd_t lr, grd_t (by rw [iL_len]; exact lt), wrapN (by omega)]
      rw [show PV.lst false n (iL (trF (ro L i) n 0 (List.replicate n 0))) = rwP (trR n (ro L i)) from e3, e2]
      exact ih.1
    · rw [grd_t ⟨by omega, by omega, by omega⟩, toNatN, z]
      rw [show m28_L1 N (n : Int) L.length (rwsP L) i (i : Int) (rwsP ((L.take i).map (trR n))) N 0 (iL (List.replicate n 0)) = _ from t.2, bnd_t, grd_t (by omega), grd_t lr, grd_t (by rw [iL_len]; exact lt), wrapN (by omega)]
      rw [show PV.lst false n (iL (trF (ro L i) n 0 (List.replicate n 0))) = rwP (trR n (ro L i)) from e3, e2]
      exact ih.2
theorem turned_ok (N : Nat) (hN : 5000 ≤ N) (x : Int) (L : List (List Int)) (hL : L.length ≤ 1000) (hr : ∀ r ∈ L, r.length ≤ 1000) : m27 N x (.lst false L.length (rwsP L)) = some (.tup [.lst false (trnE x L).1.length (rwsP (trnE x L).1), .int .i64 (trnE x L).2]) ∧ m28 N x (.lst false L.length (rwsP L)) = some (.tup [.lst false (trnE x L).1.length (rwsP (trnE x L).1), .int .i64 (trnE x L).2]) := by
  obtain ⟨c1, c2⟩ := check_ok N (by omega) x L hL hr
  rw [m27, m28, getL_t, getL_t, c1, c2, bnd_t, bnd_t, getI_t, getI_t]
  unfold trnE
  by_cases h : chkE x x L = 0
  · obtain ⟨h1, h2, h3, h4⟩ := chkE_zero h
    obtain ⟨n, rfl⟩ : ∃ n : Nat, x = (n : Int) := ⟨x.toNat, by omega⟩
    have hv : ∀ i, i < L.length → (ro L i).length = n ∧ ∀ k, k < n → 0 ≤ en (ro L i) k ∧ en (ro L i) k < n := fun i hi => by
      obtain ⟨a1, a2, a3⟩ := rowE_zero h4 i (by omega) (by omega)
      refine ⟨by omega, fun k hk => ?_⟩
      have := dayE_zero a3 k (by omega) (by omega)
      exact ⟨this.1, this.2.1⟩
    obtain ⟨t1, t2⟩ := trn_L0 N n hN (by omega) L hL hv L.length 0 N (by omega) (by omega) (by omega)
    rw [brn_nf h, brn_nf h, if_neg (show ¬ chkE n n L ≠ 0 by simpa using h), toNatN]
    constructor
    · rw [show m27_L0 N (n : Int) L.length (rwsP L) N 0 0 [] = _ from t1, bnd_t]
      show grd _ _ = _
      rw [grd_t (by rw [rws_len]; simp)]
      simp
    · rw [show m28_L0 N (n : Int) L.length (rwsP L) N 0 0 [] = _ from t2, bnd_t]
      show grd _ _ = _
      rw [grd_t (by rw [rws_len]; simp)]
      simp
  · rw [brn_nt h, brn_nt h, if_pos h]; exact ⟨rfl, rfl⟩
theorem lg_false {L : List (List Int)} (h : lgL L = false) : L.length ≤ 1000 ∧ ∀ r ∈ L, r.length ≤ 1000 := by
  simp only [lgL, Bool.or_eq_false_iff, decide_eq_false_iff_not] at h
  refine ⟨by omega, fun r hr => ?_⟩
  have := List.any_eq_false.1 h.2 r hr
  simp at this; omega
theorem fre_le (x : Int) (L : List (List Int)) : (freE x L).1.length ≤ 1000 ∧ ∀ r ∈ (freE x L).1, r.length ≤ 1000 := by
  unfold freE
  by_cases h : chkE x x L = 0
  · obtain ⟨h1, h2, h3, h4⟩ := chkE_zero h
    rw [if_neg (show ¬ chkE x x L ≠ 0 by simpa using h)]
    refine ⟨by simp; omega, fun r hr => ?_⟩
    obtain ⟨d, _, rfl⟩ := List.mem_map.1 hr
    rw [nL_len]
    have := List.length_filter_le (fun s => !metB L d (s : Nat)) (List.range x.toNat)
    rw [List.length_range] at this
    unfold freD; omega
  · rw [if_pos h]; simp
theorem nxt_le (x : Int) (L : List (List Int)) : (nxtE x L).1.length ≤ 1000 := by
  unfold nxtE
  by_cases h : chkE x x L = 0
  · obtain ⟨h1, h2, h3, h4⟩ := chkE_zero h
    rw [if_neg (show ¬ chkE x x L ≠ 0 by simpa using h)]
    split
    · simp
    · show (nL ((fitn x.toNat L).headD [])).length ≤ 1000
      rw [nL_len]
      cases e : fitn x.toNat L with
      | nil => simp
      | cons y l =>
        have hy : y ∈ fitn x.toNat L := by rw [e]; exact .head _
        have := (ext_get (List.mem_filter.1 hy).1).1
        simp at this ⊢; omega
  · rw [if_pos h]; simp
theorem trn_le (x : Int) (L : List (List Int)) (hL : L.length ≤ 1000) : (trnE x L).1.length ≤ 1000 ∧ ∀ r ∈ (trnE x L).1, r.length ≤ 1000 := by
  unfold trnE
  by_cases h : chkE x x L = 0
  · obtain ⟨h1, h2, h3, h4⟩ := chkE_zero h
    rw [if_neg (show ¬ chkE x x L ≠ 0 by simpa using h)]
    refine ⟨by simpa using hL, fun r hr => ?_⟩
    obtain ⟨d, _, rfl⟩ := List.mem_map.1 hr
    unfold trR
    rw [trF_len]; simp; omega
  · rw [if_pos h]; simp
theorem law3 (x : Int) (L : List (List Int)) : m3 5000 x (.lst false L.length (rwsP L)) = some (.bool true) := by
  rw [m3, getL_t, large_ok 5000 (by omega) L, bnd_t, getB_t]
  cases hl : lgL L with
  | true => rfl
  | false =>
    obtain ⟨h1, h2⟩ := lg_false hl
    obtain ⟨a1, a2⟩ := free_ok 5000 (by omega) x L h1 h2
    obtain ⟨b1, b2⟩ := next_ok 5000 (by omega) x L h1 h2
    obtain ⟨c1, c2⟩ := check_ok 5000 (by omega) x L h1 h2
    obtain ⟨d1, d2⟩ := count_ok 5000 (by omega) x L h1 h2
    obtain ⟨e1, e2⟩ := turned_ok 5000 (by omega) x L h1 h2
    have f1 := lsame_ok 5000 (by omega) _ (fre_le x L).1 (fre_le x L).2
    have f2 := isame_ok 5000 (by omega) _ (nxt_le x L)
    have f3 := lsame_ok 5000 (by omega) _ (trn_le x L h1).1 (trn_le x L h1).2
    unfold rwP at b1 b2
    rw [brn_f rfl, a1, bnd_t, getT2_t, getL_t, getI_t, a2, bnd_t, getT2_t, getL_t, getI_t, b1, bnd_t, getT2_t, getL_t, getI_t, b2, bnd_t, getT2_t, getL_t, getI_t, f1, bnd_t, getB_t, brn_t rfl, brn_nf rfl, f2, bnd_t, getB_t, brn_t rfl, brn_nf rfl, c1, bnd_t, getI_t, c2, bnd_t, getI_t, brn_nf rfl, d1, bnd_t, getT2_t, getI_t, getI_t, d2, bnd_t, getT2_t, getI_t, getI_t, e1, bnd_t, getT2_t, getL_t, getI_t, e2, bnd_t, getT2_t, getL_t, getI_t, brn_et rfl, brn_et rfl, f3, bnd_t, getB_t, brn_t rfl, brn_et rfl]
    rfl
end Go.Proofs.YtcaecfofgdogbaaDoor
namespace Go.Proofs.YtcaecfofgdogbaaDoor
open Go.V
theorem row_of {x : List PV} (h : PT tab 28 x) : ∃ (y : PV) (r : List Int), x = [y] ∧ PLe y (rwP r) := by
  rcases h.slice' tl28 rfl with h | ⟨xs, h, hx⟩
  · exact ⟨.nl, [], h, .nl false⟩
  · obtain ⟨L, h1, h2, _⟩ := opened (fun p : Int => [PV.int .i64 p]) (fun x => PT tab 3 x) (fun _ => True)
      (fun x hx => by obtain ⟨n, e, _⟩ := hx.int' tl3 rfl; exact ⟨n, e, trivial⟩) xs hx
    refine ⟨_, L, h, ?_⟩
    rw [h2, ← h1]
    have : L.flatMap (fun p : Int => [PV.int .i64 p]) = iL L := by
      clear h1 h2
      induction L with
      | nil => rfl
      | cons a L ih => simpa [iL] using ih
    rw [this]
    exact .refl _
theorem rows_of' : ∀ (xs : List (List PV)), (∀ x ∈ xs, PT tab 28 x) → ∃ L : List (List Int), L.length = xs.length ∧ PLes xs.flatten (rwsP L)
  | [], _ => ⟨[], rfl, .nil⟩
  | x :: xs, h => by
    obtain ⟨L, h1, h2⟩ := rows_of' xs fun y hy => h y (.tail _ hy)
    obtain ⟨y, r, rfl, hr⟩ := row_of (h x (.head _))
    exact ⟨r :: L, by simp [h1], .cons _ _ _ _ hr h2⟩
theorem rows_of {x : PV} (h : PT tab 22 [x]) : ∃ L : List (List Int), PLe x (.lst false L.length (rwsP L)) := by
  rcases h.slice' tl22 rfl with h | ⟨xs, h, hx⟩
  · cases h; exact ⟨[], .nl false⟩
  · cases h
    obtain ⟨L, h1, h2⟩ := rows_of' xs hx
    refine ⟨L, ?_⟩
    rw [h1]
    exact .lst false false _ _ _ (fun h => h) h2
theorem con3 (x0 : PV) (h0 : PT tab 3 [x0]) (x1 : PV) (h1 : PT tab 22 [x1]) : FnP Tryd.prog 3 [x0, x1] (.bool true) := by
  obtain ⟨n, e, _⟩ := h0.int' tl3 rfl
  cases e
  obtain ⟨L, hL⟩ := rows_of h1
  exact FnP_le (c3 5000 _ _ _ (law3 n L)) (.cons _ _ _ _ (.refl _) (.cons _ _ _ _ hL .nil)) (.refl _)
end Go.Proofs.YtcaecfofgdogbaaDoor
namespace Go.Proofs.YtcaecfofgdogbaaDoor.weekRows
open Go.ChangeShapes Go.WideShapes Go.ChangeAt Go.RowKit Go.V
theorem own : ownKnob Tryd.prog.godebug = none := by kernel_rfl
theorem laid : laidOutB Tryd.prog = true := by kernel_rfl
set_option maxRecDepth 100000 in
theorem lifted (os : Os) (started : os.Started) (H : Type) (enc : TypeId × Value → H) :
    ReturnsInHanded {} Tryd.checked os 3 .any (fun w args => (Rows.weekRowsSpec.pre enc Tryd.prog Tryd.f3 [] false w args ∧ laidMetH Tryd.prog [("math/bits.deBruijn32tab", Rows.laid_math_bits_deBruijn32tab), ("math/bits.deBruijn64tab", Rows.laid_math_bits_deBruijn64tab)] w) ∧ sizedMet enc Tryd.prog Tryd.f3 (OpenSpec.ofChange Rows.weekRowsSpec) false w args)
      (Rows.weekRowsSpec.post enc Tryd.prog Tryd.f3 false true false false) := by
  refine returnsInHanded_of_change_and (C := Tryd.checked) (X := fun w _ => laidMetH Tryd.prog [("math/bits.deBruijn32tab", Rows.laid_math_bits_deBruijn32tab), ("math/bits.deBruijn64tab", Rows.laid_math_bits_deBruijn64tab)] w) (fun _ _ _ hh h => h.of_heap hh) own started (by kernel_rfl) Tryd.func3
    (ChangeSpec.witness_shaped (enc := enc) (C := Tryd.checked) (os := os) (X := fun w _ => laidMetH Tryd.prog [("math/bits.deBruijn32tab", Rows.laid_math_bits_deBruijn32tab), ("math/bits.deBruijn64tab", Rows.laid_math_bits_deBruijn64tab)] w) false (World.laidAll Tryd.prog os [("math/bits.deBruijn32tab", Rows.laid_math_bits_deBruijn32tab), ("math/bits.deBruijn64tab", Rows.laid_math_bits_deBruijn64tab)]) #[.int .i64 0, .slice none 0 0] 8 (World.laidAll_os _ _ _)
      (World.shaped_of_ZipB (by kernel_rfl) (by kernel_rfl)) (by kernel_rfl) (by kernel_rfl) (by kernel_rfl)
      (by rw [MakeChecks.laidMetH_plain _ _ _ (by kernel_rfl)]; exact laidMet_laidAll _ (by kernel_rfl) (by kernel_rfl))) ?_
  intro W base args ds gs before hval0 hW _ _ hL _
  have hW' := hW
  obtain ⟨p, q, hA0, hV, rfl, hfz, hnd⟩ := hW
  have hA : DataW.TrodAll enc Tryd.prog W 0 (fun _ => true) true Tryd.f3.params.toList args.toList ds p := hA0
  rw [Tryd.params3] at hA
  obtain ⟨v0, vs0, d0, ds0, p0, q0, e0, rfl, rfl, h0, hr0⟩ := trodAll_cons hA
  obtain ⟨v1, vs1, d1, ds1, p1, q1, e1, rfl, rfl, h1, hr1⟩ := trodAll_cons hr0
  obtain ⟨rfl, rfl, rfl⟩ := trodAll_nil hr1
  subst e1
  obtain rfl : args = #[v0, v1] := by cases args; simp_all
  obtain ⟨x0, k0, t0⟩ := arg_one (n := 8) tab_ok (hval0 0 3 v0 rfl rfl) h0 (by kernel_rfl) (by kernel_rfl)
  obtain ⟨x1, k1, t1⟩ := arg_one (n := 8) tab_ok (hval0 1 22 v1 rfl rfl) h1 (by kernel_rfl) (by kernel_rfl)
  obtain ⟨rfl, rfl⟩ := trodVars_none hV
  clear hA0 hval0
  simp only [List.append_nil] at hW'
  refine (FnP.calls (W := W) (vals := #[v0, v1]) (con3 x0 t0 x1 t1) (.cons _ _ _ _ k0 (.cons _ _ _ _ k1 .nil)) (laidG hL)).mono fun e W' ⟨he, hg⟩ => ?_
  subst he
  exact ⟨_, rfl, post_of_kept (pv := []) hW' (fun _ _ _ => trodAll_cons_mk (shut_bool Tryd.underlying4 _) trodAll_mk0) (fun sp hsp => trodAll_cons_mk (Kept.trod hg laid (by kernel_rfl) (of_decide_eq_true (by kernel_rfl)) h0 (fun y hy => hsp y (by simp [hy]))) (trodAll_cons_mk (Kept.trod hg laid (by kernel_rfl) (of_decide_eq_true (by kernel_rfl)) h1 (fun y hy => hsp y (by simp [hy]))) (trodAll_mk0))) (fun _ _ => rfl) (by simp)
    hg (ok_one (by kernel_rfl) rfl (okWide_bool_mk Tryd.underlying4 _))⟩
theorem over : Rows.weekRowsRow.holds Tryd.pinned (OpenSpec.ofChange Rows.weekRowsSpec) :=
  OpenClaim.holds_of_wide 3 Tryd.f3 rfl rfl rfl rfl rfl rfl rfl ⟨rfl, rfl, rfl, rfl, rfl⟩ rfl rfl rfl rfl rfl (by kernel_rfl) Tryd.func3 (by kernel_rfl)
    (of_decide_eq_true (by kernel_rfl)) (by unfold Func.isWrapper; first | (rw [if_pos (by decide +kernel)]; kernel_rfl) | (rw [if_neg (by decide +kernel)]; exact ⟨rfl, rfl⟩))
    (fun os started H enc _ => lifted os started H enc)
theorem card : Rows.WeekRowsCardSaid :=
  Claim7.holds_tied_plain_at .later [] [.data, .data] true (true, "b10945a5c0c6bbe518806a5b2982a3effa3ad2c65afd0553d66b8bf8a483c2f3") true (over) (fun _ h => by cases h) (by kernel_rfl) (fun _ h => by cases h) weekRows_row_tie rfl ⟨rfl, rfl⟩ (by kernel_rfl) rfl
    (fun f fn hf hfn => by
      obtain rfl : f = 3 := Option.some.inj ((show Tryd.prog.funcNamed "breeze/breezelaw03.WeekRows" = some 3 by kernel_rfl).symm.trans hf) |>.symm
      obtain rfl : fn = Tryd.f3 := (Option.some.inj (Tryd.func3.symm.trans hfn)).symm
      exact ⟨by kernel_rfl, fun j t ht => by
        rw [Tryd.params3] at ht
        rcases j with _ | _ | j
        · obtain rfl : t = 3 := by simpa using ht.symm
          exact (show Tryd.prog.wantsStandIn 3 = false by kernel_rfl)
        · obtain rfl : t = 22 := by simpa using ht.symm
          exact (show Tryd.prog.wantsStandIn 22 = false by kernel_rfl)
        · simp at ht⟩)
    (by kernel_rfl)
end Go.Proofs.YtcaecfofgdogbaaDoor.weekRows
namespace Go.Proofs.YtcaecfofgdogbaaDoor
/-- the statement -/
theorem weekRows_holds : Rows.WeekRowsCardSaid := weekRows.card
#print axioms weekRows_holds
end Go.Proofs.YtcaecfofgdogbaaDoor
