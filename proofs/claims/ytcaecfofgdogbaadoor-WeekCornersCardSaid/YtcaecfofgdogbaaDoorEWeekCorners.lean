/-
  WeekCorners: the law returns true.
-/
import Derived.Test.YtcaecfofgdogbaaDoorEWfull
import Derived.Test.YtcaecfofgdogbaaDoorEWyA
import Derived.Test.YtcaecfofgdogbaaDoorEV32
import Derived.Test.YtcaecfofgdogbaaDoorRows
import Derived.Test.YtcaecfofgdogbaaDoorCards
import Derived.Test.YtcaecfofgdogbaaDoorTie
import Derived.Test.YtcaecfofgdogbaaDoorEWpB
import Derived.Test.YtcaecfofgdogbaaDoorEV31
import Derived.WalkKit
import Derived.ProofKit
import Derived.OpenShut
import Derived.Lay
import Derived.SevenTiedAt
import Derived.MakeChecks
set_option linter.unusedSimpArgs false
set_option linter.unusedVariables false
namespace Go.Proofs.YtcaecfofgdogbaaDoor
open Go.V
set_option linter.unusedSectionVars false
structure Rq (P : List (List Int)) (i : Nat) (r : List Int) (k : Nat) (T : T3) : Prop extends Rp P i r k T where
  bp : ∀ j s, j < i → j < 5 → s < 5 → ((bn T.2.1 j).testBit s = true ↔ (s : Int) ∈ ro P j)
theorem Rq.putq {P : List (List Int)} {i : Nat} {r : List Int} {k : Nat} {T : T3} (h : Rq P i r k T) (hi : i < 5) (hk : k < 5) (hr : k < r.length) {s : Nat} (hs : s < 5) (he : en r k = (s : Int)) : Rq P i r (k + 1) (putT T i k s) := by
  have lb := h.tv.tb.lb
  refine ⟨h.toRp.put hi hk hr hs he, fun j t hj h5 ht => ?_⟩
  show (bn (T.2.1.set i (bn T.2.1 i ||| 2 ^ s)) j).testBit t = true ↔ _
  rw [bn_set (by omega), if_neg (by omega)]; exact h.bp j t hj h5 ht
theorem Rq.nextq {P : List (List Int)} {i : Nat} {r : List Int} {T : T3} (h : Rq P i r r.length T) (hi : P.length = i) (hr : r.length ≤ 5) (r' : List Int) : Rq (P ++ [r]) (i + 1) r' 0 T := by
  refine ⟨h.toRp.next hi hr r', fun j s hj h5 hs => ?_⟩
  by_cases e : j = i
  · have e1 : ro (P ++ [r]) j = r := by subst e; rw [← hi]; simp [ro, List.getD]
    rw [e1, e, h.b s hs, List.take_length]
  · have e1 : ro (P ++ [r]) j = ro P j := by simp [ro, List.getD, List.getElem?_append_left (show j < P.length by omega)]
    rw [e1]; exact h.bp j s (by omega) h5 hs
theorem open3_L1 (N n : Nat) (hn : n ≤ 5) (w : Int) (L : List (List Int)) (P : List (List Int)) (r : List Int) (i : Nat) (hi : i < 5) (hr : r.length ≤ 5) : ∀ (f k fuel : Nat) (T : T3), r.length - k = f → f < fuel → k ≤ r.length → Rq P i r k T →
    ∃ T', m61_L1 N (n : Int) w L.length (rwsP L) (i : Int) r.length (iL r) fuel (k : Int) (tP n T) = some (outR n (dayE n P r f k) T') ∧ (dayE n P r f k = 0 → Rq P i r r.length T')
  | f, k, 0, _, _, h, _, _ => by omega
  | 0, k, fuel + 1, T, hf, _, hk, hT => by
    have : k = r.length := by omega
    subst this
    refine ⟨T, ?_, fun _ => hT⟩
    rw [m61_L1, brn_df (by omega)]; rfl
  | f + 1, k, fuel + 1, T, hf, hfu, hk, hT => by
    have hl := tbl_len (n := n) hT.tv.tb
    have h1 : k < r.length := by omega
    rw [m61_L1, brn_dt (by omega), dayE]
    rw [grd_t (p := 0 ≤ (k : Int) ∧ (k : Int) < ((r.length : Nat) : Int)) ⟨by omega, by omega⟩, grd_t (p := 0 < List.length (List.drop (Int.toNat (k : Int)) (iL r))) (by rw [List.length_drop, iL_len, toNatN]; omega), gI_n h1]
    by_cases h2 : en r k < 0
    · rw [brn_dt h2, if_pos h2]; exact ⟨T, rfl, fun h => by cases h⟩
    · rw [brn_df h2, if_neg h2]
      by_cases h3 : (n : Int) ≤ en r k
      · rw [brn_dt (by omega), if_pos h3]; exact ⟨T, rfl, fun h => by cases h⟩
      · obtain ⟨s, hs⟩ : ∃ s : Nat, en r k = (s : Int) := ⟨(en r k).toNat, by omega⟩
        have s5 : s < 5 := by omega
        rw [brn_df (by omega), if_neg h3, hs, toNatN, toNatN, toNatN, grd_t (by omega), grd_t (by unfold tP; omega)]
        rw [show gp (tP n T) (26 + i) = .int .u64 (bn T.2.1 i : Int) from gp_b hT.tv.tb hi, getU_t, grd_t (by omega), b_tst _ (hT.tv.tb.b32 i hi) s s5]
        by_cases h4 : (s : Int) ∈ r.take k
        · rw [brn_t ((hT.b s s5).2 h4), if_pos h4]; exact ⟨T, rfl, fun h => by cases h⟩
        · rw [brn_f (by rw [Bool.eq_false_iff]; intro h; exact h4 ((hT.b s s5).1 h)), if_neg h4, grd_t (by omega), grd_t (by unfold tP; omega)]
          rw [show gp (tP n T) (31 + k) = .int .u64 (bn T.2.2 k : Int) from gp_d hT.tv.tb (by omega), getU_t, b_tst _ (hT.tv.tb.d32 k (by omega)) s s5]
          have hd : (bn T.2.2 k).testBit s = P.any (fun q => decide (k < q.length) && (en q k == (s : Int))) := by
            rw [Bool.eq_iff_iff, hT.d k s (by omega) s5, List.any_eq_true]
            constructor
            · rintro (⟨q, hq, h5, h6⟩ | h5)
              · exact ⟨q, hq, by simp [h5, h6]⟩
              · omega
            · rintro ⟨q, hq, h5⟩
              simp only [Bool.and_eq_true, decide_eq_true_eq, beq_iff_eq] at h5
              exact .inl ⟨q, hq, h5⟩
          rw [hd]
          cases h5 : P.any (fun q => decide (k < q.length) && (en q k == (s : Int))) with
          | true => rw [brn_t rfl, if_pos rfl]; exact ⟨T, rfl, fun h => by cases h⟩
          | false =>
            rw [brn_f rfl, if_neg (by simp)]
            obtain ⟨T', e1, e2⟩ := open3_L1 N n hn w L P r i hi hr f (k + 1) fuel (putT T i k s) (by omega) (by omega) (by omega) (hT.putq hi (by omega) h1 s5 hs)
            refine ⟨T', ?_, e2⟩
            rw [show m72 N (i : Int) (k : Int) (s : Int) (tP n T) = _ from put_ok N n hT.tv.tb hi (by omega) s5, bnd_t]
            show getT0 (.tup []) _ = _
            rw [getT0_t, wrapN (by omega)]
            exact e1
theorem open3_L0 (N n : Nat) (hN : 2000 ≤ N) (hn : n ≤ 5) (w : Int) (L : List (List Int)) (hL : L.length ≤ n) (hr20 : ∀ r ∈ L, r.length ≤ 1000) : ∀ (f i fuel : Nat) (T : T3), L.length - i = f → f < fuel → i ≤ L.length → (∀ r', Rq (L.take i) i r' 0 T) →
    ∃ T', m61_L0 N (n : Int) w L.length (rwsP L) fuel (i : Int) (tP n T) = some (outR n (rowE n w L f i) T') ∧ (rowE n w L f i = 0 → ∀ r', Rq L L.length r' 0 T')
  | f, i, 0, _, _, h, _, _ => by omega
  | 0, i, fuel + 1, T, hf, _, hi, hT => by
    have : i = L.length := by omega
    subst this
    refine ⟨T, ?_, fun _ r' => by have := hT r'; rwa [List.take_length] at this⟩
    rw [m61_L0, brn_df (by omega)]; rfl
  | f + 1, i, fuel + 1, T, hf, hfu, hi, hT => by
    have h1 : i < L.length := by omega
    have hrl := hr20 _ (ro_mem h1)
    rw [m61_L0, brn_dt (by omega), rowE]
    simp (disch := (try simp only [List.length_drop, iL_len, rws_len, toNatN]) <;> omega) only [↓grd_t, ↓gL_n]
    by_cases h2 : ((ro L i).length : Int) = w
    · rw [brn_nf h2, if_neg (by simpa using h2)]
      by_cases h3 : (n : Int) < w
      · rw [brn_dt (by omega), if_pos h3]; exact ⟨T, rfl, fun h => by cases h⟩
      · rw [brn_df (by omega), if_neg h3]
        obtain ⟨T', e1, e2⟩ := open3_L1 N n hn w L (L.take i) (ro L i) i (by omega) (by omega) (ro L i).length 0 N T (by omega) (by omega) (by omega) (hT _)
        rw [show m61_L1 N (n : Int) w L.length (rwsP L) (i : Int) (ro L i).length (iL (ro L i)) N 0 (tP n T) = _ from e1, bnd_t]
        by_cases h4 : dayE n (L.take i) (ro L i) (ro L i).length 0 = 0
        · rw [if_neg (by simpa using h4), wrapN (by omega)]
          unfold outR
          rw [if_pos h4]
          have h5 := (e2 h4).nextq (by rw [List.length_take]; omega) (by omega)
          rw [← take_ro h1] at h5
          exact open3_L0 N n hN hn w L hL hr20 f (i + 1) fuel T' (by omega) (by omega) (by omega) h5
        · unfold outR
          simp only [if_neg h4, if_pos (show dayE (n : Int) (L.take i) (ro L i) (ro L i).length 0 ≠ 0 from h4)]
          exact ⟨T, by trivial, fun h => absurd h h4⟩
    · rw [brn_nt h2, if_pos h2]; exact ⟨T, rfl, fun h => by cases h⟩
theorem opened3_ok (N : Nat) (hN : 2000 ≤ N) (x w : Int) (L : List (List Int)) (hL : L.length ≤ 1000) (hr : ∀ r ∈ L, r.length ≤ 1000) :
    ∃ T, m61 N x (.lst false L.length (rwsP L)) w = some (opE x.toNat (chkE x w L) T) ∧ (chkE x w L = 0 → ∀ r', Rq L L.length r' 0 T) := by
  rw [m61, getL_t]
  unfold chkE
  by_cases h1 : x < 1
  · rw [brn_dt h1, if_pos h1]; exact ⟨T0, rfl, fun h => by cases h⟩
  · rw [brn_df h1, if_neg h1]
    by_cases h2 : 5 < x
    · rw [brn_dt (by omega), if_pos h2]; exact ⟨T0, rfl, fun h => by cases h⟩
    · rw [brn_df (by omega), if_neg h2]
      by_cases h3 : x < (L.length : Int)
      · rw [brn_dt (by omega), if_pos h3]; exact ⟨T0, rfl, fun h => by cases h⟩
      · obtain ⟨n, rfl⟩ : ∃ n : Nat, x = (n : Int) := ⟨x.toNat, by omega⟩
        rw [brn_df (by omega), if_neg h3, begun_ok N n hN, bnd_t]
        obtain ⟨T, e1, e2⟩ := open3_L0 N n hN (by omega) w L (by omega) hr L.length 0 N T0 (by omega) (by omega) (by omega) (fun r' => by rw [List.take_zero]; exact ⟨T0_rp r', fun j s hj => by omega⟩)
        refine ⟨T, ?_, e2⟩
        show bnd' (m61_L0 N (n : Int) w L.length (rwsP L) N 0 (tP n T0)) _ = _
        rw [show m61_L0 N (n : Int) w L.length (rwsP L) N 0 (tP n T0) = _ from e1, bnd_t, toNatN]
        unfold outR opE
        by_cases h4 : rowE (n : Int) w L L.length 0 = 0
        · simp only [if_pos h4]
        · simp only [if_neg h4]
structure Rc (P : List (List Int)) (i : Nat) (r : List Int) (k : Nat) (Q : List (List Int)) (T : T3) : Prop where
  tv : Tv T
  b : ∀ s, s < 5 → ((bn T.2.1 i).testBit s = true ↔ (s : Int) ∈ r.take k)
  bq : ∀ j s, j < 5 → i < j → s < 5 → ((bn T.2.1 j).testBit s = true ↔ (s : Int) ∈ ro Q (j - (i + 1)))
  d : ∀ d s, d < 5 → s < 5 → ((bn T.2.2 d).testBit s = true ↔ (∃ q ∈ P ++ Q, d < q.length ∧ en q d = (s : Int)) ∨ (d < k ∧ en r d = (s : Int)))
  ap : ∀ j d, j < i → j < 5 → d < 5 → en T.1 (j * 5 + d) = if d < (ro P j).length then en (ro P j) d else -1
  ai : ∀ d, i < 5 → d < 5 → en T.1 (i * 5 + d) = if d < k then en r d else -1
  aq : ∀ j d, i < j → j < 5 → d < 5 → en T.1 (j * 5 + d) = if d < (ro Q (j - (i + 1))).length then en (ro Q (j - (i + 1))) d else -1
theorem Rc.put {P Q : List (List Int)} {i : Nat} {r : List Int} {k : Nat} {T : T3} (h : Rc P i r k Q T) (hi : i < 5) (hk : k < 5) (hr : k < r.length) {s : Nat} (hs : s < 5) (he : en r k = (s : Int)) : Rc P i r (k + 1) Q (putT T i k s) := by
  have la := h.tv.tb.la; have lb := h.tv.tb.lb; have ld := h.tv.tb.ld
  have hset : ∀ j d, d < 5 → j * 5 + d ≠ i * 5 + k → en (putT T i k s).1 (j * 5 + d) = en T.1 (j * 5 + d) := fun j d hd hx => by
    show en (T.1.set (i * 5 + k) (s : Int)) (j * 5 + d) = _
    rw [en_set (by omega), if_neg hx]
  refine ⟨h.tv.put hi hk hs, fun t ht => ?_, fun j t h5 hj ht => ?_, fun d t hd ht => ?_, fun j d hj h5 hd => ?_, fun d h5 hd => ?_, fun j d hj h5 hd => ?_⟩
  · show (bn (T.2.1.set i (bn T.2.1 i ||| 2 ^ s)) i).testBit t = true ↔ _
    rw [bn_set (by omega), if_pos rfl, tst_or _ (h.tv.tb.b32 i hi) s hs t ht, Bool.or_eq_true, h.b t ht, decide_eq_true_eq, take_en hr, List.mem_append, List.mem_singleton, he]
    constructor
    · rintro (h1 | rfl)
      · exact .inl h1
      · exact .inr rfl
    · rintro (h1 | h1)
      · exact .inl h1
      · exact .inr (by omega)
  · show (bn (T.2.1.set i (bn T.2.1 i ||| 2 ^ s)) j).testBit t = true ↔ _
    rw [bn_set (by omega), if_neg (by omega)]; exact h.bq j t h5 hj ht
  · show (bn (T.2.2.set k (bn T.2.2 k ||| 2 ^ s)) d).testBit t = true ↔ _
    rw [bn_set (by omega)]
    by_cases hdk : d = k
    · subst hdk
      rw [if_pos rfl, tst_or _ (h.tv.tb.d32 d hd) s hs t ht, Bool.or_eq_true, h.d d t hd ht, decide_eq_true_eq, he]
      constructor
      · rintro ((h1 | h1) | rfl)
        · exact .inl h1
        · omega
        · exact .inr ⟨by omega, rfl⟩
      · rintro (h1 | h1)
        · exact .inl (.inl h1)
        · exact .inr (by omega)
    · rw [if_neg hdk, h.d d t hd ht]
      constructor
      · rintro (h1 | h1)
        · exact .inl h1
        · exact .inr ⟨by omega, h1.2⟩
      · rintro (h1 | h1)
        · exact .inl h1
        · exact .inr ⟨by omega, h1.2⟩
  · rw [hset j d hd (by omega)]; exact h.ap j d hj h5 hd
  · by_cases e : d = k
    · subst e
      show en (T.1.set (i * 5 + d) (s : Int)) (i * 5 + d) = _
      rw [en_set (by omega), if_pos rfl, if_pos (by omega), he]
    · rw [hset i d hd (by omega), h.ai d h5 hd]
      by_cases h2 : d < k
      · rw [if_pos h2, if_pos (by omega)]
      · rw [if_neg h2, if_neg (by omega)]
  · rw [hset j d hd (by omega)]; exact h.aq j d hj h5 hd
theorem ro_tail {Q : List (List Int)} {j : Nat} : ro Q.tail j = ro Q (j + 1) := by cases Q <;> simp [ro, List.getD]
theorem ro_nil {j : Nat} : ro [] j = [] := by simp [ro, List.getD]
theorem Rc.next {P Q : List (List Int)} {i : Nat} {r : List Int} {T : T3} (h : Rc P i r r.length Q T) (hi : P.length = i) (hQ : i + 1 + Q.length ≤ 5) : Rc (P ++ [r]) (i + 1) (ro Q 0) (ro Q 0).length Q.tail T := by
  refine ⟨h.tv, fun s hs => ?_, fun j s h5 hj hs => ?_, fun d s hd hs => ?_, fun j d hj h5 hd => ?_, fun d h5 hd => ?_, fun j d hj h5 hd => ?_⟩
  · rw [List.take_length]
    by_cases h5 : i + 1 < 5
    · rw [h.bq (i + 1) s h5 (by omega) hs, Nat.sub_self]
    · have : bn T.2.1 (i + 1) = 0 := by
        have := h.tv.tb.lb
        unfold bn; rw [List.getD, List.getElem?_eq_none (by omega)]; rfl
      have hq : Q = [] := List.eq_nil_of_length_eq_zero (by omega)
      rw [this, hq, ro_nil]; simp
  · rw [h.bq j s h5 (by omega) hs, ro_tail, show j - (i + 1 + 1) + 1 = j - (i + 1) by omega]
  · rw [h.d d s hd hs]
    have key : (∃ q ∈ P ++ Q, d < q.length ∧ en q d = (s : Int)) ↔ (∃ q ∈ P ++ Q.tail, d < q.length ∧ en q d = (s : Int)) ∨ (d < (ro Q 0).length ∧ en (ro Q 0) d = (s : Int)) := by
      cases Q with
      | nil => simp [ro, List.getD]
      | cons a Q =>
        simp only [List.tail_cons, List.mem_append, List.mem_cons, show ro (a :: Q) 0 = a from rfl]
        constructor
        · rintro ⟨q, hq | rfl | hq, h1⟩
          · exact .inl ⟨q, .inl hq, h1⟩
          · exact .inr h1
          · exact .inl ⟨q, .inr hq, h1⟩
        · rintro (⟨q, hq | hq, h1⟩ | h1)
          · exact ⟨q, .inl hq, h1⟩
          · exact ⟨q, .inr (.inr hq), h1⟩
          · exact ⟨a, .inr (.inl rfl), h1⟩
    have key2 : (∃ q ∈ P ++ [r] ++ Q.tail, d < q.length ∧ en q d = (s : Int)) ↔ (∃ q ∈ P ++ Q.tail, d < q.length ∧ en q d = (s : Int)) ∨ (d < r.length ∧ en r d = (s : Int)) := by
      simp only [List.mem_append, List.mem_singleton]
      constructor
      · rintro ⟨q, (hq | rfl) | hq, h1⟩
        · exact .inl ⟨q, .inl hq, h1⟩
        · exact .inr h1
        · exact .inl ⟨q, .inr hq, h1⟩
      · rintro (⟨q, hq | hq, h1⟩ | h1)
        · exact ⟨q, .inl (.inl hq), h1⟩
        · exact ⟨q, .inr hq, h1⟩
        · exact ⟨r, .inl (.inr rfl), h1⟩
    rw [key, key2]
    constructor
    · rintro ((h1 | h1) | h1)
      · exact .inl (.inl h1)
      · exact .inr h1
      · exact .inl (.inr h1)
    · rintro ((h1 | h1) | h1)
      · exact .inl (.inl h1)
      · exact .inr h1
      · exact .inl (.inr h1)
  · by_cases e : j = i
    · have e1 : ro (P ++ [r]) j = r := by subst e; rw [← hi]; simp [ro, List.getD]
      rw [e1, e]; exact h.ai d (by omega) hd
    · have e1 : ro (P ++ [r]) j = ro P j := by simp [ro, List.getD, List.getElem?_append_left (show j < P.length by omega)]
      rw [e1]; exact h.ap j d (by omega) h5 hd
  · have := h.aq (i + 1) d (by omega) h5 hd
    rw [Nat.sub_self] at this; exact this
  · rw [h.aq j d (by omega) h5 hd, ro_tail, show j - (i + 1 + 1) + 1 = j - (i + 1) by omega]
theorem Rc.congr {P Q : List (List Int)} {i k : Nat} {r r' : List Int} {T : T3} (h : Rc P i r k Q T) (h1 : r.take k = r'.take k) (h2 : ∀ d, d < k → en r d = en r' d) : Rc P i r' k Q T := by
  refine ⟨h.tv, fun s hs => by rw [← h1]; exact h.b s hs, h.bq, fun d s hd hs => ?_, h.ap, fun d h5 hd => ?_, h.aq⟩
  · rw [h.d d s hd hs]
    constructor
    · rintro (h3 | h3)
      · exact .inl h3
      · exact .inr ⟨h3.1, by rw [← h2 d h3.1]; exact h3.2⟩
    · rintro (h3 | h3)
      · exact .inl h3
      · exact .inr ⟨h3.1, by rw [h2 d h3.1]; exact h3.2⟩
  · rw [h.ai d h5 hd]
    by_cases h3 : d < k
    · rw [if_pos h3, if_pos h3, h2 d h3]
    · rw [if_neg h3, if_neg h3]
theorem Rp.rc {P : List (List Int)} {i : Nat} {T : T3} (h : Rp P i [] 0 T) : Rc P i [] 0 [] T := by
  refine ⟨h.tv, fun s hs => h.b s hs, fun j s h5 hj hs => ?_, fun d s hd hs => by rw [List.append_nil]; exact h.d d s hd hs, fun j d hj h5 hd => ?_, fun d h5 hd => ?_, fun j d hj h5 hd => ?_⟩
  · rw [h.bz j hj h5, ro_nil]; simp
  · rw [h.a j d h5 hd, if_pos hj]
  · rw [h.a i d h5 hd, if_neg (by omega), if_neg (by omega), if_neg (by omega)]
  · rw [h.a j d h5 hd, if_neg (by omega), if_neg (by omega), ro_nil]; rfl
theorem Rc.rp {P : List (List Int)} {i : Nat} {T : T3} (h : Rc P i [] 0 [] T) (r : List Int) : Rp P i r 0 T := by
  refine ⟨h.tv, fun s hs => by rw [h.b s hs, List.take_zero, List.take_zero], fun j hj h5 => ?_, fun d s hd hs => ?_, fun j d h5 hd => ?_⟩
  · have hb := h.tv.tb.b32 j h5
    have : bits (bn T.2.1 j) = [] := by
      rw [List.eq_nil_iff_forall_not_mem]
      intro s hs
      obtain ⟨h1, h2⟩ := mem_bits.1 hs
      have := (h.bq j s h5 hj h1).1 h2
      rw [ro_nil] at this; simp at this
    by_cases e : bn T.2.1 j = 0
    · exact e
    · have := (bits_step _ hb e).1
      rw [‹bits (bn T.2.1 j) = []›] at this; simp at this
  · rw [h.d d s hd hs, List.append_nil]
    constructor
    · rintro (h1 | h1)
      · exact .inl h1
      · omega
    · rintro (h1 | h1)
      · exact .inl h1
      · omega
  · by_cases h1 : j < i
    · rw [if_pos h1]; exact h.ap j d h1 h5 hd
    · rw [if_neg h1, if_neg (by omega)]
      by_cases h2 : j = i
      · subst h2; rw [h.ai d h5 hd, if_neg (by omega)]
      · rw [h.aq j d (by omega) h5 hd, ro_nil]; rfl
theorem Rq.rc {C : List (List Int)} {T : T3} (h : Rq C C.length [] 0 T) (hC : C.length ≤ 5) : Rc [] 0 (ro C 0) (ro C 0).length C.tail T := by
  have hro : ∀ j, C.length ≤ j → ro C j = [] := fun j hj => by unfold ro; rw [List.getD, List.getElem?_eq_none hj]; rfl
  have hb : ∀ j s, j < 5 → s < 5 → ((bn T.2.1 j).testBit s = true ↔ (s : Int) ∈ ro C j) := fun j s h5 hs => by
    by_cases h1 : j < C.length
    · exact h.bp j s h1 h5 hs
    · rw [hro j (by omega)]
      by_cases h2 : j = C.length
      · rw [h2, h.b s hs]; simp
      · rw [h.bz j (by omega) h5]; simp
  have ha : ∀ j d, j < 5 → d < 5 → en T.1 (j * 5 + d) = if d < (ro C j).length then en (ro C j) d else -1 := fun j d h5 hd => by
    rw [h.a j d h5 hd]
    by_cases h1 : j < C.length
    · rw [if_pos h1]
    · rw [if_neg h1, if_neg (by omega), hro j (by omega)]; rfl
  refine ⟨h.tv, fun s hs => ?_, fun j s h5 hj hs => ?_, fun d s hd hs => ?_, fun j d hj => by omega, fun d h5 hd => ?_, fun j d hj h5 hd => ?_⟩
  · rw [List.take_length]; exact hb 0 s (by omega) hs
  · rw [ro_tail, show j - (0 + 1) + 1 = j by omega]; exact hb j s h5 hs
  · rw [h.d d s hd hs, List.nil_append]
    cases C with
    | nil => simp [ro, List.getD]
    | cons a C =>
      simp only [List.tail_cons, List.mem_cons, show ro (a :: C) 0 = a from rfl]
      constructor
      · rintro (⟨q, rfl | hq, h1⟩ | h1)
        · exact .inr h1
        · exact .inl ⟨q, hq, h1⟩
        · omega
      · rintro (⟨q, hq, h1⟩ | h1)
        · exact .inl ⟨q, .inr hq, h1⟩
        · exact .inl ⟨a, .inl rfl, h1⟩
  · have := ha 0 d (by omega) hd; exact this
  · rw [ro_tail, show j - (0 + 1) + 1 = j by omega]; exact ha j d h5 hd
def fitl (n : Nat) (P : List (List Int)) (l : List Nat) : List (List Nat) := (ext n (n - l.length) l).filter fun x => fitB P x (n - l.length) l.length
theorem row_cmplC (n : Nat) (hn : n ≤ 5) (P Q : List (List Int)) (p : Nat) (hp : p < n) : ∀ (f : Nat) (l : List Nat) (T : T3) (F : Nat), l.length + f = n → (∀ s ∈ l, s < n) → Rc P p (nL l) l.length Q T → f + 2 ≤ F →
    (cmpl n (p + 1) F p l.length T).map (rowOf n p) = ((ext n f l).filter fun x => fitB (P ++ Q) x f l.length).map nL
  | 0, l, T, F, hl, hs, hT, hF => by
    obtain ⟨F, rfl⟩ : ∃ G, F = G + 2 := ⟨F - 2, by omega⟩
    rw [cmpl, if_neg (by omega), if_pos (by omega), cmpl, if_pos rfl]
    have : rowOf n p T = nL l := rowOf_eq hn (by omega) hT.tv (by rw [nL_len]; omega) fun d hd => by
      rw [hT.ai d (by omega) (by omega), if_pos (by omega)]
    simp [ext, fitB, this]
  | f + 1, l, T, F, hl, hs, hT, hF => by
    obtain ⟨F, rfl⟩ : ∃ G, F = G + 1 := ⟨F - 1, by omega⟩
    have ha : en T.1 (p * 5 + l.length) = -1 := by
      rw [hT.ai l.length (by omega) (by omega), if_neg (by omega)]
    rw [cmpl, if_neg (by omega), if_neg (by omega), if_neg (by omega), ext]
    unfold bits
    rw [fm_filter, List.map_flatMap, filter_fm, List.map_flatMap]
    have hz : ∀ s, s < 5 → (mayB n (bn T.2.1 p) (bn T.2.2 l.length)).testBit s = (decide (s < n) && !decide (s ∈ l) && !metB (P ++ Q) l.length (s : Nat)) := fun s h5 => by
      rw [may_tst (by omega) (hT.tv.tb.b32 p (by omega)) (hT.tv.tb.d32 l.length (by omega)) h5]
      have hb : (bn T.2.1 p).testBit s = decide (s ∈ l) := by
        rw [Bool.eq_iff_iff, hT.b s h5, List.take_of_length_le (by rw [nL_len]; omega), decide_eq_true_eq]
        exact mem_nL
      have hd : (bn T.2.2 l.length).testBit s = metB (P ++ Q) l.length (s : Nat) := by
        rw [Bool.eq_iff_iff, hT.d l.length s (by omega) h5]
        unfold metB
        rw [List.any_eq_true]
        constructor
        · rintro (⟨q, hq, h5, h6⟩ | h5)
          · exact ⟨q, hq, by simp [h5, h6]⟩
          · omega
        · rintro ⟨q, hq, h5⟩
          simp only [Bool.and_eq_true, decide_eq_true_eq, beq_iff_eq] at h5
          exact .inl ⟨q, hq, h5⟩
      rw [hb, hd]
    have e1 : (List.range 5).flatMap (fun s => List.map (rowOf n p) (if (mayB n (bn T.2.1 p) (bn T.2.2 l.length)).testBit s = true then cmpl n (p + 1) F p (l.length + 1) (putT T p l.length s) else [])) =
        (List.range 5).flatMap (fun s => if (decide (s < n) && !decide (s ∈ l) && !metB (P ++ Q) l.length (s : Nat)) = true then ((ext n f (l ++ [s])).filter fun x => fitB (P ++ Q) x f (l.length + 1)).map nL else []) := by
      refine fm_congr fun s hs5 => ?_
      have h5 := List.mem_range.1 hs5
      rw [hz s h5]
      by_cases g : (decide (s < n) && !decide (s ∈ l) && !metB (P ++ Q) l.length (s : Nat)) = true
      · rw [if_pos g, if_pos g]
        simp only [Bool.and_eq_true, decide_eq_true_eq] at g
        have hl1 : (l ++ [s]).length = l.length + 1 := by simp
        have hR : Rc P p (nL (l ++ [s])) l.length Q T := hT.congr (by rw [show nL (l ++ [s]) = nL l ++ [(s : Int)] by simp [nL], List.take_append_of_le_length (by rw [nL_len]; omega)]) fun d hd => by rw [nL_en hd, nL_en (by omega), gn_app1 hd]
        have hR2 := hR.put (by omega) (by omega) (by rw [nL_len]; omega) h5 (by rw [nL_en (by omega), gn_app2])
        rw [← hl1] at hR2
        have ih := row_cmplC n hn P Q p hp f (l ++ [s]) (putT T p l.length s) F (by omega) (fun t ht => by
          rcases List.mem_append.1 ht with ht | ht
          · exact hs t ht
          · obtain rfl := List.mem_singleton.1 ht
            exact g.1.1) hR2 (by omega)
        rw [hl1] at ih
        exact ih
      · rw [if_neg g, if_neg g]; rfl
    rw [e1, fm_range (n := n) (fun s h => by rw [decide_eq_false (by omega)]; rfl) 5 hn]
    refine fm_congr fun s hs' => ?_
    have hsn := List.mem_range.1 hs'
    rw [decide_eq_true hsn, Bool.true_and]
    by_cases g : s ∈ l
    · rw [if_pos g, decide_eq_true g]; rfl
    · rw [if_neg g, decide_eq_false g, Bool.not_false, Bool.true_and]
      have hx : ∀ x ∈ ext n f (l ++ [s]), gn x l.length = s := fun x hx => by
        rw [(ext_get hx).2 l.length (by simp), gn_app2]
      have hq : (ext n f (l ++ [s])).filter (fun x => fitB (P ++ Q) x (f + 1) l.length) = (ext n f (l ++ [s])).filter (fun x => !metB (P ++ Q) l.length (s : Nat) && fitB (P ++ Q) x f (l.length + 1)) := filter_congr' fun x h => by
        show (!metB (P ++ Q) l.length (gn x l.length : Nat) && _) = _
        rw [hx x h]
      rw [hq]
      cases metB (P ++ Q) l.length (s : Nat) with
      | true => simp
      | false => simp
theorem row_memC (n : Nat) (hn : n ≤ 5) (P Q : List (List Int)) (p : Nat) (hp : p < n) (hP : P.length = p) (hQ : p + 1 + Q.length ≤ 5) : ∀ (f : Nat) (l : List Nat) (T : T3) (F : Nat), l.length + f = n → Rc P p (nL l) l.length Q T → f + 2 ≤ F → ∀ T' ∈ cmpl n (p + 1) F p l.length T, ∃ x : List Nat, x.length = n ∧ rowOf n p T' = nL x ∧ Rc (P ++ [nL x]) (p + 1) (ro Q 0) (ro Q 0).length Q.tail T'
  | 0, l, T, F, hl, hT, hF => by
    obtain ⟨F, rfl⟩ : ∃ G, F = G + 2 := ⟨F - 2, by omega⟩
    rw [cmpl, if_neg (by omega), if_pos (by omega), cmpl, if_pos rfl]
    intro T' hm
    obtain rfl := List.mem_singleton.1 hm
    have h2 := hT
    rw [show l.length = (nL l).length from (nL_len l).symm] at h2
    refine ⟨l, by omega, ?_, h2.next hP hQ⟩
    exact rowOf_eq hn (by omega) hT.tv (by rw [nL_len]; omega) fun d hd => by
      rw [hT.ai d (by omega) (by omega), if_pos (by omega)]
  | f + 1, l, T, F, hl, hT, hF => by
    obtain ⟨F, rfl⟩ : ∃ G, F = G + 1 := ⟨F - 1, by omega⟩
    have ha : en T.1 (p * 5 + l.length) = -1 := by
      rw [hT.ai l.length (by omega) (by omega), if_neg (by omega)]
    rw [cmpl, if_neg (by omega), if_neg (by omega), if_neg (by omega)]
    intro T' hm
    obtain ⟨s, hs, hm⟩ := List.mem_flatMap.1 hm
    have h5 := (mem_bits.1 hs).1
    have hl1 : (l ++ [s]).length = l.length + 1 := by simp
    have hR : Rc P p (nL (l ++ [s])) l.length Q T := hT.congr (by rw [show nL (l ++ [s]) = nL l ++ [(s : Int)] by simp [nL], List.take_append_of_le_length (by rw [nL_len]; omega)]) fun d hd => by rw [nL_en hd, nL_en (by omega), gn_app1 hd]
    have hR2 := hR.put (by omega) (by omega) (by rw [nL_len]; omega) h5 (by rw [nL_en (by omega), gn_app2])
    rw [← hl1] at hR2 hm
    exact row_memC n hn P Q p hp hP hQ f (l ++ [s]) _ F (by omega) hR2 (by omega) T' hm
theorem row_skip (n to p k : Nat) (hp : p < to) (hk : k ≤ n) (T : T3) (hT : ∀ d, d < k → 0 ≤ en T.1 (p * 5 + d)) : ∀ (g j F F' : Nat), k - j = g → j ≤ k → (to - p) * (n + 1) + (n - j) < F → (to - p) * (n + 1) + (n - k) < F' → cmpl n to F p j T = cmpl n to F' p k T
  | 0, j, F, F', hg, hj, hF, hF' => by
    have : j = k := by omega
    subst this
    exact cmpl_fuel n to F F' p j T hF hF' (by omega) hk
  | g + 1, j, F, F', hg, hj, hF, hF' => by
    obtain ⟨F, rfl⟩ : ∃ G, F = G + 1 := ⟨F - 1, by omega⟩
    rw [cmpl_in (by omega) (by omega), if_pos (hT j (by omega))]
    exact row_skip n to p k hp hk T hT g (j + 1) F F' (by omega) (by omega) (by omega) hF'
theorem corner_row {n : Nat} (hn : n ≤ 5) {P Q : List (List Int)} {l : List Nat} {T : T3} (hp : P.length < n) (hQ : P.length + 1 + Q.length ≤ 5) (hl : l.length ≤ n) (hs : ∀ s ∈ l, s < n) (hT : Rc P P.length (nL l) l.length Q T) (F F' : Nat) (hF : (n - P.length) * (n + 1) + n < F) (hF' : (n - (P.length + 1)) * (n + 1) + n < F') :
    ∃ R : List T3, cmpl n n F P.length 0 T = R.flatMap (fun T' => cmpl n n F' (P.length + 1) 0 T') ∧ R.map (rowOf n P.length) = (fitl n (P ++ Q) l).map nL ∧ ∀ T' ∈ R, ∃ x : List Nat, x.length = n ∧ rowOf n P.length T' = nL x ∧ Rc (P ++ [nL x]) (P.length + 1) (ro Q 0) (ro Q 0).length Q.tail T' := by
  refine ⟨cmpl n (P.length + 1) (n + n + 4) P.length l.length T, ?_, ?_, ?_⟩
  · rw [row_skip n n P.length l.length hp hl T (fun d hd => by
      rw [hT.ai d (by omega) (by omega), if_pos hd, nL_en hd]; omega) l.length 0 F F rfl (by omega) (by omega) (by omega)]
    exact cmpl_split n P.length hp (n - l.length) l.length T (by omega) F (n + n + 4) F' (by omega) (by rw [show P.length + 1 - P.length = 1 by omega]; omega) hF'
  · exact row_cmplC n hn P Q P.length hp (n - l.length) l T (n + n + 4) (by omega) hs hT (by omega)
  · exact row_memC n hn P Q P.length hp rfl hQ (n - l.length) l T (n + n + 4) (by omega) hT (by omega)
def fil (n : Nat) : List (List Nat) → List (List Nat) → Option (List (List Nat))
  | [], B => some B
  | l :: Q, B => (fitl n ((B ++ Q).map nL) l).findSome? fun x => fil n Q (B ++ [x])
structure Cok (n w : Nat) (C : List (List Nat)) : Prop where
  row : ∀ l ∈ C, l ∈ ext n w []
  col : C.Pairwise fun a b => ∀ d, d < w → gn a d ≠ gn b d
theorem ext_trans {n b : Nat} {x' x : List Nat} : ∀ {a : Nat} {l : List Nat}, x' ∈ ext n a l → x ∈ ext n b x' → x ∈ ext n (a + b) l
  | 0, l, h, hx => by
    obtain rfl := List.mem_singleton.1 h
    rw [Nat.zero_add]; exact hx
  | a + 1, l, h, hx => by
    rw [show a + 1 + b = (a + b) + 1 by omega, ext, List.mem_flatMap]
    rw [ext, List.mem_flatMap] at h
    obtain ⟨s, hs, h⟩ := h
    refine ⟨s, hs, ?_⟩
    by_cases e : s ∈ l
    · rw [if_pos e] at h; cases h
    · rw [if_neg e] at h ⊢
      exact ext_trans h hx
theorem met_app (P Q : List (List Int)) (d : Nat) (s : Int) : metB (P ++ Q) d s = (metB P d s || metB Q d s) := by
  unfold metB; rw [List.any_append]
def Res (n m : Nat) (o : Option (List (List Nat))) (L : List T3) : Prop :=
  match o with
  | none => L = []
  | some B' => ∃ D', Vp n B' D' ∧ B'.length = m ∧ ∃ T1 R, L = T1 :: R ∧ ∀ r', Rp ((gre n (n - m) B').map nL) n r' 0 T1
theorem res_fm {n m p : Nat} (g : List Nat → Option (List (List Nat))) (h : T3 → List T3) : ∀ (R : List T3) (Xs : List (List Nat)), R.map (rowOf n p) = Xs.map nL → (∀ T' x, T' ∈ R → x ∈ Xs → rowOf n p T' = nL x → Res n m (g x) (h T')) → Res n m (Xs.findSome? g) (R.flatMap h)
  | [], [], _, _ => rfl
  | T' :: R, x :: Xs, e, hh => by
    simp only [List.map_cons, List.cons.injEq] at e
    have h1 := hh T' x (.head _) (.head _) e.1
    have h2 := res_fm g h R Xs e.2 fun T' x a b => hh T' x (.tail _ a) (.tail _ b)
    rw [List.findSome?_cons, List.flatMap_cons]
    cases eg : g x with
    | none =>
      rw [eg] at h1
      have h1' : h T' = [] := h1
      rw [h1', List.nil_append]; exact h2
    | some B' =>
      rw [eg] at h1
      obtain ⟨D', a1, a2, T1, R1, a3, a4⟩ := h1
      exact ⟨D', a1, a2, T1, R1 ++ R.flatMap h, by rw [a3]; rfl, a4⟩
  | [], x :: Xs, e, _ => by simp at e
  | T' :: R, [], e, _ => by simp at e
theorem nL_inj {x y : List Nat} (h : nL x = nL y) : x = y := by
  have hl : x.length = y.length := by have := congrArg List.length h; simpa [nL] using this
  refine List.ext_getElem hl fun d h1 h2 => ?_
  have := congrArg (fun z => en z d) h
  simp only [nL_en h1, nL_en h2] at this
  have h3 : gn x d = gn y d := by omega
  simpa [gn, List.getD, h1, h2] using h3
theorem fitl_vp {n w : Nat} (hw : w ≤ n) {B Q : List (List Nat)} {D : List Nat} {l x : List Nat} (hV : Vp n B D) (hl : l ∈ ext n w []) (hB : ∀ d, d < w → metB (B.map nL) d (gn l d : Nat) = false) (hx : x ∈ fitl n ((B ++ Q).map nL) l) : Vp n (B ++ [x]) (stp D x) ∧ x.length = n ∧ ∀ d, d < w → gn x d = gn l d := by
  have hll : l.length = w := by simpa using (ext_get hl).1
  obtain ⟨h1, h2⟩ := List.mem_filter.1 hx
  rw [hll] at h1 h2
  obtain ⟨g1, g2⟩ := ext_get h1
  have hx0 := ext_trans hl h1
  rw [show w + (n - w) = n by omega] at hx0
  refine ⟨.snoc B D x hV hx0 (fitB_mk fun j _ hj => ?_), by omega, fun d hd => g2 d (by omega)⟩
  by_cases e : j < w
  · rw [g2 j (by omega)]; exact hB j e
  · have := fitB_get h2 j (by omega) (by omega)
    rw [List.map_append, met_app, Bool.or_eq_false_iff] at this
    exact this.1
theorem srch {n w : Nat} (hn1 : 1 ≤ n) (hn : n ≤ 5) (hw : w ≤ n) : ∀ (C B : List (List Nat)) (D : List Nat) (T : T3), Vp n B D → B.length + C.length ≤ n → Cok n w C → (∀ l ∈ C, ∀ d, d < w → metB (B.map nL) d (gn l d : Nat) = false) →
    Rc (B.map nL) B.length (ro (C.map nL) 0) (ro (C.map nL) 0).length (C.map nL).tail T → ∀ F, (n - B.length) * (n + 1) + n < F → Res n (B.length + C.length) (fil n C B) (cmpl n n F B.length 0 T)
  | [], B, D, T, hV, hl, hC, hB, hT, F, hF => by
    have hR := fun r => Rc.rp (show Rc (B.map nL) B.length [] 0 [] T from hT) r
    obtain ⟨T1, R, h1, h2⟩ := full_hd hn1 hn (n - B.length) B D T hV (by simp at hl; omega) hR F hF
    exact ⟨D, hV, by simp, T1, R, h1, by simpa using h2⟩
  | l :: Q, B, D, T, hV, hl, hC, hB, hT, F, hF => by
    have hlen : (B.map nL).length = B.length := List.length_map ..
    have hlw := hC.row l (.head _)
    have hll : l.length = w := by simpa using (ext_get hlw).1
    simp only [List.length_cons] at hl
    have hT' : Rc (B.map nL) (B.map nL).length (nL l) l.length (Q.map nL) T := by
      rw [hlen]
      have : ro ((l :: Q).map nL) 0 = nL l := rfl
      rw [this, nL_len] at hT
      exact hT
    obtain ⟨R, r1, r2, r3⟩ := corner_row hn (by omega) (by rw [hlen, List.length_map]; omega) (by omega) (fun s hs => ext_lt (fun s hs => absurd hs (by simp)) hlw s hs) hT' F ((n - (B.length + 1)) * (n + 1) + n + 1) (by rw [hlen]; exact hF) (by rw [hlen]; omega)
    rw [hlen] at r1 r2 r3
    rw [← List.map_append] at r2
    rw [r1, fil]
    refine res_fm _ _ R _ r2 fun T' x hm hx he => ?_
    obtain ⟨x', x1, x2, x3⟩ := r3 T' hm
    obtain rfl := nL_inj (x2.symm.trans he)
    obtain ⟨v1, v2, v3⟩ := fitl_vp hw hV hlw (hB l (.head _)) hx
    have hp := List.pairwise_cons.1 hC.col
    have hl1 : (B ++ [x']).length = B.length + 1 := by simp
    have ih := srch hn1 hn hw Q (B ++ [x']) _ T' v1 (by omega) ⟨fun a ha => hC.row a (.tail _ ha), hp.2⟩ (fun q hq d hd => by
      rw [List.map_append, met_app, hB q (.tail _ hq) d hd, Bool.false_or, met_nL, List.any_eq_false]
      intro y hy hh
      obtain rfl := List.mem_singleton.1 hy
      have hh' : d < y.length ∧ gn y d = gn q d := by simpa using hh
      exact hp.1 q hq d hd (by rw [← v3 d hd]; exact hh'.2)) (by rw [hl1, List.map_append]; exact x3) ((n - (B.length + 1)) * (n + 1) + n + 1) (by rw [hl1]; omega)
    rw [hl1] at ih
    rw [List.length_cons, show B.length + (Q.length + 1) = B.length + 1 + Q.length by omega]
    exact ih
def widE (L : List (List Int)) : Nat := (ro L 0).length
def corE (x : Int) (L : List (List Int)) : Int := chkE x (widE L) L
def cntS (L : List (List Int)) (s : Nat) : Nat := (L.filter fun r => decide ((s : Int) ∈ r)).length
def barB (n : Nat) (L : List (List Int)) (s : Nat) : Bool := decide ((cntS L s : Int) < (L.length : Int) + (widE L : Int) - (n : Int))
def bars (n : Nat) (L : List (List Int)) : List Nat := (List.range n).filter (barB n L)
theorem wrapS' {m : Nat} (h : m ≤ 100000) : IntKind.i64.wrap (m : Int) = m := by
  cases m with
  | zero => decide
  | succ b => exact wrapN (by omega)
theorem wrapD {a b : Nat} (ha : a ≤ 100) (hb : b ≤ 100) : IntKind.i64.wrap ((a : Int) - (b : Int)) = (a : Int) - (b : Int) := by
  have key : ∀ d : Nat, d ≤ 100 → IntKind.i64.wrap (-(d : Int)) = -(d : Int) := by decide +kernel
  by_cases h : b ≤ a
  · rw [show (a : Int) - (b : Int) = ((a - b : Nat) : Int) by omega]; exact wrapS' (by omega)
  · rw [show (a : Int) - (b : Int) = -((b - a : Nat) : Int) by omega]; exact key _ (by omega)
theorem b_val : ∀ x : Nat, x < 32 → ∀ s : Nat, s < 5 → IntKind.i64.wrap (bitsI .and .u64 (Int.fdiv (x : Int) (2 ^ (min s 64))) 1) = ((if x.testBit s then 1 else 0 : Nat) : Int) := by decide +kernel
theorem wid_le {n : Nat} {w : Int} {L : List (List Int)} (h : chkE n w L = 0) (hL : 0 < L.length) : w ≤ n ∧ ∀ j, j < L.length → ((ro L j).length : Int) = w := by
  obtain ⟨h1, h2, h3, h4⟩ := chkE_zero h
  exact ⟨(rowE_zero h4 0 (by omega) (by omega)).2.1, fun j hj => (rowE_zero h4 j (by omega) (by omega)).1⟩
theorem wid_n {n : Nat} {L : List (List Int)} (h : corE n L = 0) : widE L ≤ n ∧ ∀ r ∈ L, r.length = widE L := by
  by_cases hL : 0 < L.length
  · obtain ⟨a, b⟩ := wid_le h hL
    refine ⟨by omega, fun r hr => ?_⟩
    obtain ⟨i, hi, rfl⟩ := List.getElem_of_mem hr
    have := b i hi
    have e : ro L i = L[i] := by simp [ro, List.getD, hi]
    rw [e] at this; omega
  · have : L = [] := List.eq_nil_of_length_eq_zero (by omega)
    subst this
    exact ⟨by simp [widE, ro, List.getD], fun r hr => absurd hr (by simp)⟩
theorem cornered_ok (N : Nat) (hN : 2000 ≤ N) (x : Int) (L : List (List Int)) (hL : L.length ≤ 1000) (hr : ∀ r ∈ L, r.length ≤ 1000) :
    ∃ T, m83 N x (.lst false L.length (rwsP L)) = some (if corE x L = 0 then .inr ((widE L : Int), 0, tP x.toNat T) else .inl ((widE L : Int), corE x L)) ∧ (corE x L = 0 → ∀ r', Rq L L.length r' 0 T) := by
  obtain ⟨T, e, hT⟩ := opened3_ok N hN x (widE L : Nat) L hL hr
  refine ⟨T, ?_, hT⟩
  rw [m83, getL_t]
  by_cases h : 0 < L.length
  · rw [brn_dt (by omega), grd_t (by omega), grd_t (by rw [rws_len]; omega), rws_gp h, getL_t]
    unfold widE corE at *
    rw [e, bnd_t]
    unfold opE widE
    by_cases g : chkE x (ro L 0).length L = 0
    · simp only [if_pos g]
    · simp only [if_neg g]
  · have h0 : L = [] := List.eq_nil_of_length_eq_zero (by omega)
    subst h0
    rw [brn_df (by simp)]
    have hw : widE [] = 0 := by simp [widE, ro, List.getD]
    unfold corE at *
    rw [hw] at e ⊢
    rw [show m61 N x (.lst false ([] : List (List Int)).length (rwsP [])) 0 = _ from e, bnd_t]
    unfold opE
    by_cases g : chkE x ((0 : Nat) : Int) [] = 0
    · simp only [if_pos g]; rfl
    · simp only [if_neg g]; rfl
theorem cnt_L3 (N n : Nat) (L : List (List Int)) (hL : L.length ≤ 5) (x y z : Int) (T : T3) (hT : ∀ r', Rq L L.length r' 0 T) (s : Nat) (hs : s < 5) (a : Nat) (c : List PV) : ∀ (f i fuel k : Nat), L.length - i = f → f < fuel → i ≤ L.length → k ≤ i →
    m81_L3 N x L.length (rwsP L) y (tP n T) a (s : Int) c fuel (k : Int) (i : Int) = some ((k + cntS (L.drop i) s : Nat) : Int)
  | f, i, 0, _, _, _, _, _ => by omega
  | f, i, fuel + 1, k, hf, hfu, hi, hk => by
    have hl := tbl_len (n := n) (hT []).tv.tb
    rw [m81_L3]
    by_cases g : i < L.length
    · have hb : (bn T.2.1 i).testBit s = decide ((s : Int) ∈ ro L i) := by
        rw [Bool.eq_iff_iff, (hT []).bp i s g (by omega) hs, decide_eq_true_eq]
      have ih := fun k h => cnt_L3 N n L hL x y z T hT s hs a c (f - 1) (i + 1) fuel k (by omega) (by omega) (by omega) h
      rw [brn_dt (by omega), grd_t ⟨by omega, by omega⟩, toNatN, grd_t (by unfold tP; omega), show gp (tP n T) (26 + i) = .int .u64 (bn T.2.1 i : Int) from gp_b (hT []).tv.tb (by omega), getU_t, grd_t (by omega), toNatN, b_val _ ((hT []).tv.tb.b32 i (by omega)) s hs, hb, drop_ro g]
      unfold cntS
      rw [List.filter_cons]
      by_cases e : (s : Int) ∈ ro L i
      · rw [decide_eq_true e, if_pos rfl, if_pos rfl, wrapN (by omega)]
        rw [show IntKind.i64.wrap ((k : Int) + ((1 : Nat) : Int)) = ((k + 1 : Nat) : Int) from wrapN (by omega), ih (k + 1) (by omega)]
        unfold cntS
        congr 2; simp; omega
      · rw [decide_eq_false e, if_neg (by simp), if_neg (by simp), wrapN (by omega)]
        rw [show IntKind.i64.wrap ((k : Int) + ((0 : Nat) : Int)) = (k : Int) by rw [show (k : Int) + ((0 : Nat) : Int) = (k : Int) by omega]; exact wrapS' (by omega), ih k (by omega)]
        rfl
    · rw [brn_df (by omega), List.drop_eq_nil_of_le (by omega)]; rfl
theorem bar_L2 (N n : Nat) (hN : 2000 ≤ N) (hn : n ≤ 5) (L : List (List Int)) (hL : L.length ≤ 5) (hw : widE L ≤ 5) (T : T3) (hT : ∀ r', Rq L L.length r' 0 T) : ∀ (f s fuel : Nat) (A : List Nat), n - s = f → f < fuel → s ≤ n → A.length ≤ s →
    m81_L2 N (n : Int) L.length (rwsP L) (widE L : Int) (tP n T) fuel A.length (s : Int) (iL (nL A)) = some ((A ++ (List.range' s (n - s)).filter (barB n L)).length, iL (nL (A ++ (List.range' s (n - s)).filter (barB n L))))
  | f, s, 0, _, _, _, _, _ => by omega
  | f, s, fuel + 1, A, hf, hfu, hs, hA => by
    rw [m81_L2]
    by_cases g : s < n
    · have h3 := cnt_L3 N n L hL (n : Int) (widE L : Int) 0 T hT s (by omega) A.length (iL (nL A)) L.length 0 N 0 (by omega) (by omega) (by omega) (by omega)
      rw [List.drop_zero, Nat.zero_add] at h3
      have ew : IntKind.i64.wrap (IntKind.i64.wrap ((L.length : Int) + (widE L : Int)) - (n : Int)) = (L.length : Int) + (widE L : Int) - (n : Int) := by
        rw [show (L.length : Int) + (widE L : Int) = ((L.length + widE L : Nat) : Int) by omega, wrapS' (by omega), wrapD (by omega) (by omega)]
      rw [brn_dt (by omega), show m81_L3 N (n : Int) L.length (rwsP L) (widE L : Int) (tP n T) A.length (s : Int) (iL (nL A)) N 0 0 = _ from h3, bnd_t, ew, range'_step g, List.filter_cons]
      cases e : barB n L s with
      | true =>
        have ih := bar_L2 N n hN hn L hL hw T hT (f - 1) (s + 1) fuel (A ++ [s]) (by omega) (by omega) (by omega) (by simp; omega)
        rw [List.length_append, List.length_singleton, List.append_assoc, List.singleton_append] at ih
        rw [brn_t (by unfold barB at e; exact e), if_pos rfl, grd_t (by omega), grd_t (by rw [iL_len, nL_len]), wrapN (by omega), iL_app, show nL A ++ [(s : Int)] = nL (A ++ [s]) by simp [nL]]
        exact ih
      | false =>
        rw [brn_f (by unfold barB at e; exact e), if_neg (by simp), wrapN (by omega)]
        exact bar_L2 N n hN hn L hL hw T hT (f - 1) (s + 1) fuel A (by omega) (by omega) (by omega) (by omega)
    · rw [brn_df (by omega), show n - s = 0 by omega]; simp
def barE (x : Int) (L : List (List Int)) : List Nat × Int := if corE x L ≠ 0 then ([], corE x L) else (bars x.toNat L, 0)
theorem barring_ok (N : Nat) (hN : 2000 ≤ N) (x : Int) (L : List (List Int)) (hL : L.length ≤ 1000) (hr : ∀ r ∈ L, r.length ≤ 1000) :
    m81 N x (.lst false L.length (rwsP L)) = some (.tup [rwP (nL (barE x L).1), .int .i64 (barE x L).2]) := by
  obtain ⟨T, e, hT⟩ := cornered_ok N hN x L hL hr
  rw [m81, getL_t, e, bnd_t]
  unfold barE
  by_cases h : corE x L = 0
  · rw [if_pos h, if_neg (show ¬ corE x L ≠ 0 by simpa using h)]
    dsimp only
    obtain ⟨h1, h2, h3, h4⟩ := chkE_zero h
    obtain ⟨n, rfl⟩ : ∃ n : Nat, x = (n : Int) := ⟨x.toNat, by omega⟩
    have hw := (wid_n h).1
    have hb := bar_L2 N n hN (by omega) L (by omega) (by omega) T (hT h) n 0 N [] (by omega) (by omega) (by omega) (by simp)
    rw [List.nil_append, Nat.sub_zero, ← List.range_eq_range'] at hb
    rw [brn_nf rfl, toNatN, show m81_L2 N (n : Int) L.length (rwsP L) (widE L : Int) (tP n T) N 0 0 [] = _ from hb, bnd_t]
    dsimp only
    rw [grd_t (by rw [iL_len, nL_len])]
    unfold rwP bars; rw [nL_len]
  · rw [if_neg h, if_pos h]
    dsimp only
    rw [brn_nt h]; rfl
def whyE (x : Int) (L : List (List Int)) : Int × Int := if corE x L ≠ 0 then (0, corE x L) else match bars x.toNat L with | [] => (0, 13) | s :: _ => ((s : Int), 0)
theorem why_ok (N : Nat) (hN : 2000 ≤ N) (x : Int) (L : List (List Int)) (hL : L.length ≤ 1000) (hr : ∀ r ∈ L, r.length ≤ 1000) :
    m45 N x (.lst false L.length (rwsP L)) = some (.tup [.int .i64 (whyE x L).1, .int .i64 (whyE x L).2]) := by
  rw [m45, getL_t, barring_ok N hN x L hL hr, bnd_t, getT2_t]
  unfold rwP barE whyE
  by_cases h : corE x L = 0
  · rw [if_neg (show ¬ corE x L ≠ 0 by simpa using h), if_neg (show ¬ corE x L ≠ 0 by simpa using h), getL_t, getI_t, brn_nf rfl]
    cases e : bars x.toNat L with
    | nil => rfl
    | cons s l =>
      dsimp only
      rw [brn_ef (by simp [nL] <;> omega), grd_t (by simp [nL]), grd_t (by simp [iL, nL]), show gp (iL (nL (s :: l))) 0 = .int .i64 (s : Int) from rfl, getI_t]
  · rw [if_pos h, if_pos h, getL_t, getI_t, brn_nt h]
def toC (L : List (List Int)) : List (List Nat) := L.map fun r => r.map Int.toNat
theorem toC_len (L : List (List Int)) : (toC L).length = L.length := by simp [toC]
theorem toC_gn {L : List (List Int)} {j k : Nat} (hj : j < L.length) (hk : k < (ro L j).length) : gn ((ro L j).map Int.toNat) k = (en (ro L j) k).toNat := by simp [gn, en, List.getD, hk]
theorem cok_of {n : Nat} {L : List (List Int)} (h : corE n L = 0) : (toC L).map nL = L ∧ Cok n (widE L) (toC L) := by
  obtain ⟨h1, h2, h3, h4⟩ := chkE_zero h
  have hz : ∀ j, j < L.length → ∀ k, k < (ro L j).length → 0 ≤ en (ro L j) k ∧ en (ro L j) k < n ∧ en (ro L j) k ∉ (ro L j).take k ∧ metB (L.take j) k (en (ro L j) k) = false := fun j hj k hk =>
    dayE_zero (rowE_zero h4 j (by omega) (by omega)).2.2 k (by omega) (by omega)
  have hw : ∀ j, j < L.length → (ro L j).length = widE L := fun j hj => (wid_n h).2 _ (ro_mem hj)
  have hget : ∀ j (hj : j < L.length), L[j] = ro L j := fun j hj => by simp [ro, List.getD, hj]
  refine ⟨?_, fun l hl => ?_, ?_⟩
  · unfold toC
    rw [List.map_map]
    refine (List.map_congr_left fun r hr => ?_).trans (List.map_id _)
    obtain ⟨j, hj, rfl⟩ := List.getElem_of_mem hr
    rw [hget j hj]
    exact nL_toNat fun k hk => (hz j hj k hk).1
  · obtain ⟨r, hr, rfl⟩ := List.mem_map.1 hl
    obtain ⟨j, hj, rfl⟩ := List.getElem_of_mem hr
    rw [hget j hj]
    have hwj := hw j hj
    refine ext_mem _ [] _ (by simp; omega) rfl (fun s hs => ?_) (fun k hk => ?_)
    · obtain ⟨k, hk, rfl⟩ := List.getElem_of_mem hs
      have hk' : k < (ro L j).length := by simpa using hk
      have := hz j hj k hk'
      have e := toC_gn hj hk'
      simp only [gn, List.getD, hk, List.getElem?_eq_getElem, Option.getD_some] at e
      rw [e]; omega
    · have hk' : k < (ro L j).length := by simpa using hk
      have hzk := hz j hj k hk'
      rw [toC_gn hj hk']
      intro hm
      apply hzk.2.2.1
      rw [← List.map_take, List.mem_map] at hm
      obtain ⟨y, hy, e⟩ := hm
      obtain ⟨q, hq, rfl⟩ := List.getElem_of_mem hy
      have hq2 : q < (ro L j).length := by rw [List.length_take] at hq; omega
      have := (hz j hj q hq2).1
      have eq : ((ro L j).take k)[q] = en (ro L j) q := by simp [en, List.getD, hq2]
      rw [eq] at e
      have : en (ro L j) q = en (ro L j) k := by omega
      rw [← this, ← eq]
      exact List.getElem_mem hq
  · rw [List.pairwise_iff_getElem]
    intro i j hi hj hij d hd e
    have hi' : i < L.length := by simpa [toC] using hi
    have hj' : j < L.length := by simpa [toC] using hj
    have e1 : (toC L)[i] = (ro L i).map Int.toNat := by simp [toC, hget i hi']
    have e2 : (toC L)[j] = (ro L j).map Int.toNat := by simp [toC, hget j hj']
    have di : d < (ro L i).length := by rw [hw i hi']; exact hd
    have dj : d < (ro L j).length := by rw [hw j hj']; exact hd
    rw [e1, e2, toC_gn hi' di, toC_gn hj' dj] at e
    have z1 := hz i hi' d di
    have z2 := hz j hj' d dj
    have z3 := z2.2.2.2
    unfold metB at z3
    rw [List.any_eq_false] at z3
    refine z3 (ro L i) ?_ ?_
    · have : ro L i = ro (L.take j) i := by unfold ro; rw [List.getD, List.getD, List.getElem?_take_of_lt hij]
      rw [this]; exact ro_mem (by rw [List.length_take]; omega)
    · rw [decide_eq_true di, Bool.true_and]
      simp only [beq_iff_eq]; omega
def filE (x : Int) (L : List (List Int)) : List (List Int) × Int := if corE x L ≠ 0 then ([], corE x L) else match fil x.toNat (toC L) [] with | none => ([], 12) | some B => ((gre x.toNat (x.toNat - L.length) B).map nL, 0)
theorem told_ok (N : Nat) (a b : Nat) (z : Bool) (A : List Int) : m69_2 N (oneP a b z A) = some (.int .i64 (if z then 1 else 0)) := by
  rw [m69_2, grd_t (by simp [oneP]), show gp (oneP a b z A) 2 = .bool z from rfl, getB_t]
  cases z <;> rfl
theorem fill_ok (N : Nat) (hN : 5000 ≤ N) (x : Int) (L : List (List Int)) (hL : L.length ≤ 1000) (hr : ∀ r ∈ L, r.length ≤ 1000) :
    m47 N x (.lst false L.length (rwsP L)) = some (.tup [.lst false (filE x L).1.length (rwsP (filE x L).1), .int .i64 (filE x L).2]) := by
  obtain ⟨T, e, hT⟩ := cornered_ok N (by omega) x L hL hr
  rw [m47, getL_t, e, bnd_t]
  unfold filE
  by_cases h : corE x L = 0
  · rw [if_pos h, if_neg (show ¬ corE x L ≠ 0 by simpa using h)]
    dsimp only
    obtain ⟨h1, h2, h3, h4⟩ := chkE_zero h
    obtain ⟨n, rfl⟩ : ∃ n : Nat, x = (n : Int) := ⟨x.toNat, by omega⟩
    have hw := (wid_n h).1
    obtain ⟨c1, c2⟩ := cok_of h
    have hcl := toC_len L
    have hrc := (hT h []).rc (by omega)
    rw [← c1] at hrc
    have hmul : (n - 0) * (n + 1) ≤ 5 * 6 := Nat.mul_le_mul (by omega) (by omega)
    have hs := srch (n := n) (w := widE L) (by omega) (by omega) hw (toC L) [] _ T .nil (by simp; omega) c2 (fun l _ d _ => by simp [metB]) hrc 100 (by simp only [List.length_nil]; omega)
    rw [show ([] : List (List Nat)).length + (toC L).length = L.length by simp [hcl]] at hs
    have c := one_ok N n n 0 n (by omega) (by omega) (by omega) false (List.replicate 25 0) (by simp) 100 N 0 0 T (hT h []).tv (by omega) (by omega) (by omega) (by omega)
    have sg := search_one N n hN 0 n (List.replicate 25 0) (by simp) T _ c
    rw [brn_nf rfl, toNatN]
    show bnd' (m64 N (tP n T) (oneP 0 n false (List.replicate 25 0))) _ = _
    rw [sg, bnd_t]
    show getT0 (.tup []) _ = _
    rw [getT0_t]
    cases ef : fil n (toC L) [] with
    | none =>
      rw [ef] at hs
      have hs' : cmpl n n 100 0 0 T = [] := hs
      rw [hs']
      show bnd' (m69_2 N (oneP 0 n false (List.replicate 25 0))) _ = _
      rw [told_ok, bnd_t, getI_t, brn_t (by rfl)]; rfl
    | some B =>
      rw [ef] at hs
      obtain ⟨D', v1, v2, T1, R, v3, v4⟩ := hs
      have v3' : cmpl n n 100 0 0 T = T1 :: R := v3
      rw [v3']
      have hT2 : T1.1.length = 25 := (v4 []).tv.tb.la
      obtain ⟨D2, hg⟩ := gre_vp (by omega) (by omega) (n - L.length) v1 (by omega)
      have hgl : ((gre n (n - L.length) B).map nL).length = n := by rw [List.length_map, gre_len]; omega
      have hro := full_rows (by omega) hgl (vp_len hg) v4
      show bnd' (m69_2 N (oneP 0 n true T1.1)) _ = _
      rw [told_ok, bnd_t, getI_t, brn_ef (by simp)]
      show grd (25 ≤ List.length (List.drop 3 (oneP 0 n true T1.1))) _ = _
      rw [grd_t (by simp [oneP, iL_len, hT2])]
      show bnd' (m65 N (.agg (List.take 25 (List.drop 3 (oneP 0 n true T1.1)))) (n : Int)) _ = _
      rw [oneP_A _ _ _ _ hT2, rows_ok' N n hN (by omega) (by omega) T1.1 hT2, bnd_t, getL_t, hro]
      dsimp only
      rw [hgl]
  · rw [if_neg h, if_pos h]
    dsimp only
    rw [brn_nt h]; rfl
theorem met2_L (N k : Nat) (s : Int) (P : List (List Int)) (hP : P.length ≤ 1000) : ∀ (f i fuel : Nat), P.length - i = f → f < fuel → m63_2_L0 N P.length (k : Int) s (rwsP P) fuel (i : Int) = some (if metB (P.drop i) k s then .inl (.bool true) else .inr ())
  | f, i, 0, _, h => by omega
  | f, i, fuel + 1, hf, hfu => by
    rw [m63_2_L0]
    unfold metB
    by_cases h : i < P.length
    · have ih := met2_L N k s P hP (f - 1) (i + 1) fuel (by omega) (by omega)
      unfold metB at ih
      rw [brn_dt (by omega), grd_t (p := 0 ≤ (i : Int) ∧ (i : Int) < ((P.length : Nat) : Int)) ⟨by omega, by omega⟩, grd_t (p := Int.toNat (i : Int) < List.length (rwsP P)) (by rw [rws_len, toNatN]; omega), gL_n h, drop_ro h, List.any_cons]
      by_cases hk : k < (ro P i).length
      · rw [brn_dt (by omega), decide_eq_true hk, Bool.true_and]
        rw [grd_t (p := 0 ≤ (k : Int) ∧ (k : Int) < (((ro P i).length : Nat) : Int)) ⟨by omega, by omega⟩, grd_t (p := 0 < List.length (List.drop (Int.toNat (k : Int)) (iL (ro P i)))) (by rw [List.length_drop, iL_len, toNatN]; omega), gI_n hk]
        by_cases e : en (ro P i) k = s
        · rw [brn_et e, if_pos (by simp [e])]
        · rw [brn_ef e, wrapN (by omega), ih, show (en (ro P i) k == s) = false from by simpa using e, Bool.false_or]
      · rw [brn_df (by omega), decide_eq_false hk, Bool.false_and, Bool.false_or, wrapN (by omega), ih]
    · rw [brn_df (by omega), List.drop_eq_nil_of_le (by omega)]; rfl
theorem met2_ok (N : Nat) (hN : 2000 ≤ N) (k : Nat) (s : Int) (P : List (List Int)) (hP : P.length ≤ 1000) : m63_2 N P.length (k : Int) s (rwsP P) = some (.bool (metB P k s)) := by
  have := met2_L N k s P hP P.length 0 N (by omega) (by omega)
  rw [m63_2, show m63_2_L0 N P.length (k : Int) s (rwsP P) N 0 = _ from this, List.drop_zero, bnd_t]
  cases metB P k s <;> rfl
theorem fit2_L1 (N n : Nat) (hN : 5000 ≤ N) (hn : n ≤ 5) (P : List (List Int)) (hP : P.length ≤ 1000) (R : List (List Nat)) (hR : ∀ x ∈ R, x.length = n) (i : Nat) (hi : i < R.length) (m : Nat) (cm : List PV) (k : Int) (hk : k = (i : Int)) : ∀ (f d fuel : Nat) (b : Bool), n - d = f → f < fuel → d ≤ n →
    m67_2_L1 N (n : Int) P.length (rwsP P) R.length (rwsP (R.map nL)) m k cm fuel b (d : Int) = some (b && fitB P (R.getD i []) f d)
  | f, d, 0, _, _, h, _ => by omega
  | 0, d, fuel + 1, b, hf, _, hd => by
    rw [m67_2_L1, brn_df (by omega), fitB, Bool.and_true]
  | f + 1, d, fuel + 1, b, hf, hfu, hd => by
    have hx := hR (R.getD i []) (by simp [List.getD, hi])
    have ih := fun b => fit2_L1 N n hN hn P hP R hR i hi m cm k hk f (d + 1) fuel b (by omega) (by omega) (by omega)
    rw [m67_2_L1, brn_dt (by omega), fitB, wrapN (by omega)]
    cases b with
    | false => rw [brn_f rfl, ih]; simp
    | true =>
      have e1 : ro (R.map nL) i = nL (R.getD i []) := by simp [ro, List.getD, hi]
      have hl : (R.map nL).length = R.length := by simp
      subst hk
      rw [brn_t rfl, grd_t ⟨by omega, by omega⟩, toNatN, grd_t (by rw [List.length_drop, rws_len, hl]; omega), rws_gp (by rw [hl]; exact hi), getL_t, e1, nL_len, hx, toNatN, grd_t ⟨by omega, by omega⟩, grd_t (by rw [List.length_drop, iL_len, nL_len]; omega), iL_gp (by rw [nL_len]; omega), getI_t, nL_en (by omega), met2_ok N (by omega) d _ P hP, bnd_t, getB_t, Bool.true_and]
      cases metB P d (gn (R.getD i []) d : Nat) with
      | true => rw [brn_t rfl, ih]; simp
      | false => rw [brn_f rfl, ih]; simp
theorem fit2_L0 (N n : Nat) (hN : 5000 ≤ N) (hn : n ≤ 5) (P : List (List Int)) (hP : P.length ≤ 1000) (R : List (List Nat)) (hRl : R.length ≤ 4000) (hR : ∀ x ∈ R, x.length = n) : ∀ (f i fuel : Nat) (A : List (List Nat)), R.length - i = f → f < fuel → A.length ≤ i →
    m67_2_L0 N (n : Int) P.length (rwsP P) R.length (rwsP (R.map nL)) fuel A.length (i : Int) (rwsP (A.map nL)) = some ((A ++ (R.drop i).filter fun l => fitB P l n 0).length, rwsP ((A ++ (R.drop i).filter fun l => fitB P l n 0).map nL))
  | f, i, 0, _, _, h, _ => by omega
  | f, i, fuel + 1, A, hf, hfu, hA => by
    rw [m67_2_L0]
    by_cases h : i < R.length
    · have hl : (R.map nL).length = R.length := by simp
      have e1 : ro (R.map nL) i = nL (R.getD i []) := by simp [ro, List.getD, h]
      have ed : R.drop i = R.getD i [] :: R.drop (i + 1) := by rw [List.drop_eq_getElem_cons h]; simp [List.getD, h]
      have hx := hR (R.getD i []) (by simp [List.getD, h])
      rw [brn_dt (by omega), show m67_2_L1 N (n : Int) P.length (rwsP P) R.length (rwsP (R.map nL)) A.length (i : Int) (rwsP (A.map nL)) N true 0 = _ from fit2_L1 N n hN hn P hP R hR i h A.length (rwsP (A.map nL)) (i : Int) rfl n 0 N true (by omega) (by omega) (by omega), bnd_t, Bool.true_and, ed, List.filter_cons, wrapN (by omega)]
      cases fitB P (R.getD i []) n 0 with
      | true =>
        have ih := fit2_L0 N n hN hn P hP R hRl hR (f - 1) (i + 1) fuel (A ++ [R.getD i []]) (by omega) (by omega) (by simp; omega)
        have e4 : rwsP (A.map nL) ++ [rwP (nL (R.getD i []))] = rwsP ((A ++ [R.getD i []]).map nL) := by simp [rwsP]
        rw [List.length_append, List.length_singleton, List.append_assoc, List.singleton_append] at ih
        rw [brn_t rfl, grd_t ⟨by omega, by omega⟩, toNatN, grd_t (by rw [List.length_drop, rws_len, hl]; omega), rws_gp (by rw [hl]; exact h), getL_t, e1, grd_t (by omega), grd_t (by rw [rws_len, List.length_map]), if_pos rfl]
        rw [show rwsP (A.map nL) ++ [PV.lst false (nL (R.getD i [])).length (iL (nL (R.getD i [])))] = _ from e4]
        exact ih
      | false =>
        rw [brn_f rfl, if_neg (by simp)]
        exact fit2_L0 N n hN hn P hP R hRl hR (f - 1) (i + 1) fuel A (by omega) (by omega) (by omega)
    · rw [brn_df (by omega), List.drop_eq_nil_of_le (by omega)]; simp
theorem fitting2_ok (N n : Nat) (hN : 5000 ≤ N) (hn : n ≤ 5) (P : List (List Int)) (hP : P.length ≤ 1000) : m67_2 N (n : Int) P.length (rwsP P) = some (.lst false (fitn n P).length (rwsP ((fitn n P).map nL))) := by
  have hc := ext_card (n := n) n []
  have hp := pow5 (f := n) hn hn
  have r := rows_ok N n hN hn n N [] (by simp) (by omega)
  have e := fit2_L0 N n hN hn P hP (ext n n []) (by omega) (fun x hx => by have := (ext_get hx).1; simpa using this) (ext n n []).length 0 N [] (by omega) (by omega) (by simp)
  rw [m67_2, show m91 N N (n : Int) (.lst false 0 []) = _ from r, bnd_t, getL_t]
  rw [show m67_2_L0 N (n : Int) P.length (rwsP P) (ext n n []).length (rwsP ((ext n n []).map nL)) N 0 0 [] = _ from e, bnd_t]
  show grd _ _ = _
  rw [List.nil_append, List.drop_zero, grd_t (by rw [rws_len, List.length_map])]
  rfl
theorem wide_ok (N : Nat) (L : List (List Int)) : m85 N (.lst false L.length (rwsP L)) = some (.int .i64 (widE L : Int)) := by
  rw [m85, getL_t]
  by_cases h : 0 < L.length
  · rw [brn_ef (by omega), grd_t (by omega), grd_t (by rw [rws_len]; omega), rws_gp h, getL_t]; rfl
  · have : L = [] := List.eq_nil_of_length_eq_zero (by omega)
    subst this; rfl
theorem corner2_ok (N : Nat) (hN : 2000 ≤ N) (x : Int) (L : List (List Int)) (hL : L.length ≤ 1000) (hr : ∀ r ∈ L, r.length ≤ 1000) : m50 N x (.lst false L.length (rwsP L)) = some (.int .i64 (corE x L)) := by
  rw [m50, getL_t, wide_ok, bnd_t, getI_t, checked_ok N hN x (widE L) L hL hr, bnd_t, getI_t]; rfl
theorem corner1_ok (N : Nat) (hN : 2000 ≤ N) (x : Int) (L : List (List Int)) (hL : L.length ≤ 1000) (hr : ∀ r ∈ L, r.length ≤ 1000) : m49 N x (.lst false L.length (rwsP L)) = some (.int .i64 (corE x L)) := by
  obtain ⟨T, e, hT⟩ := cornered_ok N hN x L hL hr
  rw [m49, getL_t, e, bnd_t]
  by_cases h : corE x L = 0
  · rw [if_pos h, h]
  · rw [if_neg h]
theorem bars_L (N : Nat) (hN : 2000 ≤ N) (L : List (List Int)) (hL : L.length ≤ 1000) (hr : ∀ r ∈ L, r.length ≤ 1000) (x : Int) (s : Nat) : ∀ (f i fuel k : Nat), L.length - i = f → f < fuel → i ≤ L.length → k ≤ i →
    m82_L0 N x (s : Int) L.length (rwsP L) fuel (k : Int) (i : Int) = some ((k + cntS (L.drop i) s : Nat) : Int)
  | f, i, 0, _, _, _, _, _ => by omega
  | f, i, fuel + 1, k, hf, hfu, hi, hk => by
    rw [m82_L0]
    by_cases g : i < L.length
    · have ih := fun k h => bars_L N hN L hL hr x s (f - 1) (i + 1) fuel k (by omega) (by omega) (by omega) h
      have hh := has_ok N hN (s : Int) (ro L i) (hr _ (ro_mem g))
      unfold rwP at hh
      rw [brn_dt (by omega), grd_t ⟨by omega, by omega⟩, toNatN, grd_t (by rw [List.length_drop, rws_len]; omega), rws_gp g, getL_t, hh, bnd_t, getB_t, drop_ro g]
      unfold cntS
      rw [List.filter_cons]
      by_cases e : (s : Int) ∈ ro L i
      · rw [decide_eq_true e, brn_t rfl, if_pos rfl, wrapN (by omega), wrapN (by omega), ih (k + 1) (by omega)]
        unfold cntS
        congr 2; simp; omega
      · rw [decide_eq_false e, brn_f rfl, if_neg (by simp), wrapN (by omega), ih k (by omega)]; rfl
    · rw [brn_df (by omega), List.drop_eq_nil_of_le (by omega)]; rfl
theorem bars_ok (N n : Nat) (hN : 2000 ≤ N) (hn : n ≤ 5) (L : List (List Int)) (hL : L.length ≤ 5) (hw : widE L ≤ 5) (hr : ∀ r ∈ L, r.length ≤ 1000) (s : Nat) : m82 N (n : Int) (.lst false L.length (rwsP L)) (s : Int) = some (.bool (barB n L s)) := by
  have h := bars_L N hN L (by omega) hr (n : Int) s L.length 0 N 0 (by omega) (by omega) (by omega) (by omega)
  rw [List.drop_zero, Nat.zero_add] at h
  have ew : IntKind.i64.wrap (IntKind.i64.wrap ((L.length : Int) + (widE L : Int)) - (n : Int)) = (L.length : Int) + (widE L : Int) - (n : Int) := by
    rw [show (L.length : Int) + (widE L : Int) = ((L.length + widE L : Nat) : Int) by omega, wrapS' (by omega), wrapD (by omega) (by omega)]
  rw [m82, getL_t, show m82_L0 N (n : Int) (s : Int) L.length (rwsP L) N 0 0 = _ from h, bnd_t, wide_ok, bnd_t, getI_t, ew]; rfl
theorem why_L (N n : Nat) (hN : 2000 ≤ N) (hn : n ≤ 5) (L : List (List Int)) (hL : L.length ≤ 5) (hw : widE L ≤ 5) (hr : ∀ r ∈ L, r.length ≤ 1000) : ∀ (f s fuel : Nat), n - s = f → f < fuel → s ≤ n →
    m46_L0 N (n : Int) L.length (rwsP L) fuel (s : Int) = some (match (List.range' s (n - s)).filter (barB n L) with | [] => .inr () | t :: _ => .inl (.tup [.int .i64 (t : Int), .int .i64 0]))
  | f, s, 0, _, _, _ => by omega
  | f, s, fuel + 1, hf, hfu, hs => by
    rw [m46_L0]
    by_cases g : s < n
    · rw [brn_dt (by omega), bars_ok N n hN hn L hL hw hr s, bnd_t, getB_t, range'_step g, List.filter_cons]
      cases e : barB n L s with
      | true => rw [brn_t rfl, if_pos rfl]
      | false =>
        rw [brn_f rfl, if_neg (by simp), wrapN (by omega)]
        exact why_L N n hN hn L hL hw hr (f - 1) (s + 1) fuel (by omega) (by omega) (by omega)
    · rw [brn_df (by omega), show n - s = 0 by omega]; rfl
theorem why2_ok (N : Nat) (hN : 2000 ≤ N) (x : Int) (L : List (List Int)) (hL : L.length ≤ 1000) (hr : ∀ r ∈ L, r.length ≤ 1000) :
    m46 N x (.lst false L.length (rwsP L)) = some (.tup [.int .i64 (whyE x L).1, .int .i64 (whyE x L).2]) := by
  rw [m46, getL_t, corner2_ok N hN x L hL hr, bnd_t, getI_t]
  unfold whyE
  by_cases h : corE x L = 0
  · obtain ⟨h1, h2, h3, h4⟩ := chkE_zero h
    obtain ⟨n, rfl⟩ : ∃ n : Nat, x = (n : Int) := ⟨x.toNat, by omega⟩
    have hw := (wid_n h).1
    have hl := why_L N n hN (by omega) L (by omega) (by omega) hr n 0 N (by omega) (by omega) (by omega)
    rw [Nat.sub_zero, ← List.range_eq_range'] at hl
    rw [brn_nf h, if_neg (show ¬ corE n L ≠ 0 by simpa using h), toNatN, show m46_L0 N (n : Int) L.length (rwsP L) N 0 = _ from hl, bnd_t]
    unfold bars
    cases (List.range n).filter (barB n L) <;> rfl
  · rw [brn_nt h, if_pos h]
def prvE (x : Int) (L : List (List Int)) (s : Int) : Int := if corE x L ≠ 0 then corE x L else if s < 0 ∨ x ≤ s then 2 else if barB x.toNat L s.toNat then 0 else 14
theorem proves_ok (N : Nat) (hN : 2000 ≤ N) (x : Int) (L : List (List Int)) (hL : L.length ≤ 1000) (hr : ∀ r ∈ L, r.length ≤ 1000) (s : Int) : m51 N x (.lst false L.length (rwsP L)) s = some (.int .i64 (prvE x L s)) := by
  rw [m51, getL_t, barring_ok N hN x L hL hr, bnd_t, getT2_t]
  unfold barE prvE
  by_cases h : corE x L = 0
  · obtain ⟨h1, h2, h3, h4⟩ := chkE_zero h
    obtain ⟨n, rfl⟩ : ∃ n : Nat, x = (n : Int) := ⟨x.toNat, by omega⟩
    rw [if_neg (show ¬ corE n L ≠ 0 by simpa using h), if_neg (show ¬ corE n L ≠ 0 by simpa using h), toNatN]
    have hbl : (bars n L).length ≤ n := by
      have := List.length_filter_le (barB n L) (List.range n)
      rw [List.length_range] at this; exact this
    have hc := cont_ok N hN s (nL (bars n L)) (by rw [nL_len]; omega)
    unfold rwP at hc ⊢
    rw [getL_t, getI_t, brn_nf rfl]
    by_cases e1 : s < 0
    · rw [brn_dt e1, if_pos (.inl e1)]
    · rw [brn_df e1]
      by_cases e2 : (n : Int) ≤ s
      · rw [brn_dt e2, if_pos (.inr e2)]
      · obtain ⟨t, rfl⟩ : ∃ t : Nat, s = (t : Int) := ⟨s.toNat, by omega⟩
        rw [brn_df e2, if_neg (by omega), hc, bnd_t, getB_t, nL_mem, toNatN]
        have : decide (t ∈ bars n L) = barB n L t := by
          rw [Bool.eq_iff_iff, decide_eq_true_eq]
          unfold bars
          rw [List.mem_filter, List.mem_range]
          exact ⟨fun h => h.2, fun h => ⟨by omega, h⟩⟩
        rw [this]
        cases barB n L t <;> rfl
  · rw [if_pos h, if_pos h]
    unfold rwP
    rw [getL_t, getI_t, brn_nt h]
theorem proves2_ok (N : Nat) (hN : 2000 ≤ N) (x : Int) (L : List (List Int)) (hL : L.length ≤ 1000) (hr : ∀ r ∈ L, r.length ≤ 1000) (s : Int) : m52 N x (.lst false L.length (rwsP L)) s = some (.int .i64 (prvE x L s)) := by
  rw [m52, getL_t, corner2_ok N hN x L hL hr, bnd_t, getI_t]
  unfold prvE
  by_cases h : corE x L = 0
  · obtain ⟨h1, h2, h3, h4⟩ := chkE_zero h
    obtain ⟨n, rfl⟩ : ∃ n : Nat, x = (n : Int) := ⟨x.toNat, by omega⟩
    have hw := (wid_n h).1
    have e0 : IntKind.i64.wrap ((n : Int) - 1) = (n : Int) - 1 := wrapD (a := n) (b := 1) (by omega) (by omega)
    rw [brn_et h, if_neg (show ¬ corE n L ≠ 0 by simpa using h), toNatN, m73, e0]
    by_cases e1 : s < 0
    · rw [brn_df (by omega), if_pos (.inl e1)]; rfl
    · rw [brn_dt (by omega), bnd_t, getB_t]
      by_cases e2 : (n : Int) ≤ s
      · rw [brn_df (by omega), if_pos (.inr e2)]
      · obtain ⟨t, rfl⟩ : ∃ t : Nat, s = (t : Int) := ⟨s.toNat, by omega⟩
        rw [brn_dt (by omega), if_neg (by omega), bars_ok N n hN (by omega) L (by omega) (by omega) hr t, bnd_t, getB_t, toNatN]
        cases barB n L t with
        | true => rw [brn_t rfl, h]; rfl
        | false => rfl
  · rw [brn_ef h, if_pos h]
theorem copy_L (N : Nat) (L : List (List Int)) (hL : L.length ≤ 1000) (hr : ∀ r ∈ L, r.length ≤ 1000) : ∀ (f i fuel : Nat), L.length - i = f → f < fuel → i ≤ L.length →
    m93_L0 N L.length (rwsP L) fuel i (i : Int) (rwsP (L.take i)) = some (L.length, rwsP L)
  | f, i, 0, _, _, _ => by omega
  | f, i, fuel + 1, hf, hfu, hi => by
    rw [m93_L0]
    by_cases g : i < L.length
    · have hq := hr _ (ro_mem g)
      have ih := copy_L N L hL hr (f - 1) (i + 1) fuel (by omega) (by omega) (by omega)
      rw [take_ro g, ← rws_app] at ih
      unfold rwP at ih
      have key : ∀ {α : Type} {b : Bool} {x : Option α}, brn b x x = x := fun {α b x} => by cases b <;> rfl
      rw [brn_dt (by omega), grd_t ⟨by omega, by omega⟩, toNatN, grd_t (by rw [List.length_drop, rws_len]; omega), rws_gp g, getL_t, grd_t (iL_len _), key, grd_t (by omega), grd_t (by omega), grd_t (by rw [rws_len, List.length_take]; omega), wrapN (by omega)]
      exact ih
    · rw [brn_df (by omega), show i = L.length by omega, List.take_length]
theorem copy_ok (N : Nat) (hN : 2000 ≤ N) (L : List (List Int)) (hL : L.length ≤ 1000) (hr : ∀ r ∈ L, r.length ≤ 1000) : m93 N (.lst false L.length (rwsP L)) = some (L.length, rwsP L) := by
  have h := copy_L N L hL hr L.length 0 N (by omega) (by omega) (by omega)
  rw [m93, getL_t, show m93_L0 N L.length (rwsP L) N 0 0 [] = _ from h, bnd_t]
theorem fitB_split {P : List (List Int)} {x : List Nat} {f : Nat} : ∀ {a d : Nat}, (∀ j, d ≤ j → j < d + a → metB P j (gn x j : Nat) = false) → fitB P x (a + f) d = fitB P x f (d + a)
  | 0, d, _ => by rw [Nat.zero_add]; rfl
  | a + 1, d, h => by
    rw [show a + 1 + f = (a + f) + 1 by omega, fitB, h d (by omega) (by omega), fitB_split fun j h1 h2 => h j (by omega) (by omega), show d + (a + 1) = d + 1 + a by omega]; rfl
theorem rows_drop {C : List (List Nat)} {m : Nat} : List.drop m (rwsP (C.map nL)) = rwsP ((C.drop m).map nL) := by simp [rwsP, List.map_drop]
theorem fld_L1 (N n : Nat) (hN : 5000 ≤ N) (hn : n ≤ 5) (rec : Int → PV → PV → Option PV) (B C : List (List Nat)) (hB : B.length + 1 ≤ C.length) (hC : C.length ≤ 5) (R : List (List Nat)) (hR : ∀ x ∈ R, x.length = n) (i : Nat) (hi : i < R.length) : ∀ (f d fuel : Nat) (b : Bool), n - d = f → f < fuel → d ≤ n →
    m84_L1 N rec (n : Int) B.length (rwsP (B.map nL)) C.length (rwsP (C.map nL)) R.length (rwsP (R.map nL)) (i : Int) fuel b (d : Int) = some (b && fitB ((B ++ C.drop (B.length + 1)).map nL) (R.getD i []) f d)
  | f, d, 0, _, _, h, _ => by omega
  | 0, d, fuel + 1, b, hf, _, hd => by
    rw [m84_L1, brn_df (by omega), fitB, Bool.and_true]
  | f + 1, d, fuel + 1, b, hf, hfu, hd => by
    have hx := hR (R.getD i []) (by simp [List.getD, hi])
    have ih := fun b => fld_L1 N n hN hn rec B C hB hC R hR i hi f (d + 1) fuel b (by omega) (by omega) (by omega)
    rw [m84_L1, brn_dt (by omega), fitB, wrapN (by omega)]
    cases b with
    | false => rw [brn_f rfl, ih]; simp
    | true =>
      have e1 : ro (R.map nL) i = nL (R.getD i []) := by simp [ro, List.getD, hi]
      have hl : (R.map nL).length = R.length := by simp
      have hm1 := met_ok N (by omega) d (gn (R.getD i []) d : Nat) (B.map nL) (by simp; omega)
      have hm2 := met_ok N (by omega) d (gn (R.getD i []) d : Nat) ((C.drop (B.length + 1)).map nL) (by simp; omega)
      rw [List.length_map] at hm1
      rw [List.length_map, List.length_drop] at hm2
      rw [brn_t rfl, grd_t ⟨by omega, by omega⟩, toNatN, grd_t (by rw [List.length_drop, rws_len, hl]; omega), rws_gp (by rw [hl]; exact hi), getL_t, e1, nL_len, hx, toNatN, grd_t ⟨by omega, by omega⟩, grd_t (by rw [List.length_drop, iL_len, nL_len]; omega), iL_gp (by rw [nL_len]; omega), getI_t, nL_en (by omega), hm1, bnd_t, getB_t, List.map_append, met_app]
      cases metB (B.map nL) d (gn (R.getD i []) d : Nat) with
      | true => rw [brn_t rfl, ih]; simp
      | false =>
        rw [brn_f rfl, wrapN (by omega), grd_t ⟨by omega, by omega⟩, grd_t (by rw [rws_len, List.length_map]), toNatN, rows_drop, show Int.toNat ((C.length : Int) - ((B.length + 1 : Nat) : Int)) = C.length - (B.length + 1) by omega, hm2, bnd_t, getB_t, Bool.false_or]
        cases metB ((C.drop (B.length + 1)).map nL) d (gn (R.getD i []) d : Nat) with
        | true => rw [brn_t rfl, ih]; simp
        | false => rw [brn_f rfl, ih, List.map_append]; simp
def filP (o : Option (List (List Nat))) : PV := match o with | none => .tup [.lst false 0 [], .bool false] | some B => .tup [.lst false B.length (rwsP (B.map nL)), .bool true]
theorem fld_L0 (N n : Nat) (hN : 5000 ≤ N) (hn : n ≤ 5) (rec : Int → PV → PV → Option PV) (B C : List (List Nat)) (hB : B.length + 1 ≤ C.length) (hC : C.length ≤ 5) (hBn : ∀ q ∈ B, q.length = n) (R : List (List Nat)) (hRl : R.length ≤ 4000) (hR : ∀ x ∈ R, x.length = n) (g : List Nat → Option (List (List Nat)))
    (hrec : ∀ x ∈ R, fitB ((B ++ C.drop (B.length + 1)).map nL) x n 0 = true → rec (n : Int) (.lst false (B.length + 1) (rwsP ((B ++ [x]).map nL))) (.lst false C.length (rwsP (C.map nL))) = some (filP (g x))) : ∀ (f i fuel : Nat), R.length - i = f → f < fuel → i ≤ R.length →
    m84_L0 N rec (n : Int) B.length (rwsP (B.map nL)) C.length (rwsP (C.map nL)) R.length (rwsP (R.map nL)) fuel (i : Int) = some (match ((R.drop i).filter fun x => fitB ((B ++ C.drop (B.length + 1)).map nL) x n 0).findSome? g with | none => .inr () | some B' => .inl (filP (some B')))
  | f, i, 0, _, _, _ => by omega
  | f, i, fuel + 1, hf, hfu, hi => by
    rw [m84_L0]
    by_cases h : i < R.length
    · have hl : (R.map nL).length = R.length := by simp
      have hmem : R.getD i [] ∈ R := by simp [List.getD, h]
      have e1 : ro (R.map nL) i = nL (R.getD i []) := by simp [ro, List.getD, h]
      have ed : R.drop i = R.getD i [] :: R.drop (i + 1) := by rw [List.drop_eq_getElem_cons h]; simp [List.getD, h]
      have hx := hR _ hmem
      have ih := fld_L0 N n hN hn rec B C hB hC hBn R hRl hR g hrec (f - 1) (i + 1) fuel (by omega) (by omega) (by omega)
      rw [brn_dt (by omega), show m84_L1 N rec (n : Int) B.length (rwsP (B.map nL)) C.length (rwsP (C.map nL)) R.length (rwsP (R.map nL)) (i : Int) N true 0 = _ from fld_L1 N n hN hn rec B C hB hC R hR i h n 0 N true (by omega) (by omega) (by omega), bnd_t, Bool.true_and, ed, List.filter_cons, wrapN (by omega)]
      cases e : fitB ((B ++ C.drop (B.length + 1)).map nL) (R.getD i []) n 0 with
      | false =>
        rw [brn_f rfl, if_neg (by simp)]
        exact ih
      | true =>
        have hc := copy_ok N (by omega) (B.map nL) (by simp; omega) (fun r hr => by
          obtain ⟨q, hq, rfl⟩ := List.mem_map.1 hr
          rw [nL_len, hBn q hq]; omega)
        rw [List.length_map] at hc
        have e4 : rwsP (B.map nL) ++ [rwP (nL (R.getD i []))] = rwsP ((B ++ [R.getD i []]).map nL) := by simp [rwsP]
        have hr := hrec _ hmem e
        rw [brn_t rfl, hc, bnd_t]
        dsimp only
        rw [grd_t ⟨by omega, by omega⟩, toNatN, grd_t (by rw [List.length_drop, rws_len, hl]; omega), rws_gp (by rw [hl]; exact h), getL_t, e1, grd_t (by omega), grd_t (by rw [rws_len, List.length_map]), if_pos rfl, List.findSome?_cons]
        rw [show rwsP (B.map nL) ++ [PV.lst false (nL (R.getD i [])).length (iL (nL (R.getD i [])))] = _ from e4, hr, bnd_t]
        cases eg : g (R.getD i []) with
        | none =>
          unfold filP
          rw [getT2_t, getL_t, getB_t, brn_f rfl]
          exact ih
        | some B' =>
          unfold filP
          rw [getT2_t, getL_t, getB_t, brn_t rfl]
    · rw [brn_df (by omega), show R.drop i = [] from List.drop_eq_nil_of_le (by omega)]; rfl
theorem fld_ok (N n w : Nat) (hN : 5000 ≤ N) (hn : n ≤ 5) (hw : w ≤ n) (C0 : List (List Nat)) (hC0 : C0.length ≤ 5) : ∀ (C B : List (List Nat)) (fu : Nat), C.length < fu → B.length + C.length = C0.length → C0.drop B.length = C → (∀ q ∈ B, q.length = n) → Cok n w C → (∀ l ∈ C, ∀ d, d < w → metB (B.map nL) d (gn l d : Nat) = false) →
    m84 N fu (n : Int) (.lst false B.length (rwsP (B.map nL))) (.lst false C0.length (rwsP (C0.map nL))) = some (filP (fil n C B))
  | _, _, 0, h, _, _, _, _, _ => by omega
  | [], B, fu + 1, _, hl, hd, hBn, hC, hB => by
    simp at hl
    rw [m84, getL_t, getL_t, brn_et (by omega)]; rfl
  | l :: Q, B, fu + 1, hf, hl, hd, hBn, hC, hB => by
    simp only [List.length_cons] at hl hf
    have hlw := hC.row l (.head _)
    have hll : l.length = w := by simpa using (ext_get hlw).1
    have hdq : C0.drop (B.length + 1) = Q := by
      rw [← List.drop_drop, hd]; rfl
    have hro : ro (C0.map nL) B.length = nL l := by
      have : (C0.map nL).drop B.length = nL l :: Q.map nL := by rw [← List.map_drop, hd]; rfl
      have e := drop_ro (L := C0.map nL) (i := B.length) (by simp; omega)
      rw [this] at e
      simp only [List.cons.injEq] at e
      exact e.1.symm
    have hp := List.pairwise_cons.1 hC.col
    have hrows := rows_ok N n hN hn (n - l.length) N l (by omega) (by omega)
    unfold rwP at hrows
    have hcard := ext_card (n := n) (n - l.length) l
    have hp5 := pow5 (n := n) (f := n - l.length) hn (by omega)
    have hXn : ∀ x ∈ ext n (n - l.length) l, x.length = n := fun x hx => by have := (ext_get hx).1; omega
    -- the fit at the days of the corner is given
    have hfit : ∀ x ∈ ext n (n - l.length) l, fitB ((B ++ Q).map nL) x n 0 = fitB ((B ++ Q).map nL) x (n - l.length) l.length := fun x hx => by
      have h1 := fitB_split (P := (B ++ Q).map nL) (x := x) (f := n - l.length) (a := l.length) (d := 0) fun j _ hj => by
        rw [(ext_get hx).2 j (by omega), List.map_append, met_app, hB l (.head _) j (by omega), Bool.false_or, met_nL, List.any_eq_false]
        intro q hq hh
        have hh' : j < q.length ∧ gn q j = gn l j := by simpa using hh
        exact hp.1 q hq j (by omega) hh'.2.symm
      rw [show l.length + (n - l.length) = n by omega, Nat.zero_add] at h1
      exact h1
    have hflt : (ext n (n - l.length) l).filter (fun x => fitB ((B ++ Q).map nL) x n 0) = fitl n ((B ++ Q).map nL) l := filter_congr' hfit
    have h0 := fld_L0 N n hN hn (m84 N fu) B C0 (by omega) hC0 hBn (ext n (n - l.length) l) (by omega) hXn (fun x => fil n Q (B ++ [x])) (fun x hx hfx => by
      rw [hdq] at hfx
      have hl1 : (B ++ [x]).length = B.length + 1 := by simp
      have := fld_ok N n w hN hn hw C0 hC0 Q (B ++ [x]) fu (by omega) (by omega) (by rw [hl1]; exact hdq) (fun q hq => by
        rcases List.mem_append.1 hq with hq | hq
        · exact hBn q hq
        · obtain rfl := List.mem_singleton.1 hq
          exact hXn q hx) ⟨fun a ha => hC.row a (.tail _ ha), hp.2⟩ (fun q hq d hd => by
        rw [List.map_append, met_app, hB q (.tail _ hq) d hd, Bool.false_or, met_nL, List.any_eq_false]
        intro y hy hh
        obtain rfl := List.mem_singleton.1 hy
        have hh' : d < y.length ∧ gn y d = gn q d := by simpa using hh
        exact hp.1 q hq d hd (by rw [← (ext_get hx).2 d (by omega)]; exact hh'.2))
      rw [hl1] at this
      exact this) (ext n (n - l.length) l).length 0 N rfl (by omega) (by omega)
    rw [List.drop_zero, hdq, hflt] at h0
    rw [m84, getL_t, getL_t, brn_ef (by omega), grd_t ⟨by omega, by omega⟩, grd_t (by rw [List.length_drop, rws_len, List.length_map]; omega), rws_gp (by rw [List.length_map]; omega), getL_t, hro, hrows, bnd_t, getL_t, show m84_L0 N (m84 N fu) (n : Int) B.length (rwsP (B.map nL)) C0.length (rwsP (C0.map nL)) (ext n (n - l.length) l).length (rwsP ((ext n (n - l.length) l).map nL)) N 0 = _ from h0, bnd_t, fil]
    cases (fitl n ((B ++ Q).map nL) l).findSome? fun x => fil n Q (B ++ [x]) <;> rfl
theorem gre_L (N n : Nat) (hN : 5000 ≤ N) (hn1 : 1 ≤ n) (hn : n ≤ 5) : ∀ (m fuel : Nat) (X : List (List Nat)) (D : List Nat), m < fuel → Vp n X D → X.length + m = n →
    m70_L0 N (n : Int) fuel X.length (rwsP (X.map nL)) = some (n, rwsP ((gre n m X).map nL))
  | m, 0, _, _, h, _, _ => by omega
  | 0, fuel + 1, X, D, _, h, hm => by
    rw [m70_L0, brn_df (by omega), gre, show X.length = n by omega]
  | m + 1, fuel + 1, X, D, hf, h, hm => by
    obtain ⟨y, l, e, h2, hy⟩ := vp_head hn1 hn h (by omega)
    have hlen : (X.map nL).length = X.length := List.length_map ..
    have hfi := fitting2_ok N n hN hn (X.map nL) (by omega)
    rw [hlen, e] at hfi
    have ih := gre_L N n hN hn1 hn m fuel (X ++ [y]) _ (by omega) h2 (by simp; omega)
    rw [List.length_append, List.length_singleton, List.map_append, List.map_singleton, ← rws_app] at ih
    unfold rwP at ih
    rw [m70_L0, brn_dt (by omega), hfi, bnd_t, getL_t, grd_t (by simp <;> omega), grd_t (by simp [rwsP]), show gp (rwsP ((y :: l).map nL)) 0 = rwP (nL y) from rfl]
    unfold rwP
    rw [getL_t, grd_t (by omega), grd_t (by rw [rws_len, hlen]), ih, gre, e]; rfl
theorem fill2_ok (N : Nat) (hN : 5000 ≤ N) (x : Int) (L : List (List Int)) (hL : L.length ≤ 1000) (hr : ∀ r ∈ L, r.length ≤ 1000) :
    m48 N x (.lst false L.length (rwsP L)) = some (.tup [.lst false (filE x L).1.length (rwsP (filE x L).1), .int .i64 (filE x L).2]) := by
  rw [m48, getL_t, corner2_ok N (by omega) x L hL hr, bnd_t, getI_t]
  unfold filE
  by_cases h : corE x L = 0
  · rw [brn_nf h, if_neg (show ¬ corE x L ≠ 0 by simpa using h)]
    obtain ⟨h1, h2, h3, h4⟩ := chkE_zero h
    obtain ⟨n, rfl⟩ : ∃ n : Nat, x = (n : Int) := ⟨x.toNat, by omega⟩
    have hw := (wid_n h).1
    obtain ⟨c1, c2⟩ := cok_of h
    have hcl := toC_len L
    obtain ⟨T, e, hT⟩ := cornered_ok N (by omega) n L hL hr
    have hrc := (hT h []).rc (by omega)
    rw [← c1] at hrc
    have hmul : (n - 0) * (n + 1) ≤ 5 * 6 := Nat.mul_le_mul (by omega) (by omega)
    have hs := srch (n := n) (w := widE L) (by omega) (by omega) hw (toC L) [] _ T .nil (by simp; omega) c2 (fun l _ d _ => by simp [metB]) hrc 100 (by simp only [List.length_nil]; omega)
    rw [show ([] : List (List Nat)).length + (toC L).length = L.length by simp [hcl]] at hs
    have hf := fld_ok N n (widE L) hN (by omega) hw (toC L) (by omega) (toC L) [] N (by omega) (by simp) rfl (fun q hq => absurd hq (by simp)) c2 (fun l _ d _ => by simp [metB])
    rw [c1, hcl] at hf
    rw [show m84 N N (n : Int) (.lst false 0 []) (.lst false L.length (rwsP L)) = _ from hf, bnd_t, toNatN]
    cases ef : fil n (toC L) [] with
    | none => rfl
    | some B =>
      rw [ef] at hs
      obtain ⟨D', v1, v2, T1, R, v3, v4⟩ := hs
      have hBl : (B.map nL).length = B.length := List.length_map ..
      have hc := copy_ok N (by omega) (B.map nL) (by omega) (fun r hr => by rw [vp_len v1 r hr]; omega)
      have hg := gre_L N n hN (by omega) (by omega) (n - L.length) N B D' (by omega) v1 (by omega)
      have hgl : ((gre n (n - L.length) B).map nL).length = n := by rw [List.length_map, gre_len]; omega
      rw [hBl] at hc
      unfold filP
      rw [getT2_t, getL_t, getB_t, brn_t rfl, m70, getL_t, hc, bnd_t]
      dsimp only
      rw [hg, bnd_t]
      dsimp only
      rw [grd_t (by rw [rws_len]; exact hgl), bnd_t, getL_t, hgl]
  · rw [brn_nt h, if_pos h]; rfl
theorem law11 (x : Int) (L : List (List Int)) (s : Int) : m11 5000 x (.lst false L.length (rwsP L)) s = some (.bool true) := by
  rw [m11, getL_t, large_ok 5000 (by omega) L, bnd_t, getB_t]
  cases hl : lgL L with
  | true => rfl
  | false =>
    have hb : L.length ≤ 1000 ∧ ∀ r ∈ L, r.length ≤ 1000 := by
      simp only [lgL, Bool.or_eq_false_iff, decide_eq_false_iff_not] at hl
      refine ⟨by omega, fun r hr => ?_⟩
      have := List.any_eq_false.1 hl.2 r hr
      simp at this; omega
    obtain ⟨h1, h2⟩ := hb
    have hfl : (filE x L).1.length ≤ 1000 ∧ ∀ r ∈ (filE x L).1, r.length ≤ 1000 := by
      unfold filE
      by_cases h : corE x L = 0
      · rw [if_neg (show ¬ corE x L ≠ 0 by simpa using h)]
        obtain ⟨g1, g2, g3, g4⟩ := chkE_zero h
        obtain ⟨n, rfl⟩ : ∃ n : Nat, x = (n : Int) := ⟨x.toNat, by omega⟩
        obtain ⟨c1, c2⟩ := cok_of h
        have hcl := toC_len L
        obtain ⟨T, e, hT⟩ := cornered_ok 5000 (by omega) n L h1 h2
        have hrc := (hT h []).rc (by omega)
        rw [← c1] at hrc
        have hmul : (n - 0) * (n + 1) ≤ 5 * 6 := Nat.mul_le_mul (by omega) (by omega)
        have hs := srch (n := n) (w := widE L) (by omega) (by omega) (wid_n h).1 (toC L) [] _ T .nil (by simp; omega) c2 (fun l _ d _ => by simp [metB]) hrc 100 (by simp only [List.length_nil]; omega)
        rw [show ([] : List (List Nat)).length + (toC L).length = L.length by simp [hcl]] at hs
        rw [toNatN]
        cases ef : fil n (toC L) [] with
        | none => simp
        | some B =>
          rw [ef] at hs
          obtain ⟨D', v1, v2, T1, R, v3, v4⟩ := hs
          obtain ⟨D2, hg⟩ := gre_vp (by omega) (by omega) (n - L.length) v1 (by omega)
          refine ⟨by simp [gre_len]; omega, fun r hr => ?_⟩
          rw [vp_len hg r hr]; omega
      · rw [if_pos h]; simp
    have e21 := lsame_ok 5000 (by omega) (filE x L).1 hfl.1 hfl.2
    have m16t : m16 5000 = some (.bool true) := rfl
    rw [brn_f rfl, why_ok 5000 (by omega) x L h1 h2, bnd_t, getT2_t, getI_t, getI_t, why2_ok 5000 (by omega) x L h1 h2, bnd_t, getT2_t, getI_t, getI_t, fill_ok 5000 (by omega) x L h1 h2, bnd_t, getT2_t, getL_t, getI_t, fill2_ok 5000 (by omega) x L h1 h2, bnd_t, getT2_t, getL_t, getI_t, brn_et rfl, brn_et rfl, e21, bnd_t, getB_t, brn_t rfl, brn_et rfl, corner1_ok 5000 (by omega) x L h1 h2, bnd_t, getI_t, corner2_ok 5000 (by omega) x L h1 h2, bnd_t, getI_t, brn_et rfl, proves_ok 5000 (by omega) x L h1 h2, bnd_t, getI_t, proves2_ok 5000 (by omega) x L h1 h2, bnd_t, getI_t, brn_et rfl, m16t, bnd_t, getB_t]
end Go.Proofs.YtcaecfofgdogbaaDoor
namespace Go.Proofs.YtcaecfofgdogbaaDoor
open Go.V
theorem row_of {x : List PV} (h : PT tab 28 x) : ∃ (y : PV) (r : List Int), x = [y] ∧ PLe y (rwP r) := by
  rcases h.slice' tl28 rfl with h | ⟨xs, h, hx⟩
  · exact ⟨.nl, [], h, .nl false⟩
  · obtain ⟨L, h1, h2, _⟩ := opened (fun p : Int => [PV.int .i64 p]) (fun x => PT tab 3 x) (fun _ => True)
      (fun x hx => by obtain ⟨n, e, _⟩ := hx.int' tl3 rfl; exact ⟨n, e, trivial⟩) xs hx
    refine ⟨_, L, h, ?_⟩
    rw [h2, ← h1]
    have : L.flatMap (fun p : Int => [PV.int .i64 p]) = iL L := by
      clear h1 h2
      induction L with
      | nil => rfl
      | cons a L ih => simpa [iL] using ih
    rw [this]
    exact .refl _
theorem rows_of' : ∀ (xs : List (List PV)), (∀ x ∈ xs, PT tab 28 x) → ∃ L : List (List Int), L.length = xs.length ∧ PLes xs.flatten (rwsP L)
  | [], _ => ⟨[], rfl, .nil⟩
  | x :: xs, h => by
    obtain ⟨L, h1, h2⟩ := rows_of' xs fun y hy => h y (.tail _ hy)
    obtain ⟨y, r, rfl, hr⟩ := row_of (h x (.head _))
    exact ⟨r :: L, by simp [h1], .cons _ _ _ _ hr h2⟩
theorem rows_of {x : PV} (h : PT tab 22 [x]) : ∃ L : List (List Int), PLe x (.lst false L.length (rwsP L)) := by
  rcases h.slice' tl22 rfl with h | ⟨xs, h, hx⟩
  · cases h; exact ⟨[], .nl false⟩
  · cases h
    obtain ⟨L, h1, h2⟩ := rows_of' xs hx
    refine ⟨L, ?_⟩
    rw [h1]
    exact .lst false false _ _ _ (fun h => h) h2
theorem con11 (x0 : PV) (h0 : PT tab 3 [x0]) (x1 : PV) (h1 : PT tab 22 [x1]) (x2 : PV) (h2 : PT tab 3 [x2]) : FnP Tryd.prog 11 [x0, x1, x2] (.bool true) := by
  obtain ⟨n, e, _⟩ := h0.int' tl3 rfl
  cases e
  obtain ⟨m, e, _⟩ := h2.int' tl3 rfl
  cases e
  obtain ⟨L, hL⟩ := rows_of h1
  exact FnP_le (c11 5000 _ _ _ _ (law11 n L m)) (.cons _ _ _ _ (.refl _) (.cons _ _ _ _ hL (.cons _ _ _ _ (.refl _) .nil))) (.refl _)
end Go.Proofs.YtcaecfofgdogbaaDoor
namespace Go.Proofs.YtcaecfofgdogbaaDoor.weekCorners
open Go.ChangeShapes Go.WideShapes Go.ChangeAt Go.RowKit Go.V
theorem own : ownKnob Tryd.prog.godebug = none := by kernel_rfl
theorem laid : laidOutB Tryd.prog = true := by kernel_rfl
set_option maxRecDepth 100000 in
theorem lifted (os : Os) (started : os.Started) (H : Type) (enc : TypeId × Value → H) :
    ReturnsInHanded {} Tryd.checked os 11 .any (fun w args => (Rows.weekCornersSpec.pre enc Tryd.prog Tryd.f11 [] false w args ∧ laidMetH Tryd.prog [("math/bits.deBruijn32tab", Rows.laid_math_bits_deBruijn32tab), ("math/bits.deBruijn64tab", Rows.laid_math_bits_deBruijn64tab)] w) ∧ sizedMet enc Tryd.prog Tryd.f11 (OpenSpec.ofChange Rows.weekCornersSpec) false w args)
      (Rows.weekCornersSpec.post enc Tryd.prog Tryd.f11 false true false false) := by
  refine returnsInHanded_of_change_and (C := Tryd.checked) (X := fun w _ => laidMetH Tryd.prog [("math/bits.deBruijn32tab", Rows.laid_math_bits_deBruijn32tab), ("math/bits.deBruijn64tab", Rows.laid_math_bits_deBruijn64tab)] w) (fun _ _ _ hh h => h.of_heap hh) own started (by kernel_rfl) Tryd.func11
    (ChangeSpec.witness_shaped (enc := enc) (C := Tryd.checked) (os := os) (X := fun w _ => laidMetH Tryd.prog [("math/bits.deBruijn32tab", Rows.laid_math_bits_deBruijn32tab), ("math/bits.deBruijn64tab", Rows.laid_math_bits_deBruijn64tab)] w) false (World.laidAll Tryd.prog os [("math/bits.deBruijn32tab", Rows.laid_math_bits_deBruijn32tab), ("math/bits.deBruijn64tab", Rows.laid_math_bits_deBruijn64tab)]) #[.int .i64 0, .slice none 0 0, .int .i64 0] 8 (World.laidAll_os _ _ _)
      (World.shaped_of_ZipB (by kernel_rfl) (by kernel_rfl)) (by kernel_rfl) (by kernel_rfl) (by kernel_rfl)
      (by rw [MakeChecks.laidMetH_plain _ _ _ (by kernel_rfl)]; exact laidMet_laidAll _ (by kernel_rfl) (by kernel_rfl))) ?_
  intro W base args ds gs before hval0 hW _ _ hL _
  have hW' := hW
  obtain ⟨p, q, hA0, hV, rfl, hfz, hnd⟩ := hW
  have hA : DataW.TrodAll enc Tryd.prog W 0 (fun _ => true) true Tryd.f11.params.toList args.toList ds p := hA0
  rw [Tryd.params11] at hA
  obtain ⟨v0, vs0, d0, ds0, p0, q0, e0, rfl, rfl, h0, hr0⟩ := trodAll_cons hA
  obtain ⟨v1, vs1, d1, ds1, p1, q1, e1, rfl, rfl, h1, hr1⟩ := trodAll_cons hr0
  obtain ⟨v2, vs2, d2, ds2, p2, q2, e2, rfl, rfl, h2, hr2⟩ := trodAll_cons hr1
  obtain ⟨rfl, rfl, rfl⟩ := trodAll_nil hr2
  subst e2
  subst e1
  obtain rfl : args = #[v0, v1, v2] := by cases args; simp_all
  obtain ⟨x0, k0, t0⟩ := arg_one (n := 8) tab_ok (hval0 0 3 v0 rfl rfl) h0 (by kernel_rfl) (by kernel_rfl)
  obtain ⟨x1, k1, t1⟩ := arg_one (n := 8) tab_ok (hval0 1 22 v1 rfl rfl) h1 (by kernel_rfl) (by kernel_rfl)
  obtain ⟨x2, k2, t2⟩ := arg_one (n := 8) tab_ok (hval0 2 3 v2 rfl rfl) h2 (by kernel_rfl) (by kernel_rfl)
  obtain ⟨rfl, rfl⟩ := trodVars_none hV
  clear hA0 hval0
  simp only [List.append_nil] at hW'
  refine (FnP.calls (W := W) (vals := #[v0, v1, v2]) (con11 x0 t0 x1 t1 x2 t2) (.cons _ _ _ _ k0 (.cons _ _ _ _ k1 (.cons _ _ _ _ k2 .nil))) (laidG hL)).mono fun e W' ⟨he, hg⟩ => ?_
  subst he
  exact ⟨_, rfl, post_of_kept (pv := []) hW' (fun _ _ _ => trodAll_cons_mk (shut_bool Tryd.underlying4 _) trodAll_mk0) (fun sp hsp => trodAll_cons_mk (Kept.trod hg laid (by kernel_rfl) (of_decide_eq_true (by kernel_rfl)) h0 (fun y hy => hsp y (by simp [hy]))) (trodAll_cons_mk (Kept.trod hg laid (by kernel_rfl) (of_decide_eq_true (by kernel_rfl)) h1 (fun y hy => hsp y (by simp [hy]))) (trodAll_cons_mk (Kept.trod hg laid (by kernel_rfl) (of_decide_eq_true (by kernel_rfl)) h2 (fun y hy => hsp y (by simp [hy]))) (trodAll_mk0)))) (fun _ _ => rfl) (by simp)
    hg (ok_one (by kernel_rfl) rfl (okWide_bool_mk Tryd.underlying4 _))⟩
theorem over : Rows.weekCornersRow.holds Tryd.pinned (OpenSpec.ofChange Rows.weekCornersSpec) :=
  OpenClaim.holds_of_wide 11 Tryd.f11 rfl rfl rfl rfl rfl rfl rfl ⟨rfl, rfl, rfl, rfl, rfl⟩ rfl rfl rfl rfl rfl (by kernel_rfl) Tryd.func11 (by kernel_rfl)
    (of_decide_eq_true (by kernel_rfl)) (by unfold Func.isWrapper; first | (rw [if_pos (by decide +kernel)]; kernel_rfl) | (rw [if_neg (by decide +kernel)]; exact ⟨rfl, rfl⟩))
    (fun os started H enc _ => lifted os started H enc)
theorem card : Rows.WeekCornersCardSaid :=
  Claim7.holds_tied_plain_at .later [] [.data, .data] true (true, "b10945a5c0c6bbe518806a5b2982a3effa3ad2c65afd0553d66b8bf8a483c2f3") true (over) (fun _ h => by cases h) (by kernel_rfl) (fun _ h => by cases h) weekCorners_row_tie rfl ⟨rfl, rfl⟩ (by kernel_rfl) rfl
    (fun f fn hf hfn => by
      obtain rfl : f = 11 := Option.some.inj ((show Tryd.prog.funcNamed "breeze/breezelaw03.WeekCorners" = some 11 by kernel_rfl).symm.trans hf) |>.symm
      obtain rfl : fn = Tryd.f11 := (Option.some.inj (Tryd.func11.symm.trans hfn)).symm
      exact ⟨by kernel_rfl, fun j t ht => by
        rw [Tryd.params11] at ht
        rcases j with _ | _ | _ | j
        · obtain rfl : t = 3 := by simpa using ht.symm
          exact (show Tryd.prog.wantsStandIn 3 = false by kernel_rfl)
        · obtain rfl : t = 22 := by simpa using ht.symm
          exact (show Tryd.prog.wantsStandIn 22 = false by kernel_rfl)
        · obtain rfl : t = 3 := by simpa using ht.symm
          exact (show Tryd.prog.wantsStandIn 3 = false by kernel_rfl)
        · simp at ht⟩)
    (by kernel_rfl)
end Go.Proofs.YtcaecfofgdogbaaDoor.weekCorners
namespace Go.Proofs.YtcaecfofgdogbaaDoor
/-- the statement -/
theorem weekCorners_holds : Rows.WeekCornersCardSaid := weekCorners.card
#print axioms weekCorners_holds
end Go.Proofs.YtcaecfofgdogbaaDoor
