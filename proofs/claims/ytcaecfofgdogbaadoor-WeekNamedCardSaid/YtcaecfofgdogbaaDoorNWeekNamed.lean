/-
  WeekNamed: the law returns true.
-/
import Derived.Test.YtcaecfofgdogbaaDoorNWsrch
import Derived.Test.YtcaecfofgdogbaaDoorNWcpA
import Derived.Test.YtcaecfofgdogbaaDoorNK3
import Derived.Test.YtcaecfofgdogbaaDoorNV32
import Derived.Test.YtcaecfofgdogbaaDoorRows
import Derived.Test.YtcaecfofgdogbaaDoorCards
import Derived.Test.YtcaecfofgdogbaaDoorTie
import Derived.Test.YtcaecfofgdogbaaDoorNV31
import Derived.WalkKit
import Derived.ProofKit
import Derived.OpenShut
import Derived.Lay
import Derived.SevenTiedAt
import Derived.MakeChecks
set_option linter.unusedSimpArgs false
set_option linter.unusedVariables false
namespace Go.Proofs.YtcaecfofgdogbaaDoor
open Go.V
set_option linter.unusedSectionVars false
def dayE (n : Int) (P : List (List Int)) (r : List Int) : Nat → Nat → Int
  | 0, _ => 0
  | f + 1, k => if en r k < 0 then 2 else if n ≤ en r k then 2 else if en r k ∈ r.take k then 6 else if P.any (fun q => decide (k < q.length) && (en q k == en r k)) then 13 else dayE n P r f (k + 1)
def rowE (n w : Int) (L : List (List Int)) : Nat → Nat → Int
  | 0, _ => 0
  | f + 1, i => if ((ro L i).length : Int) ≠ w then 5 else if n < w then 5 else if dayE n (L.take i) (ro L i) (ro L i).length 0 ≠ 0 then dayE n (L.take i) (ro L i) (ro L i).length 0 else rowE n w L f (i + 1)
def chkE (n w : Int) (L : List (List Int)) : Int := if n < 1 then 1 else if 5 < n then 1 else if n < (L.length : Int) then 3 else rowE n w L L.length 0
structure Rp (P : List (List Int)) (i : Nat) (r : List Int) (k : Nat) (T : T3) : Prop where
  tv : Tv T
  b : ∀ s, s < 5 → ((bn T.2.1 i).testBit s = true ↔ (s : Int) ∈ r.take k)
  bz : ∀ j, i < j → j < 5 → bn T.2.1 j = 0
  d : ∀ d s, d < 5 → s < 5 → ((bn T.2.2 d).testBit s = true ↔ (∃ q ∈ P, d < q.length ∧ en q d = (s : Int)) ∨ (d < k ∧ en r d = (s : Int)))
  a : ∀ j d, j < 5 → d < 5 → en T.1 (j * 5 + d) = if j < i then (if d < (ro P j).length then en (ro P j) d else -1) else if j = i ∧ d < k then en r d else -1
theorem Rp.put {P : List (List Int)} {i : Nat} {r : List Int} {k : Nat} {T : T3} (h : Rp P i r k T) (hi : i < 5) (hk : k < 5) (hr : k < r.length) {s : Nat} (hs : s < 5) (he : en r k = (s : Int)) : Rp P i r (k + 1) (putT T i k s) := by
  have la := h.tv.tb.la; have lb := h.tv.tb.lb; have ld := h.tv.tb.ld
  refine ⟨h.tv.put hi hk hs, fun t ht => ?_, fun j hj h5 => ?_, fun d t hd ht => ?_, fun j d hj hd => ?_⟩
  · show (bn (T.2.1.set i (bn T.2.1 i ||| 2 ^ s)) i).testBit t = true ↔ _
    rw [bn_set (by omega), if_pos rfl, tst_or _ (h.tv.tb.b32 i hi) s hs t ht, Bool.or_eq_true, h.b t ht, decide_eq_true_eq, take_en hr, List.mem_append, List.mem_singleton, he]
    constructor
    · rintro (h1 | rfl)
      · exact .inl h1
      · exact .inr rfl
    · rintro (h1 | h1)
      · exact .inl h1
      · exact .inr (by omega)
  · show bn (T.2.1.set i (bn T.2.1 i ||| 2 ^ s)) j = 0
    rw [bn_set (by omega), if_neg (by omega)]; exact h.bz j hj h5
  · show (bn (T.2.2.set k (bn T.2.2 k ||| 2 ^ s)) d).testBit t = true ↔ _
    rw [bn_set (by omega)]
    by_cases hdk : d = k
    · subst hdk
      rw [if_pos rfl, tst_or _ (h.tv.tb.d32 d hd) s hs t ht, Bool.or_eq_true, h.d d t hd ht, decide_eq_true_eq, he]
      constructor
      · rintro ((h1 | h1) | rfl)
        · exact .inl h1
        · omega
        · exact .inr ⟨by omega, rfl⟩
      · rintro (h1 | h1)
        · exact .inl (.inl h1)
        · exact .inr (by omega)
    · rw [if_neg hdk, h.d d t hd ht]
      constructor
      · rintro (h1 | h1)
        · exact .inl h1
        · exact .inr ⟨by omega, h1.2⟩
      · rintro (h1 | h1)
        · exact .inl h1
        · exact .inr ⟨by omega, h1.2⟩
  · show en (T.1.set (i * 5 + k) (s : Int)) (j * 5 + d) = _
    rw [en_set (by omega), h.a j d hj hd]
    by_cases hx : j * 5 + d = i * 5 + k
    · have : j = i ∧ d = k := by omega
      obtain ⟨rfl, rfl⟩ := this
      rw [if_pos hx, if_neg (by omega), if_pos ⟨rfl, by omega⟩, he]
    · rw [if_neg hx]
      by_cases h1 : j < i
      · rw [if_pos h1, if_pos h1]
      · rw [if_neg h1, if_neg h1]
        by_cases h2 : j = i ∧ d < k
        · rw [if_pos h2, if_pos ⟨h2.1, by omega⟩]
        · rw [if_neg h2, if_neg (by omega)]
theorem Rp.next {P : List (List Int)} {i : Nat} {r : List Int} {T : T3} (h : Rp P i r r.length T) (hi : P.length = i) (hr : r.length ≤ 5) (r' : List Int) : Rp (P ++ [r]) (i + 1) r' 0 T := by
  refine ⟨h.tv, fun s hs => ?_, fun j hj h5 => h.bz j (by omega) h5, fun d s hd hs => ?_, fun j d hj hd => ?_⟩
  · rw [List.take_zero]
    by_cases h5 : i + 1 < 5
    · rw [h.bz (i + 1) (by omega) h5]; simp
    · have : bn T.2.1 (i + 1) = 0 := by
        have := h.tv.tb.lb
        unfold bn; rw [List.getD, List.getElem?_eq_none (by omega)]; rfl
      rw [this]; simp
  · rw [h.d d s hd hs]
    constructor
    · rintro (⟨q, hq, h1⟩ | h1)
      · exact .inl ⟨q, List.mem_append_left _ hq, h1⟩
      · exact .inl ⟨r, List.mem_append_right _ (.head _), h1⟩
    · rintro (⟨q, hq, h1⟩ | h1)
      · rcases List.mem_append.1 hq with hq | hq
        · exact .inl ⟨q, hq, h1⟩
        · obtain rfl := List.mem_singleton.1 hq
          exact .inr h1
      · omega
  · rw [h.a j d hj hd]
    by_cases h1 : j < i
    · rw [if_pos h1, if_pos (show j < i + 1 by omega)]
      have : ro (P ++ [r]) j = ro P j := by simp [ro, List.getD, List.getElem?_append_left (show j < P.length by omega)]
      rw [this]
    · rw [if_neg h1]
      by_cases h2 : j = i
      · have : ro (P ++ [r]) j = r := by
          subst h2; rw [← hi]; simp [ro, List.getD]
        rw [if_pos (show j < i + 1 by omega), this]
        by_cases h3 : d < r.length
        · rw [if_pos (show j = i ∧ d < r.length from ⟨h2, h3⟩), if_pos h3]
        · rw [if_neg (show ¬ (j = i ∧ d < r.length) by omega), if_neg h3]
      · rw [if_neg (show ¬ (j = i ∧ d < r.length) by omega), if_neg (show ¬ j < i + 1 by omega), if_neg (show ¬ (j = i + 1 ∧ d < 0) by omega)]
def outR (n : Nat) (e : Int) (T : T3) : (Int ⊕ (Int × List PV)) ⊕ List PV := if e = 0 then .inr (tP n T) else .inl (.inl e)
theorem open_L1 (N n : Nat) (hn : n ≤ 5) (w : Int) (L : List (List Int)) (P : List (List Int)) (r : List Int) (i : Nat) (hi : i < 5) (hr : r.length ≤ 5) : ∀ (f k fuel : Nat) (T : T3), r.length - k = f → f < fuel → k ≤ r.length → Rp P i r k T →
    ∃ T', m61_L1 N (n : Int) w L.length (rwsP L) (i : Int) r.length (iL r) fuel (k : Int) (tP n T) = some (outR n (dayE n P r f k) T') ∧ (dayE n P r f k = 0 → Rp P i r r.length T')
  | f, k, 0, _, _, h, _, _ => by omega
  | 0, k, fuel + 1, T, hf, _, hk, hT => by
    have : k = r.length := by omega
    subst this
    refine ⟨T, ?_, fun _ => hT⟩
    rw [m61_L1, brn_df (by omega)]; rfl
  | f + 1, k, fuel + 1, T, hf, hfu, hk, hT => by
    have hl := tbl_len (n := n) hT.tv.tb
    have h1 : k < r.length := by omega
    rw [m61_L1, brn_dt (by omega), dayE]
    rw [grd_t (p := 0 ≤ (k : Int) ∧ (k : Int) < ((r.length : Nat) : Int)) ⟨by omega, by omega⟩, grd_t (p := 0 < List.length (List.drop (Int.toNat (k : Int)) (iL r))) (by rw [List.length_drop, iL_len, toNatN]; omega), gI_n h1]
    by_cases h2 : en r k < 0
    · rw [brn_dt h2, if_pos h2]; exact ⟨T, rfl, fun h => by cases h⟩
    · rw [brn_df h2, if_neg h2]
      by_cases h3 : (n : Int) ≤ en r k
      · rw [brn_dt (by omega), if_pos h3]; exact ⟨T, rfl, fun h => by cases h⟩
      · obtain ⟨s, hs⟩ : ∃ s : Nat, en r k = (s : Int) := ⟨(en r k).toNat, by omega⟩
        have s5 : s < 5 := by omega
        rw [brn_df (by omega), if_neg h3, hs, toNatN, toNatN, toNatN, grd_t (by omega), grd_t (by unfold tP; omega)]
        rw [show gp (tP n T) (26 + i) = .int .u64 (bn T.2.1 i : Int) from gp_b hT.tv.tb hi, getU_t, grd_t (by omega), b_tst _ (hT.tv.tb.b32 i hi) s s5]
        by_cases h4 : (s : Int) ∈ r.take k
        · rw [brn_t ((hT.b s s5).2 h4), if_pos h4]; exact ⟨T, rfl, fun h => by cases h⟩
        · rw [brn_f (by rw [Bool.eq_false_iff]; intro h; exact h4 ((hT.b s s5).1 h)), if_neg h4, grd_t (by omega), grd_t (by unfold tP; omega)]
          rw [show gp (tP n T) (31 + k) = .int .u64 (bn T.2.2 k : Int) from gp_d hT.tv.tb (by omega), getU_t, b_tst _ (hT.tv.tb.d32 k (by omega)) s s5]
          have hd : (bn T.2.2 k).testBit s = P.any (fun q => decide (k < q.length) && (en q k == (s : Int))) := by
            rw [Bool.eq_iff_iff, hT.d k s (by omega) s5, List.any_eq_true]
            constructor
            · rintro (⟨q, hq, h5, h6⟩ | h5)
              · exact ⟨q, hq, by simp [h5, h6]⟩
              · omega
            · rintro ⟨q, hq, h5⟩
              simp only [Bool.and_eq_true, decide_eq_true_eq, beq_iff_eq] at h5
              exact .inl ⟨q, hq, h5⟩
          rw [hd]
          cases h5 : P.any (fun q => decide (k < q.length) && (en q k == (s : Int))) with
          | true => rw [brn_t rfl, if_pos rfl]; exact ⟨T, rfl, fun h => by cases h⟩
          | false =>
            rw [brn_f rfl, if_neg (by simp)]
            obtain ⟨T', e1, e2⟩ := open_L1 N n hn w L P r i hi hr f (k + 1) fuel (putT T i k s) (by omega) (by omega) (by omega) (hT.put hi (by omega) h1 s5 hs)
            refine ⟨T', ?_, e2⟩
            rw [show m72 N (i : Int) (k : Int) (s : Int) (tP n T) = _ from put_ok N n hT.tv.tb hi (by omega) s5, bnd_t]
            show getT0 (.tup []) _ = _
            rw [getT0_t, wrapN (by omega)]
            exact e1
theorem open_L0 (N n : Nat) (hN : 2000 ≤ N) (hn : n ≤ 5) (w : Int) (L : List (List Int)) (hL : L.length ≤ n) (hr20 : ∀ r ∈ L, r.length ≤ 1000) : ∀ (f i fuel : Nat) (T : T3), L.length - i = f → f < fuel → i ≤ L.length → (∀ r', Rp (L.take i) i r' 0 T) →
    ∃ T', m61_L0 N (n : Int) w L.length (rwsP L) fuel (i : Int) (tP n T) = some (outR n (rowE n w L f i) T') ∧ (rowE n w L f i = 0 → ∀ r', Rp L L.length r' 0 T')
  | f, i, 0, _, _, h, _, _ => by omega
  | 0, i, fuel + 1, T, hf, _, hi, hT => by
    have : i = L.length := by omega
    subst this
    refine ⟨T, ?_, fun _ r' => by have := hT r'; rwa [List.take_length] at this⟩
    rw [m61_L0, brn_df (by omega)]; rfl
  | f + 1, i, fuel + 1, T, hf, hfu, hi, hT => by
    have h1 : i < L.length := by omega
    have hrl := hr20 _ (ro_mem h1)
    rw [m61_L0, brn_dt (by omega), rowE]
    simp (disch := (try simp only [List.length_drop, iL_len, rws_len, toNatN]) <;> omega) only [↓grd_t, ↓gL_n]
    by_cases h2 : ((ro L i).length : Int) = w
    · rw [brn_nf h2, if_neg (by simpa using h2)]
      by_cases h3 : (n : Int) < w
      · rw [brn_dt (by omega), if_pos h3]; exact ⟨T, rfl, fun h => by cases h⟩
      · rw [brn_df (by omega), if_neg h3]
        obtain ⟨T', e1, e2⟩ := open_L1 N n hn w L (L.take i) (ro L i) i (by omega) (by omega) (ro L i).length 0 N T (by omega) (by omega) (by omega) (hT _)
        rw [show m61_L1 N (n : Int) w L.length (rwsP L) (i : Int) (ro L i).length (iL (ro L i)) N 0 (tP n T) = _ from e1, bnd_t]
        by_cases h4 : dayE n (L.take i) (ro L i) (ro L i).length 0 = 0
        · rw [if_neg (by simpa using h4), wrapN (by omega)]
          unfold outR
          rw [if_pos h4]
          have h5 := (e2 h4).next (by rw [List.length_take]; omega) (by omega)
          rw [← take_ro h1] at h5
          exact open_L0 N n hN hn w L hL hr20 f (i + 1) fuel T' (by omega) (by omega) (by omega) h5
        · unfold outR
          simp only [if_neg h4, if_pos (show dayE (n : Int) (L.take i) (ro L i) (ro L i).length 0 ≠ 0 from h4)]
          exact ⟨T, by trivial, fun h => absurd h h4⟩
    · rw [brn_nt h2, if_pos h2]; exact ⟨T, rfl, fun h => by cases h⟩
def T0 : T3 := (List.replicate 25 (-1), List.replicate 5 0, List.replicate 5 0)
theorem T0_rp (r : List Int) : Rp [] 0 r 0 T0 := by
  have hb : ∀ j, j < 5 → bn (List.replicate 5 0) j = 0 := by decide
  have ha : ∀ j, j < 25 → en (List.replicate 25 (-1)) j = -1 := by decide
  refine ⟨⟨⟨rfl, rfl, rfl, fun i hi => by show bn (List.replicate 5 0) i < 32; rw [hb i hi]; omega, fun i hi => by show bn (List.replicate 5 0) i < 32; rw [hb i hi]; omega⟩, fun j hj => by show -1 ≤ en (List.replicate 25 (-1)) j; rw [ha j hj]; omega⟩, fun s hs => ?_, fun j _ h5 => hb j h5, fun d s hd hs => ?_, fun j d hj hd => ?_⟩
  · show (bn (List.replicate 5 0) 0).testBit s = true ↔ _
    rw [hb 0 (by omega)]; simp
  · show (bn (List.replicate 5 0) d).testBit s = true ↔ _
    rw [hb d hd]; simp
  · show en (List.replicate 25 (-1)) (j * 5 + d) = _
    rw [ha _ (by omega), if_neg (by omega), if_neg (by omega)]
def zA (i k : Nat) : List Int := List.replicate (i * 5 + k) (-1) ++ List.replicate (25 - (i * 5 + k)) 0
theorem zA_set {i k : Nat} (h : i * 5 + k < 25) : (zA i k).set (i * 5 + k) (-1) = zA i (k + 1) := by
  unfold zA
  rw [List.set_append_right _ _ (by simp), List.length_replicate, Nat.sub_self, show 25 - (i * 5 + k) = (25 - (i * 5 + (k + 1))) + 1 by omega, List.replicate_succ, List.set_cons_zero, show i * 5 + (k + 1) = i * 5 + k + 1 by omega, List.replicate_succ']
  simp
theorem beg_L1 (N n i : Nat) (hi : i < 5) : ∀ (f k fuel : Nat), 5 - k = f → f < fuel → k ≤ 5 →
    m71_L1 N (i : Int) fuel (k : Int) (tblP n (zA i k) (List.replicate 5 0) (List.replicate 5 0)) = some (tblP n (zA i 5) (List.replicate 5 0) (List.replicate 5 0))
  | f, k, 0, _, h, _ => by omega
  | 0, k, fuel + 1, hf, _, hk => by
    have : k = 5 := by omega
    subst this
    rw [m71_L1, brn_df (by omega)]
  | f + 1, k, fuel + 1, hf, hfu, hk => by
    have hb : ∀ j, j < 5 → bn (List.replicate 5 0) j = 0 := by decide
    have tb : Tb (zA i k) (List.replicate 5 0) (List.replicate 5 0) := ⟨by simp [zA]; omega, rfl, rfl, fun i hi => by rw [hb i hi]; omega, fun i hi => by rw [hb i hi]; omega⟩
    have hl := tbl_len (n := n) tb
    rw [m71_L1, brn_dt (by omega), grd_t ⟨by omega, by omega⟩, grd_t ⟨by omega, by omega⟩, toNatN, toNatN, grd_t (by omega), wrapN (by omega), show 1 + i * 5 + k = 1 + (i * 5 + k) by omega, set_a tb (by omega), zA_set (by omega)]
    exact beg_L1 N n i hi f (k + 1) fuel (by omega) (by omega) (by omega)
theorem beg_L0 (N n : Nat) (hN : 2000 ≤ N) : ∀ (f i fuel : Nat), 5 - i = f → f < fuel → i ≤ 5 →
    m71_L0 N fuel (i : Int) (tblP n (zA i 0) (List.replicate 5 0) (List.replicate 5 0)) = some (tP n T0)
  | f, i, 0, _, h, _ => by omega
  | 0, i, fuel + 1, hf, _, hi => by
    have : i = 5 := by omega
    subst this
    rw [m71_L0, brn_df (by omega)]; rfl
  | f + 1, i, fuel + 1, hf, hfu, hi => by
    rw [m71_L0, brn_dt (by omega), show m71_L1 N (i : Int) N 0 (tblP n (zA i 0) (List.replicate 5 0) (List.replicate 5 0)) = _ from beg_L1 N n i (by omega) 5 0 N (by omega) (by omega) (by omega), bnd_t, wrapN (by omega)]
    have e : zA i 5 = zA (i + 1) 0 := by
      unfold zA
      rw [show i * 5 + 5 = (i + 1) * 5 + 0 by omega]
    rw [e]
    exact beg_L0 N n hN f (i + 1) fuel (by omega) (by omega) (by omega)
theorem begun_ok (N n : Nat) (hN : 2000 ≤ N) : m71 N (n : Int) = some (tP n T0) := by
  have := beg_L0 N n hN 5 0 N (by omega) (by omega) (by omega)
  rw [m71]
  show bnd' (m71_L0 N N ((0 : Nat) : Int) (tblP n (zA 0 0) (List.replicate 5 0) (List.replicate 5 0))) _ = _
  rw [this, bnd_t]
def opE (n : Nat) (e : Int) (T : T3) : Int ⊕ (Int × List PV) := if e = 0 then .inr (0, tP n T) else .inl e
theorem opened_ok (N : Nat) (hN : 2000 ≤ N) (x w : Int) (L : List (List Int)) (hL : L.length ≤ 1000) (hr : ∀ r ∈ L, r.length ≤ 1000) :
    ∃ T, m61 N x (.lst false L.length (rwsP L)) w = some (opE x.toNat (chkE x w L) T) ∧ (chkE x w L = 0 → ∀ r', Rp L L.length r' 0 T) := by
  rw [m61, getL_t]
  unfold chkE
  by_cases h1 : x < 1
  · rw [brn_dt h1, if_pos h1]; exact ⟨T0, rfl, fun h => by cases h⟩
  · rw [brn_df h1, if_neg h1]
    by_cases h2 : 5 < x
    · rw [brn_dt (by omega), if_pos h2]; exact ⟨T0, rfl, fun h => by cases h⟩
    · rw [brn_df (by omega), if_neg h2]
      by_cases h3 : x < (L.length : Int)
      · rw [brn_dt (by omega), if_pos h3]; exact ⟨T0, rfl, fun h => by cases h⟩
      · obtain ⟨n, rfl⟩ : ∃ n : Nat, x = (n : Int) := ⟨x.toNat, by omega⟩
        rw [brn_df (by omega), if_neg h3, begun_ok N n hN, bnd_t]
        obtain ⟨T, e1, e2⟩ := open_L0 N n hN (by omega) w L (by omega) hr L.length 0 N T0 (by omega) (by omega) (by omega) (fun r' => by rw [List.take_zero]; exact T0_rp r')
        refine ⟨T, ?_, e2⟩
        show bnd' (m61_L0 N (n : Int) w L.length (rwsP L) N 0 (tP n T0)) _ = _
        rw [show m61_L0 N (n : Int) w L.length (rwsP L) N 0 (tP n T0) = _ from e1, bnd_t, toNatN]
        unfold outR opE
        by_cases h4 : rowE (n : Int) w L L.length 0 = 0
        · simp only [if_pos h4]
        · simp only [if_neg h4]
theorem has_L (N : Nat) (s : Int) (X : List Int) (hX : X.length ≤ 1000) : ∀ (f i fuel : Nat), X.length - i = f → f < fuel → m92_L0 N s X.length (iL X) fuel (i : Int) = some (if s ∈ X.drop i then .inl (.bool true) else .inr ())
  | f, i, 0, _, h => by omega
  | f, i, fuel + 1, hf, hfu => by
    rw [m92_L0]
    by_cases h : i < X.length
    · have ih := has_L N s X hX (f - 1) (i + 1) fuel (by omega) (by omega)
      rw [brn_dt (by omega)]
      simp (disch := (try simp only [List.length_drop, iL_len, rws_len, toNatN]) <;> omega) only [↓grd_t, ↓gI_n]
      rw [drop_en h]
      by_cases e : en X i = s
      · rw [brn_et e, if_pos (by rw [e]; exact .head _)]
      · rw [brn_ef e, wrapN (by omega), ih]
        by_cases g : s ∈ X.drop (i + 1)
        · rw [if_pos g, if_pos (.tail _ g)]
        · rw [if_neg g, if_neg]
          intro h2
          rcases List.mem_cons.1 h2 with h2 | h2
          · exact e h2.symm
          · exact g h2
    · rw [brn_df (by omega), List.drop_eq_nil_of_le (by omega)]; rfl
theorem has_ok (N : Nat) (hN : 2000 ≤ N) (s : Int) (X : List Int) (hX : X.length ≤ 1000) : m92 N (rwP X) s = some (.bool (decide (s ∈ X))) := by
  have := has_L N s X hX X.length 0 N (by omega) (by omega)
  unfold rwP
  rw [m92, getL_t, show m92_L0 N s X.length (iL X) N 0 = _ from this, List.drop_zero, bnd_t]
  by_cases h : s ∈ X
  · rw [if_pos h, decide_eq_true h]
  · rw [if_neg h, decide_eq_false h]
def metB (P : List (List Int)) (k : Nat) (s : Int) : Bool := P.any fun q => decide (k < q.length) && (en q k == s)
theorem met_L (N k : Nat) (s : Int) (P : List (List Int)) (hP : P.length ≤ 1000) : ∀ (f i fuel : Nat), P.length - i = f → f < fuel → m63_L0 N (k : Int) s P.length (rwsP P) fuel (i : Int) = some (if metB (P.drop i) k s then .inl (.bool true) else .inr ())
  | f, i, 0, _, h => by omega
  | f, i, fuel + 1, hf, hfu => by
    rw [m63_L0]
    unfold metB
    by_cases h : i < P.length
    · have ih := met_L N k s P hP (f - 1) (i + 1) fuel (by omega) (by omega)
      unfold metB at ih
      rw [brn_dt (by omega), grd_t (p := 0 ≤ (i : Int) ∧ (i : Int) < ((P.length : Nat) : Int)) ⟨by omega, by omega⟩, grd_t (p := 0 < List.length (List.drop (Int.toNat (i : Int)) (rwsP P))) (by rw [List.length_drop, rws_len, toNatN]; omega), gL_n h, drop_ro h, List.any_cons]
      by_cases hk : k < (ro P i).length
      · rw [brn_dt (by omega), decide_eq_true hk, Bool.true_and]
        rw [grd_t (p := 0 ≤ (k : Int) ∧ (k : Int) < (((ro P i).length : Nat) : Int)) ⟨by omega, by omega⟩, grd_t (p := 0 < List.length (List.drop (Int.toNat (k : Int)) (iL (ro P i)))) (by rw [List.length_drop, iL_len, toNatN]; omega), gI_n hk]
        by_cases e : en (ro P i) k = s
        · rw [brn_et e, if_pos (by simp [e])]
        · rw [brn_ef e, wrapN (by omega), ih, show (en (ro P i) k == s) = false from by simpa using e, Bool.false_or]
      · rw [brn_df (by omega), decide_eq_false hk, Bool.false_and, Bool.false_or, wrapN (by omega), ih]
    · rw [brn_df (by omega), List.drop_eq_nil_of_le (by omega)]; rfl
theorem met_ok (N : Nat) (hN : 2000 ≤ N) (k : Nat) (s : Int) (P : List (List Int)) (hP : P.length ≤ 1000) : m63 N (.lst false P.length (rwsP P)) (k : Int) s = some (.bool (metB P k s)) := by
  have := met_L N k s P hP P.length 0 N (by omega) (by omega)
  rw [m63, getL_t, show m63_L0 N (k : Int) s P.length (rwsP P) N 0 = _ from this, List.drop_zero, bnd_t]
  cases metB P k s <;> rfl
def outC (e : Int) : PV ⊕ Unit := if e = 0 then .inr () else .inl (.int .i64 e)
theorem chk_L1 (N n : Nat) (hN : 2000 ≤ N) (hn : n ≤ 5) (L : List (List Int)) (hL : L.length ≤ 1000) (r : List Int) (hr : r.length ≤ 1000) (i : Nat) (hi : i < L.length) : ∀ (f k fuel : Nat), r.length - k = f → f < fuel → k ≤ r.length →
    m68_L1 N (n : Int) (r.length : Int) L.length (rwsP L) (i : Int) r.length (iL r) fuel (k : Int) = some (outC (dayE n (L.take i) r f k))
  | f, k, 0, _, h, _ => by omega
  | 0, k, fuel + 1, hf, _, hk => by
    rw [m68_L1, brn_df (by omega)]; rfl
  | f + 1, k, fuel + 1, hf, hfu, hk => by
    have h1 : k < r.length := by omega
    have lr := iL_len r
    have ll := rws_len L
    rw [m68_L1, brn_dt (by omega), dayE]
    rw [grd_t (p := 0 ≤ (k : Int) ∧ (k : Int) < ((r.length : Nat) : Int)) ⟨by omega, by omega⟩, grd_t (p := 0 < List.length (List.drop (Int.toNat (k : Int)) (iL r))) (by rw [List.length_drop, iL_len, toNatN]; omega), gI_n h1]
    rw [wrap64 (n := (n : Int) - 1) (by omega) (by omega)]
    have hb : m73 N (en r k) 0 ((n : Int) - 1) = some (.bool (decide (0 ≤ en r k) && decide (en r k < n))) := by
      rw [m73]
      by_cases h : en r k ≥ 0
      · rw [brn_dt h, decide_eq_true (show 0 ≤ en r k from h), Bool.true_and]
        congr 2
        exact decide_eq_decide.2 (by omega)
      · rw [brn_df h, decide_eq_false (show ¬ 0 ≤ en r k from h), Bool.false_and]
    rw [hb, bnd_t, getB_t]
    by_cases h2 : en r k < 0
    · rw [decide_eq_false (by omega), Bool.false_and, brn_f rfl, if_pos h2]; rfl
    · rw [if_neg h2, decide_eq_true (by omega), Bool.true_and]
      by_cases h3 : (n : Int) ≤ en r k
      · rw [brn_df (by omega), if_pos h3]; rfl
      · rw [brn_dt (by omega), if_neg h3, grd_t (by omega), grd_t (by omega), toNatN, toNatN, iL_take]
        have hk' : (r.take k).length = k := by rw [List.length_take]; omega
        have hh := has_ok N hN (en r k) (r.take k) (by omega)
        unfold rwP at hh
        rw [hk'] at hh
        rw [hh, bnd_t, getB_t]
        by_cases h4 : en r k ∈ r.take k
        · rw [brn_dt h4, if_pos h4]; rfl
        · rw [brn_df h4, if_neg h4, grd_t (by omega), grd_t (by omega), rws_take]
          have hi' : (L.take i).length = i := by rw [List.length_take]; omega
          have hm := met_ok N hN k (en r k) (L.take i) (by omega)
          rw [hi'] at hm
          rw [hm, bnd_t, getB_t]
          rw [show (L.take i).any (fun q => decide (k < q.length) && (en q k == en r k)) = metB (L.take i) k (en r k) from rfl]
          cases metB (L.take i) k (en r k) with
          | true => rfl
          | false =>
            rw [brn_f rfl, if_neg (by simp), wrapN (by omega)]
            exact chk_L1 N n hN hn L hL r hr i hi f (k + 1) fuel (by omega) (by omega) (by omega)
theorem chk_L0 (N n : Nat) (hN : 2000 ≤ N) (hn : n ≤ 5) (w : Int) (L : List (List Int)) (hL : L.length ≤ 1000) (hr20 : ∀ r ∈ L, r.length ≤ 1000) : ∀ (f i fuel : Nat), L.length - i = f → f < fuel → i ≤ L.length →
    m68_L0 N (n : Int) w L.length (rwsP L) fuel (i : Int) = some (outC (rowE n w L f i))
  | f, i, 0, _, h, _ => by omega
  | 0, i, fuel + 1, hf, _, hi => by
    rw [m68_L0, brn_df (by omega)]; rfl
  | f + 1, i, fuel + 1, hf, hfu, hi => by
    have h1 : i < L.length := by omega
    have hrl := hr20 _ (ro_mem h1)
    rw [m68_L0, brn_dt (by omega), rowE]
    simp (disch := (try simp only [List.length_drop, iL_len, rws_len, toNatN]) <;> omega) only [↓grd_t, ↓gL_n]
    by_cases h2 : ((ro L i).length : Int) = w
    · rw [brn_nf h2, if_neg (by simpa using h2)]
      by_cases h3 : (n : Int) < w
      · rw [brn_dt (by omega), if_pos h3]; rfl
      · rw [brn_df (by omega), if_neg h3]
        have e := chk_L1 N n hN hn L hL (ro L i) hrl i h1 (ro L i).length 0 N (by omega) (by omega) (by omega)
        rw [h2] at e
        by_cases h4 : dayE n (L.take i) (ro L i) (ro L i).length 0 = 0
        · rw [outC, if_pos h4] at e
          rw [show m68_L1 N (n : Int) w L.length (rwsP L) (i : Int) (ro L i).length (iL (ro L i)) N 0 = _ from e, bnd_t, if_neg (show ¬ dayE n (L.take i) (ro L i) (ro L i).length 0 ≠ 0 by simpa using h4), wrapN (by omega)]
          exact chk_L0 N n hN hn w L hL hr20 f (i + 1) fuel (by omega) (by omega) (by omega)
        · rw [outC, if_neg h4] at e
          rw [show m68_L1 N (n : Int) w L.length (rwsP L) (i : Int) (ro L i).length (iL (ro L i)) N 0 = _ from e, bnd_t, if_pos h4, outC, if_neg h4]
    · rw [brn_nt h2, if_pos h2]; rfl
theorem checked_ok (N : Nat) (hN : 2000 ≤ N) (x w : Int) (L : List (List Int)) (hL : L.length ≤ 1000) (hr : ∀ r ∈ L, r.length ≤ 1000) : m68 N x (.lst false L.length (rwsP L)) w = some (.int .i64 (chkE x w L)) := by
  have hb : m73 N x 1 5 = some (.bool (decide (1 ≤ x) && decide (x ≤ 5))) := by
    rw [m73]
    by_cases h : x ≥ 1
    · rw [brn_dt h, decide_eq_true (show 1 ≤ x from h), Bool.true_and]
    · rw [brn_df h, decide_eq_false (show ¬ 1 ≤ x from h), Bool.false_and]
  rw [m68, getL_t, hb, bnd_t, getB_t]
  unfold chkE
  by_cases h1 : x < 1
  · rw [decide_eq_false (by omega), Bool.false_and, brn_f rfl, if_pos h1]
  · rw [if_neg h1, decide_eq_true (by omega), Bool.true_and]
    by_cases h2 : 5 < x
    · rw [brn_df (by omega), if_pos h2]
    · rw [brn_dt (by omega), if_neg h2]
      by_cases h3 : x < (L.length : Int)
      · rw [brn_dt (by omega), if_pos h3]
      · obtain ⟨n, rfl⟩ : ∃ n : Nat, x = (n : Int) := ⟨x.toNat, by omega⟩
        have e := chk_L0 N n hN (by omega) w L hL hr L.length 0 N (by omega) (by omega) (by omega)
        rw [brn_df (by omega), if_neg h3, show m68_L0 N (n : Int) w L.length (rwsP L) N 0 = _ from e, bnd_t]
        unfold outC
        by_cases h4 : rowE n w L L.length 0 = 0
        · rw [if_pos h4, h4]
        · rw [if_neg h4]
def ext (n : Nat) : Nat → List Nat → List (List Nat)
  | 0, l => [l]
  | f + 1, l => (List.range n).flatMap fun s => if s ∈ l then [] else ext n f (l ++ [s])
def nL (l : List Nat) : List Int := l.map fun (s : Nat) => (s : Int)
def gn (l : List Nat) (d : Nat) : Nat := l.getD d 0
def fitB (P : List (List Int)) (l : List Nat) : Nat → Nat → Bool
  | 0, _ => true
  | f + 1, d => !metB P d (gn l d : Nat) && fitB P l f (d + 1)
def fitn (n : Nat) (P : List (List Int)) : List (List Nat) := (ext n n []).filter fun l => fitB P l n 0
theorem nL_len (l : List Nat) : (nL l).length = l.length := by simp [nL]
theorem nL_en {l : List Nat} {d : Nat} (h : d < l.length) : en (nL l) d = (gn l d : Int) := by
  simp [nL, en, gn, List.getD, h]
theorem gn_app1 {l m : List Nat} {d : Nat} (h : d < l.length) : gn (l ++ m) d = gn l d := by
  simp [gn, List.getD, List.getElem?_append_left h]
theorem gn_app2 {l : List Nat} {s : Nat} : gn (l ++ [s]) l.length = s := by simp [gn, List.getD]
theorem ext_get {n : Nat} : ∀ {f : Nat} {l x : List Nat}, x ∈ ext n f l → x.length = l.length + f ∧ (∀ d, d < l.length → gn x d = gn l d)
  | 0, l, x, h => by
    obtain rfl := List.mem_singleton.1 h
    exact ⟨rfl, fun _ _ => rfl⟩
  | f + 1, l, x, h => by
    rw [ext, List.mem_flatMap] at h
    obtain ⟨s, hs, h⟩ := h
    by_cases g : s ∈ l
    · rw [if_pos g] at h; cases h
    · rw [if_neg g] at h
      obtain ⟨h1, h2⟩ := ext_get h
      rw [List.length_append, List.length_singleton] at h1 h2
      exact ⟨by omega, fun d hd => by rw [h2 d (by omega), gn_app1 hd]⟩
theorem ext_lt {n : Nat} : ∀ {f : Nat} {l x : List Nat}, (∀ s ∈ l, s < n) → x ∈ ext n f l → ∀ s ∈ x, s < n
  | 0, l, x, hl, h => by
    obtain rfl := List.mem_singleton.1 h
    exact hl
  | f + 1, l, x, hl, h => by
    rw [ext, List.mem_flatMap] at h
    obtain ⟨s, hs, h⟩ := h
    by_cases g : s ∈ l
    · rw [if_pos g] at h; cases h
    · rw [if_neg g] at h
      refine ext_lt (fun t ht => ?_) h
      rcases List.mem_append.1 ht with ht | ht
      · exact hl t ht
      · obtain rfl := List.mem_singleton.1 ht
        exact List.mem_range.1 hs
theorem flen_le {α β : Type} {b : Nat} {g : α → List β} : ∀ (L : List α), (∀ x ∈ L, (g x).length ≤ b) → (L.flatMap g).length ≤ L.length * b
  | [], _ => by simp
  | x :: L, h => by
    have h1 := h x (.head _)
    have ih := flen_le L fun y hy => h y (.tail _ hy)
    rw [List.flatMap_cons, List.length_append, List.length_cons, Nat.add_mul, Nat.one_mul]; omega
theorem ext_card {n : Nat} : ∀ (f : Nat) (l : List Nat), (ext n f l).length ≤ n ^ f
  | 0, l => by simp [ext]
  | f + 1, l => by
    have := flen_le (b := n ^ f) (g := fun s => if s ∈ l then [] else ext n f (l ++ [s])) (List.range n) (fun s _ => by
      by_cases g : s ∈ l
      · simp only [if_pos g]; simp
      · simp only [if_neg g]; exact ext_card f _)
    rw [List.length_range] at this
    rw [ext, Nat.pow_succ, Nat.mul_comm]; exact this
theorem pow5 {n f : Nat} (hn : n ≤ 5) (hf : f ≤ 5) : n ^ f ≤ 3125 := by
  have h : ∀ n : Nat, n < 6 → ∀ f : Nat, f < 6 → n ^ f ≤ 3125 := by decide
  exact h n (by omega) f (by omega)
theorem fm_range {α : Type} {n : Nat} {h : Nat → List α} (hz : ∀ s, n ≤ s → h s = []) : ∀ m, n ≤ m → (List.range m).flatMap h = (List.range n).flatMap h
  | 0, hm => by have : n = 0 := by omega
                subst this; rfl
  | m + 1, hm => by
    by_cases e : n = m + 1
    · rw [e]
    · rw [List.range_succ, List.flatMap_append, fm_range hz m (by omega)]
      simp [hz m (by omega)]
theorem fm_filter {α β : Type} {q : α → Bool} {g : α → List β} : ∀ L : List α, (L.filter q).flatMap g = L.flatMap fun s => if q s then g s else []
  | [] => rfl
  | x :: L => by
    rw [List.filter_cons, List.flatMap_cons]
    cases q x with
    | true => rw [if_pos rfl, if_pos rfl, List.flatMap_cons, fm_filter L]
    | false => rw [if_neg (by simp), if_neg (by simp), List.nil_append, fm_filter L]
theorem filter_fm {α β : Type} {p : β → Bool} {g : α → List β} : ∀ L : List α, (L.flatMap g).filter p = L.flatMap fun s => (g s).filter p
  | [] => rfl
  | x :: L => by rw [List.flatMap_cons, List.flatMap_cons, List.filter_append, filter_fm L]
theorem fm_congr {α β : Type} {g h : α → List β} : ∀ {L : List α}, (∀ x ∈ L, g x = h x) → L.flatMap g = L.flatMap h
  | [], _ => rfl
  | x :: L, hh => by rw [List.flatMap_cons, List.flatMap_cons, hh x (.head _), fm_congr fun y hy => hh y (.tail _ hy)]
theorem filter_congr' {α : Type} {p q : α → Bool} : ∀ {L : List α}, (∀ x ∈ L, p x = q x) → L.filter p = L.filter q
  | [], _ => rfl
  | x :: L, h => by rw [List.filter_cons, List.filter_cons, h x (.head _), filter_congr' fun y hy => h y (.tail _ hy)]
theorem Rp.congr {P : List (List Int)} {i k : Nat} {r r' : List Int} {T : T3} (h : Rp P i r k T) (h1 : r.take k = r'.take k) (h2 : ∀ d, d < k → en r d = en r' d) : Rp P i r' k T := by
  refine ⟨h.tv, fun s hs => by rw [← h1]; exact h.b s hs, h.bz, fun d s hd hs => ?_, fun j d hj hd => ?_⟩
  · rw [h.d d s hd hs]
    constructor
    · rintro (h3 | h3)
      · exact .inl h3
      · exact .inr ⟨h3.1, by rw [← h2 d h3.1]; exact h3.2⟩
    · rintro (h3 | h3)
      · exact .inl h3
      · exact .inr ⟨h3.1, by rw [h2 d h3.1]; exact h3.2⟩
  · rw [h.a j d hj hd]
    by_cases h3 : j < i
    · rw [if_pos h3, if_pos h3]
    · rw [if_neg h3, if_neg h3]
      by_cases h4 : j = i ∧ d < k
      · rw [if_pos h4, if_pos h4, h2 d h4.2]
      · rw [if_neg h4, if_neg h4]
def rowOf (n p : Nat) (T : T3) : List Int := (T.1.drop (p * 5)).take n
theorem en_at {X : List Int} {a d : Nat} : en (X.drop a) d = en X (a + d) := by simp [en, List.getD]
theorem list_en {X Y : List Int} (hl : X.length = Y.length) (h : ∀ d, d < X.length → en X d = en Y d) : X = Y := by
  apply List.ext_getElem hl
  intro d h1 h2
  have := h d h1
  simpa [en, List.getD, h1, h2] using this
theorem rowOf_eq {n p : Nat} (hn : n ≤ 5) (hp : p < 5) {T : T3} (hT : Tv T) {r : List Int} (hr : r.length = n) (h : ∀ d, d < n → en T.1 (p * 5 + d) = en r d) : rowOf n p T = r := by
  have la := hT.tb.la
  refine list_en ?_ fun d hd => ?_
  · simp only [rowOf, List.length_take, List.length_drop]; omega
  · simp only [rowOf, List.length_take, List.length_drop] at hd
    have e : en (rowOf n p T) d = en (T.1.drop (p * 5)) d := by
      unfold rowOf en
      simp only [List.getD]
      rw [List.getElem?_take, if_pos (by omega)]
    rw [e, en_at]; exact h d (by omega)
theorem row_cmpl (n : Nat) (hn : n ≤ 5) (P : List (List Int)) (p : Nat) (hp : p < n) : ∀ (f : Nat) (l : List Nat) (T : T3) (F : Nat), l.length + f = n → (∀ s ∈ l, s < n) → Rp P p (nL l) l.length T → f + 2 ≤ F →
    (cmpl n (p + 1) F p l.length T).map (rowOf n p) = ((ext n f l).filter fun x => fitB P x f l.length).map nL
  | 0, l, T, F, hl, hs, hT, hF => by
    obtain ⟨F, rfl⟩ : ∃ G, F = G + 2 := ⟨F - 2, by omega⟩
    rw [cmpl, if_neg (by omega), if_pos (by omega), cmpl, if_pos rfl]
    have : rowOf n p T = nL l := rowOf_eq hn (by omega) hT.tv (by rw [nL_len]; omega) fun d hd => by
      rw [hT.a p d (by omega) (by omega), if_neg (by omega), if_pos ⟨rfl, by omega⟩]
    simp [ext, fitB, this]
  | f + 1, l, T, F, hl, hs, hT, hF => by
    obtain ⟨F, rfl⟩ : ∃ G, F = G + 1 := ⟨F - 1, by omega⟩
    have ha : en T.1 (p * 5 + l.length) = -1 := by
      rw [hT.a p l.length (by omega) (by omega), if_neg (by omega), if_neg (by omega)]
    rw [cmpl, if_neg (by omega), if_neg (by omega), if_neg (by omega), ext]
    unfold bits
    rw [fm_filter, List.map_flatMap, filter_fm, List.map_flatMap]
    have hz : ∀ s, s < 5 → (mayB n (bn T.2.1 p) (bn T.2.2 l.length)).testBit s = (decide (s < n) && !decide (s ∈ l) && !metB P l.length (s : Nat)) := fun s h5 => by
      rw [may_tst (by omega) (hT.tv.tb.b32 p (by omega)) (hT.tv.tb.d32 l.length (by omega)) h5]
      have hb : (bn T.2.1 p).testBit s = decide (s ∈ l) := by
        rw [Bool.eq_iff_iff, hT.b s h5, List.take_of_length_le (by rw [nL_len]; omega), decide_eq_true_eq]
        unfold nL
        rw [List.mem_map]
        constructor
        · rintro ⟨t, ht, e⟩
          have : t = s := by omega
          exact this ▸ ht
        · exact fun h => ⟨s, h, rfl⟩
      have hd : (bn T.2.2 l.length).testBit s = metB P l.length (s : Nat) := by
        rw [Bool.eq_iff_iff, hT.d l.length s (by omega) h5]
        unfold metB
        rw [List.any_eq_true]
        constructor
        · rintro (⟨q, hq, h5, h6⟩ | h5)
          · exact ⟨q, hq, by simp [h5, h6]⟩
          · omega
        · rintro ⟨q, hq, h5⟩
          simp only [Bool.and_eq_true, decide_eq_true_eq, beq_iff_eq] at h5
          exact .inl ⟨q, hq, h5⟩
      rw [hb, hd]
    have e1 : (List.range 5).flatMap (fun s => List.map (rowOf n p) (if (mayB n (bn T.2.1 p) (bn T.2.2 l.length)).testBit s = true then cmpl n (p + 1) F p (l.length + 1) (putT T p l.length s) else [])) =
        (List.range 5).flatMap (fun s => if (decide (s < n) && !decide (s ∈ l) && !metB P l.length (s : Nat)) = true then ((ext n f (l ++ [s])).filter fun x => fitB P x f (l.length + 1)).map nL else []) := by
      refine fm_congr fun s hs5 => ?_
      have h5 := List.mem_range.1 hs5
      rw [hz s h5]
      by_cases g : (decide (s < n) && !decide (s ∈ l) && !metB P l.length (s : Nat)) = true
      · rw [if_pos g, if_pos g]
        simp only [Bool.and_eq_true, decide_eq_true_eq] at g
        have hl1 : (l ++ [s]).length = l.length + 1 := by simp
        have hR : Rp P p (nL (l ++ [s])) l.length T := hT.congr (by rw [show nL (l ++ [s]) = nL l ++ [(s : Int)] by simp [nL], List.take_append_of_le_length (by rw [nL_len]; omega)]) fun d hd => by rw [nL_en hd, nL_en (by omega), gn_app1 hd]
        have hR2 := hR.put (by omega) (by omega) (by rw [nL_len]; omega) h5 (by rw [nL_en (by omega), gn_app2])
        rw [← hl1] at hR2
        have ih := row_cmpl n hn P p hp f (l ++ [s]) (putT T p l.length s) F (by omega) (fun t ht => by
          rcases List.mem_append.1 ht with ht | ht
          · exact hs t ht
          · obtain rfl := List.mem_singleton.1 ht
            exact g.1.1) hR2 (by omega)
        rw [hl1] at ih
        exact ih
      · rw [if_neg g, if_neg g]; rfl
    rw [e1, fm_range (n := n) (fun s h => by rw [decide_eq_false (by omega)]; rfl) 5 hn]
    refine fm_congr fun s hs' => ?_
    have hsn := List.mem_range.1 hs'
    rw [decide_eq_true hsn, Bool.true_and]
    by_cases g : s ∈ l
    · rw [if_pos g, decide_eq_true g]; rfl
    · rw [if_neg g, decide_eq_false g, Bool.not_false, Bool.true_and]
      have hx : ∀ x ∈ ext n f (l ++ [s]), gn x l.length = s := fun x hx => by
        rw [(ext_get hx).2 l.length (by simp), gn_app2]
      have hq : (ext n f (l ++ [s])).filter (fun x => fitB P x (f + 1) l.length) = (ext n f (l ++ [s])).filter (fun x => !metB P l.length (s : Nat) && fitB P x f (l.length + 1)) := filter_congr' fun x h => by
        show (!metB P l.length (gn x l.length : Nat) && _) = _
        rw [hx x h]
      rw [hq]
      cases metB P l.length (s : Nat) with
      | true => simp
      | false => simp
theorem rows_L0 (N n : Nat) (hN : 5000 ≤ N) (hn : n ≤ 5) (f : Nat) (hf5 : f < 5) (l : List Nat) (hl : l.length + (f + 1) = n) (rec : Int → PV → Option PV)
    (hrec : ∀ s, rec (n : Int) (rwP (nL (l ++ [s]))) = some (.lst false (ext n f (l ++ [s])).length (rwsP ((ext n f (l ++ [s])).map nL)))) : ∀ (g s fuel : Nat) (A : List (List Nat)), n - s = g → g < fuel → A.length ≤ 10000 * s →
    m91_L0 N rec (n : Int) l.length (iL (nL l)) fuel A.length (s : Int) (rwsP (A.map nL)) = some ((A ++ (List.range' s (n - s)).flatMap fun s => if s ∈ l then [] else ext n f (l ++ [s])).length, rwsP ((A ++ (List.range' s (n - s)).flatMap fun s => if s ∈ l then [] else ext n f (l ++ [s])).map nL))
  | g, s, 0, _, _, h, _ => by omega
  | g, s, fuel + 1, A, hg, hfu, hA => by
    rw [m91_L0]
    by_cases h : s < n
    · have hh := has_ok N (by omega) (s : Int) (nL l) (by rw [nL_len]; omega)
      unfold rwP at hh
      rw [nL_len] at hh
      have hm : decide ((s : Int) ∈ nL l) = decide (s ∈ l) := by
        refine decide_eq_decide.2 ?_
        unfold nL
        rw [List.mem_map]
        constructor
        · rintro ⟨t, ht, e⟩
          have : t = s := by omega
          exact this ▸ ht
        · exact fun h => ⟨s, h, rfl⟩
      rw [brn_dt (by omega), hh, bnd_t, getB_t, hm, range'_step h, List.flatMap_cons]
      by_cases g1 : s ∈ l
      · rw [brn_dt g1, if_pos g1, List.nil_append, wrapN (by omega)]
        exact rows_L0 N n hN hn f hf5 l hl rec hrec (g - 1) (s + 1) fuel A (by omega) (by omega) (by omega)
      · rw [brn_df g1, if_neg g1, grd_t (by rw [iL_len, nL_len]), iL_app]
        have e : (nL l ++ [(s : Int)]) = nL (l ++ [s]) := by simp [nL]
        have hc := ext_card (n := n) f (l ++ [s])
        have hp := pow5 (f := f) hn (by omega)
        have e3 : (PV.lst false (l.length + 1) (iL (nL (l ++ [s])))) = rwP (nL (l ++ [s])) := by
          unfold rwP; rw [nL_len, List.length_append, List.length_singleton]
        have ih := rows_L0 N n hN hn f hf5 l hl rec hrec (g - 1) (s + 1) fuel (A ++ ext n f (l ++ [s])) (by omega) (by omega) (by rw [List.length_append]; omega)
        have e4 : rwsP (A.map nL) ++ rwsP ((ext n f (l ++ [s])).map nL) = rwsP ((A ++ ext n f (l ++ [s])).map nL) := by simp [rwsP]
        rw [List.length_append, List.append_assoc] at ih
        rw [e, e3, hrec]
        have fin : (grd (l.length ≤ 1099511627776) <| grd ((l.length + 1) ≤ 1099511627776) <|
          bnd' (some (PV.lst false (ext n f (l ++ [s])).length (rwsP ((ext n f (l ++ [s])).map nL)))) fun p1548 =>
          getL p1548 fun n1551 c1552 =>
          grd (List.length c1552 = n1551) <|
          grd ((A.length + n1551) ≤ 1099511627776) <|
          grd (List.length (rwsP (A.map nL)) = A.length) <|
          m91_L0 N rec (n : Int) l.length (iL (nL l)) fuel (A.length + n1551) (IntKind.i64.wrap ((s : Int) + 1)) (rwsP (A.map nL) ++ c1552)) = some ((A ++ (ext n f (l ++ [s]) ++ (List.range' (s + 1) (n - (s + 1))).flatMap fun s => if s ∈ l then [] else ext n f (l ++ [s]))).length, rwsP ((A ++ (ext n f (l ++ [s]) ++ (List.range' (s + 1) (n - (s + 1))).flatMap fun s => if s ∈ l then [] else ext n f (l ++ [s]))).map nL)) := by
          rw [grd_t (by omega), grd_t (by omega), bnd_t, getL_t, grd_t (by rw [rws_len, List.length_map]), grd_t (by omega), grd_t (by rw [rws_len, List.length_map]), wrapN (by omega), e4, ih]
        by_cases g2 : 0 < l.length
        · rw [brn_dt g2]; exact fin
        · rw [brn_df g2]; exact fin
    · rw [brn_df (by omega), show n - s = 0 by omega]
      simp
theorem rows_ok (N n : Nat) (hN : 5000 ≤ N) (hn : n ≤ 5) : ∀ (f fu : Nat) (l : List Nat), l.length + f = n → f < fu → m91 N fu (n : Int) (rwP (nL l)) = some (.lst false (ext n f l).length (rwsP ((ext n f l).map nL)))
  | f, 0, _, _, h => by omega
  | 0, fu + 1, l, hl, _ => by
    have hll := nL_len l
    rw [m91]
    unfold rwP
    rw [getL_t, brn_et (by omega)]
    rfl
  | f + 1, fu + 1, l, hl, hf => by
    have hll := nL_len l
    rw [m91]
    unfold rwP
    rw [getL_t, brn_ef (by omega), hll]
    have e := rows_L0 N n hN hn f (by omega) l hl (m91 N fu) (fun s => rows_ok N n hN hn f fu (l ++ [s]) (by simp; omega) (by omega)) n 0 N [] (by omega) (by omega) (by simp)
    rw [show m91_L0 N (m91 N fu) (n : Int) l.length (iL (nL l)) N 0 0 [] = _ from e, bnd_t, List.nil_append, Nat.sub_zero, ← List.range_eq_range']
    show grd _ _ = _
    rw [grd_t (by rw [rws_len, List.length_map])]
    rfl
theorem fit_L1 (N n : Nat) (hN : 5000 ≤ N) (hn : n ≤ 5) (P : List (List Int)) (hP : P.length ≤ 1000) (R : List (List Nat)) (hR : ∀ x ∈ R, x.length = n) (i : Nat) (hi : i < R.length) (m : Nat) (cm : List PV) (k : Int) (hk : k = (i : Int)) : ∀ (f d fuel : Nat) (b : Bool), n - d = f → f < fuel → d ≤ n →
    m67_L1 N (n : Int) P.length (rwsP P) R.length (rwsP (R.map nL)) m k cm fuel b (d : Int) = some (b && fitB P (R.getD i []) f d)
  | f, d, 0, _, _, h, _ => by omega
  | 0, d, fuel + 1, b, hf, _, hd => by
    rw [m67_L1, brn_df (by omega), fitB, Bool.and_true]
  | f + 1, d, fuel + 1, b, hf, hfu, hd => by
    have hx := hR (R.getD i []) (by simp [List.getD, hi])
    have ih := fun b => fit_L1 N n hN hn P hP R hR i hi m cm k hk f (d + 1) fuel b (by omega) (by omega) (by omega)
    rw [m67_L1, brn_dt (by omega), fitB, wrapN (by omega)]
    cases b with
    | false => rw [brn_f rfl, ih]; simp
    | true =>
      have e1 : ro (R.map nL) i = nL (R.getD i []) := by simp [ro, List.getD, hi]
      have hl : (R.map nL).length = R.length := by simp
      subst hk
      rw [brn_t rfl, grd_t ⟨by omega, by omega⟩, toNatN, grd_t (by rw [List.length_drop, rws_len, hl]; omega), rws_gp (by rw [hl]; exact hi), getL_t, e1, nL_len, hx, toNatN, grd_t ⟨by omega, by omega⟩, grd_t (by rw [List.length_drop, iL_len, nL_len]; omega), iL_gp (by rw [nL_len]; omega), getI_t, nL_en (by omega), met_ok N (by omega) d _ P hP, bnd_t, getB_t, Bool.true_and]
      cases metB P d (gn (R.getD i []) d : Nat) with
      | true => rw [brn_t rfl, ih]; simp
      | false => rw [brn_f rfl, ih]; simp
theorem fit_L0 (N n : Nat) (hN : 5000 ≤ N) (hn : n ≤ 5) (P : List (List Int)) (hP : P.length ≤ 1000) (R : List (List Nat)) (hRl : R.length ≤ 4000) (hR : ∀ x ∈ R, x.length = n) : ∀ (f i fuel : Nat) (A : List (List Nat)), R.length - i = f → f < fuel → A.length ≤ i →
    m67_L0 N (n : Int) P.length (rwsP P) R.length (rwsP (R.map nL)) fuel A.length (i : Int) (rwsP (A.map nL)) = some ((A ++ (R.drop i).filter fun l => fitB P l n 0).length, rwsP ((A ++ (R.drop i).filter fun l => fitB P l n 0).map nL))
  | f, i, 0, _, _, h, _ => by omega
  | f, i, fuel + 1, A, hf, hfu, hA => by
    rw [m67_L0]
    by_cases h : i < R.length
    · have hl : (R.map nL).length = R.length := by simp
      have e1 : ro (R.map nL) i = nL (R.getD i []) := by simp [ro, List.getD, h]
      have ed : R.drop i = R.getD i [] :: R.drop (i + 1) := by rw [List.drop_eq_getElem_cons h]; simp [List.getD, h]
      have hx := hR (R.getD i []) (by simp [List.getD, h])
      rw [brn_dt (by omega), show m67_L1 N (n : Int) P.length (rwsP P) R.length (rwsP (R.map nL)) A.length (i : Int) (rwsP (A.map nL)) N true 0 = _ from fit_L1 N n hN hn P hP R hR i h A.length (rwsP (A.map nL)) (i : Int) rfl n 0 N true (by omega) (by omega) (by omega), bnd_t, Bool.true_and, ed, List.filter_cons, wrapN (by omega)]
      cases fitB P (R.getD i []) n 0 with
      | true =>
        have ih := fit_L0 N n hN hn P hP R hRl hR (f - 1) (i + 1) fuel (A ++ [R.getD i []]) (by omega) (by omega) (by simp; omega)
        have e4 : rwsP (A.map nL) ++ [rwP (nL (R.getD i []))] = rwsP ((A ++ [R.getD i []]).map nL) := by simp [rwsP]
        rw [List.length_append, List.length_singleton, List.append_assoc, List.singleton_append] at ih
        rw [brn_t rfl, grd_t ⟨by omega, by omega⟩, toNatN, grd_t (by rw [List.length_drop, rws_len, hl]; omega), rws_gp (by rw [hl]; exact h), getL_t, e1, grd_t (by omega), grd_t (by rw [rws_len, List.length_map]), if_pos rfl]
        rw [show rwsP (A.map nL) ++ [PV.lst false (nL (R.getD i [])).length (iL (nL (R.getD i [])))] = _ from e4]
        exact ih
      | false =>
        rw [brn_f rfl, if_neg (by simp)]
        exact fit_L0 N n hN hn P hP R hRl hR (f - 1) (i + 1) fuel A (by omega) (by omega) (by omega)
    · rw [brn_df (by omega), List.drop_eq_nil_of_le (by omega)]; simp
theorem fitting_ok (N n : Nat) (hN : 5000 ≤ N) (hn : n ≤ 5) (P : List (List Int)) (hP : P.length ≤ 1000) : m67 N (n : Int) (.lst false P.length (rwsP P)) = some (.lst false (fitn n P).length (rwsP ((fitn n P).map nL))) := by
  have hc := ext_card (n := n) n []
  have hp := pow5 (f := n) hn hn
  have r := rows_ok N n hN hn n N [] (by simp) (by omega)
  have e := fit_L0 N n hN hn P hP (ext n n []) (by omega) (fun x hx => by have := (ext_get hx).1; simpa using this) (ext n n []).length 0 N [] (by omega) (by omega) (by simp)
  rw [m67, getL_t, show m91 N N (n : Int) (.lst false 0 []) = _ from r, bnd_t, getL_t]
  rw [show m67_L0 N (n : Int) P.length (rwsP P) (ext n n []).length (rwsP ((ext n n []).map nL)) N 0 0 [] = _ from e, bnd_t]
  show grd _ _ = _
  rw [List.nil_append, List.drop_zero, grd_t (by rw [rws_len, List.length_map])]
  rfl
end Go.Proofs.YtcaecfofgdogbaaDoor
namespace Go.Proofs.YtcaecfofgdogbaaDoor
open Go.V
set_option linter.unusedSectionVars false
set_option maxRecDepth 100000
def pc (x : Nat) : Nat := (bits x).length
def subs : Nat → Nat → List Nat
  | 1, 0 => [0]
  | 1, 1 => [1]
  | 2, 0 => [0]
  | 2, 1 => [1, 2]
  | 2, 2 => [3]
  | 3, 0 => [0]
  | 3, 1 => [1, 2, 4]
  | 3, 2 => [3, 5, 6]
  | 3, 3 => [7]
  | 4, 0 => [0]
  | 4, 1 => [1, 2, 4, 8]
  | 4, 2 => [3, 5, 6, 9, 10, 12]
  | 4, 3 => [7, 11, 13, 14]
  | 4, 4 => [15]
  | 5, 0 => [0]
  | 5, 1 => [1, 2, 4, 8, 16]
  | 5, 2 => [3, 5, 6, 9, 10, 12, 17, 18, 20, 24]
  | 5, 3 => [7, 11, 13, 14, 19, 21, 22, 25, 26, 28]
  | 5, 4 => [15, 23, 27, 29, 30]
  | 5, 5 => [31]
  | _, _ => []
def prm (n : Nat) : List Nat → Nat → Nat
  | [], _ => 1
  | M :: D, u => ((List.range n).map fun s => bif (M ||| u).testBit s then 0 else prm n D (u ||| 2 ^ s)).sum
def fac : Nat → Nat
  | 0 => 1
  | n + 1 => (n + 1) * fac n
def okC (M : Nat) : Nat → List Nat → Bool
  | _, [] => true
  | s, c :: l => (bif M.testBit s then !(c == 0) else true) && okC M (s + 1) l
def sbC (M : Nat) : Nat → List Nat → List Nat
  | _, [] => []
  | s, c :: l => (bif M.testBit s then c - 1 else c) :: sbC M (s + 1) l
def hallB (n k : Nat) : Nat → List Nat → List Nat → Bool
  | 0, cols, D => !(cols.all (· == 0)) || Nat.ble (fac (n - k)) (prm n D 0)
  | d + 1, cols, D => (subs n k).all fun M => !(okC M 0 cols) || hallB n k d (sbC M 0 cols) (D ++ [M])
theorem hall1_0 : hallB 1 0 1 (List.replicate 1 0) [] = true := by decide +kernel
theorem hall2_0 : hallB 2 0 2 (List.replicate 2 0) [] = true := by decide +kernel
theorem hall2_1 : hallB 2 1 2 (List.replicate 2 1) [] = true := by decide +kernel
theorem hall3_0 : hallB 3 0 3 (List.replicate 3 0) [] = true := by decide +kernel
theorem hall3_1 : hallB 3 1 3 (List.replicate 3 1) [] = true := by decide +kernel
theorem hall3_2 : hallB 3 2 3 (List.replicate 3 2) [] = true := by decide +kernel
theorem hall4_0 : hallB 4 0 4 (List.replicate 4 0) [] = true := by decide +kernel
theorem hall4_1 : hallB 4 1 4 (List.replicate 4 1) [] = true := by decide +kernel
theorem hall4_2 : hallB 4 2 4 (List.replicate 4 2) [] = true := by decide +kernel
theorem hall4_3 : hallB 4 3 4 (List.replicate 4 3) [] = true := by decide +kernel
theorem hall5_0 : hallB 5 0 5 (List.replicate 5 0) [] = true := by decide +kernel
theorem hall5_1 : hallB 5 1 5 (List.replicate 5 1) [] = true := by decide +kernel
theorem hall5_2 : hallB 5 2 5 (List.replicate 5 2) [] = true := by decide +kernel
theorem hall5_3 : hallB 5 3 5 (List.replicate 5 3) [] = true := by decide +kernel
theorem hall5_4 : hallB 5 4 5 (List.replicate 5 4) [] = true := by decide +kernel
end Go.Proofs.YtcaecfofgdogbaaDoor
namespace Go.Proofs.YtcaecfofgdogbaaDoor
open Go.V
set_option linter.unusedSectionVars false
def cc (D : List Nat) (s : Nat) : Nat := (D.filter fun M => M.testBit s).length
theorem cc_cons (M : Nat) (D : List Nat) (s : Nat) : cc (M :: D) s = (if M.testBit s then 1 else 0) + cc D s := by
  unfold cc
  rw [List.filter_cons]
  split <;> simp <;> omega
theorem okC_ok (M : Nat) : ∀ (l : List Nat) (s0 : Nat), (∀ j, j < l.length → M.testBit (s0 + j) = true → gn l j ≠ 0) → okC M s0 l = true
  | [], _, _ => rfl
  | c :: l, s0, h => by
    have h0 := h 0 (by simp)
    have ih := okC_ok M l (s0 + 1) fun j hj ht => by
      have := h (j + 1) (by simpa using hj) (by rw [show s0 + (j + 1) = s0 + 1 + j by omega]; exact ht)
      simpa [gn] using this
    rw [okC, ih, Bool.and_true]
    cases hb : M.testBit s0 with
    | false => rfl
    | true =>
      have := h0 (by simpa using hb)
      simp [gn] at this
      simp [this]
theorem sbC_len (M : Nat) : ∀ (l : List Nat) (s0 : Nat), (sbC M s0 l).length = l.length
  | [], _ => rfl
  | c :: l, s0 => by rw [sbC, List.length_cons, sbC_len M l, List.length_cons]
theorem sbC_get (M : Nat) : ∀ (l : List Nat) (s0 j : Nat), j < l.length → gn (sbC M s0 l) j = if M.testBit (s0 + j) then gn l j - 1 else gn l j
  | [], _, j, h => by simp at h
  | c :: l, s0, 0, _ => by
    rw [sbC]
    show (bif M.testBit s0 then c - 1 else c) = if M.testBit s0 = true then c - 1 else c
    cases M.testBit s0 <;> rfl
  | c :: l, s0, j + 1, h => by
    have ih := sbC_get M l (s0 + 1) j (by simpa using h)
    rw [sbC, show s0 + (j + 1) = s0 + 1 + j by omega]
    simpa [gn] using ih
theorem hall_sound (n k : Nat) : ∀ (d : Nat) (cols acc rest : List Nat), rest.length = d → (∀ M ∈ rest, M ∈ subs n k) → (∀ s, s < cols.length → gn cols s = cc rest s) → hallB n k d cols acc = true → fac (n - k) ≤ prm n (acc ++ rest) 0
  | 0, cols, acc, rest, hr, _, hc, hh => by
    have : rest = [] := List.eq_nil_of_length_eq_zero hr
    subst this
    rw [hallB] at hh
    have hz : cols.all (· == 0) = true := by
      rw [List.all_eq_true]
      intro c hcm
      obtain ⟨j, hj, rfl⟩ := List.getElem_of_mem hcm
      have := hc j hj
      simp [gn, cc, List.getD, hj] at this
      simp [this]
    rw [hz, Bool.not_true, Bool.false_or, Nat.ble_eq] at hh
    simpa using hh
  | d + 1, cols, acc, [], hr, _, _, _ => by simp at hr
  | d + 1, cols, acc, M :: rest, hr, hs, hc, hh => by
    rw [hallB, List.all_eq_true] at hh
    have h1 := hh M (hs M (.head _))
    have h2 : okC M 0 cols = true := okC_ok M cols 0 fun j hj ht => by
      rw [Nat.zero_add] at ht
      rw [hc j hj, cc_cons, if_pos ht]; omega
    rw [h2, Bool.not_true, Bool.false_or] at h1
    have := hall_sound n k d (sbC M 0 cols) (acc ++ [M]) rest (by simpa using hr) (fun M' h => hs M' (.tail _ h)) (fun s h => by
      rw [sbC_len] at h
      rw [sbC_get M cols 0 s h, Nat.zero_add, hc s h, cc_cons]
      split <;> omega) h1
    rwa [List.append_assoc, List.singleton_append] at this
theorem hall_all {n k : Nat} (hn : n ≤ 5) (hk : k < n) : hallB n k n (List.replicate n k) [] = true := by
  rcases (show n = 1 ∨ n = 2 ∨ n = 3 ∨ n = 4 ∨ n = 5 by omega) with rfl | rfl | rfl | rfl | rfl
  · obtain rfl : k = 0 := by omega
    exact hall1_0
  · rcases (show k = 0 ∨ k = 1 by omega) with rfl | rfl
    · exact hall2_0
    · exact hall2_1
  · rcases (show k = 0 ∨ k = 1 ∨ k = 2 by omega) with rfl | rfl | rfl
    · exact hall3_0
    · exact hall3_1
    · exact hall3_2
  · rcases (show k = 0 ∨ k = 1 ∨ k = 2 ∨ k = 3 by omega) with rfl | rfl | rfl | rfl
    · exact hall4_0
    · exact hall4_1
    · exact hall4_2
    · exact hall4_3
  · rcases (show k = 0 ∨ k = 1 ∨ k = 2 ∨ k = 3 ∨ k = 4 by omega) with rfl | rfl | rfl | rfl | rfl
    · exact hall5_0
    · exact hall5_1
    · exact hall5_2
    · exact hall5_3
    · exact hall5_4
def stp (D x : List Nat) : List Nat := List.zipWith (fun M s => M ||| 2 ^ s) D x
inductive Vp (n : Nat) : List (List Nat) → List Nat → Prop
  | nil : Vp n [] (List.replicate n 0)
  | snoc (X : List (List Nat)) (D x : List Nat) (h : Vp n X D) (hx : x ∈ ext n n []) (hf : fitB (X.map nL) x n 0 = true) : Vp n (X ++ [x]) (stp D x)
theorem pc_or : ∀ M : Nat, M < 32 → ∀ s : Nat, s < 5 → M.testBit s = false → pc (M ||| 2 ^ s) = pc M + 1 := by decide +kernel
theorem or_ltn : ∀ n : Nat, n < 6 → ∀ M : Nat, M < 2 ^ n → ∀ s : Nat, s < n → M ||| 2 ^ s < 2 ^ n := by decide +kernel
theorem subs_mem : ∀ n : Nat, n < 6 → 1 ≤ n → ∀ M : Nat, M < 2 ^ n → M ∈ subs n (pc M) := by decide +kernel
theorem pow_lt : ∀ n : Nat, n < 6 → 2 ^ n ≤ 32 := by decide
theorem ext_cnt : ∀ n : Nat, n < 6 → ∀ x ∈ ext n n [], ∀ s : Nat, s < n → x.count s = 1 := by decide +kernel
theorem gn_stp {D x : List Nat} {d : Nat} (h1 : d < D.length) (h2 : d < x.length) : gn (stp D x) d = gn D d ||| 2 ^ gn x d := by
  simp [gn, stp, List.getD, List.getElem?_zipWith, h1, h2]
theorem cc_stp (s : Nat) (hs : s < 5) : ∀ (D x : List Nat), D.length = x.length → (∀ d, d < D.length → gn D d < 32 ∧ gn x d < 5 ∧ (gn D d).testBit (gn x d) = false) → cc (stp D x) s = cc D s + x.count s
  | [], [], _, _ => rfl
  | [], _ :: _, h, _ => by simp at h
  | _ :: _, [], h, _ => by simp at h
  | M :: D, t :: x, h, hd => by
    have h0 := hd 0 (by simp)
    simp only [gn, List.getD_cons_zero] at h0
    have ih := cc_stp s hs D x (by simpa using h) fun d hd' => by
      have := hd (d + 1) (by simpa using hd')
      simpa [gn] using this
    show cc ((M ||| 2 ^ t) :: stp D x) s = _
    rw [cc_cons, cc_cons, ih, tst_or M h0.1 t h0.2.1 s hs, List.count_cons]
    by_cases e : s = t
    · subst e
      rw [h0.2.2]
      simp; omega
    · have : (t == s) = false := by simpa using fun h => e h.symm
      rw [this, decide_eq_false e]
      simp; omega
theorem metB_app (P : List (List Int)) (r : List Int) (d : Nat) (s : Int) : metB (P ++ [r]) d s = (metB P d s || (decide (d < r.length) && (en r d == s))) := by
  simp [metB, List.any_append]
theorem fitB_get {P : List (List Int)} {x : List Nat} : ∀ {f d : Nat}, fitB P x f d = true → ∀ j, d ≤ j → j < d + f → metB P j (gn x j : Nat) = false
  | 0, d, _, j, h1, h2 => by omega
  | f + 1, d, h, j, h1, h2 => by
    rw [fitB, Bool.and_eq_true, Bool.not_eq_true'] at h
    by_cases e : j = d
    · subst e; exact h.1
    · exact fitB_get h.2 j (by omega) (by omega)
structure Vd (n : Nat) (X : List (List Nat)) (D : List Nat) : Prop where
  len : D.length = n
  lt : ∀ d, d < n → gn D d < 2 ^ n
  pc : ∀ d, d < n → pc (gn D d) = X.length
  cc : ∀ s, s < n → cc D s = X.length
  met : ∀ d s, d < n → s < 5 → (gn D d).testBit s = metB (X.map nL) d (s : Nat)
theorem gn_mem {l : List Nat} {d : Nat} (h : d < l.length) : gn l d ∈ l := by simp [gn, List.getD, h]
theorem Vp.vd {n : Nat} (hn : n ≤ 5) {X : List (List Nat)} {D : List Nat} (h : Vp n X D) : Vd n X D := by
  induction h with
  | nil =>
    have hz : ∀ d, gn (List.replicate n 0) d = 0 := fun d => by simp [gn, List.getD, List.getElem?_replicate]; split <;> rfl
    refine ⟨by simp, fun d _ => by rw [hz]; exact Nat.two_pow_pos n, fun d _ => by rw [hz]; decide, fun s _ => ?_, fun d s _ _ => by rw [hz]; simp [metB]⟩
    simp [Go.Proofs.YtcaecfofgdogbaaDoor.cc]
  | snoc X D x h hx hf ih =>
    obtain ⟨e1, _⟩ := ext_get hx
    have hxl : x.length = n := by simpa using e1
    have hlt := ext_lt (n := n) (by simp) hx
    have h2 := pow_lt n (by omega)
    have hnot : ∀ d, d < n → (gn D d).testBit (gn x d) = false := fun d hd => by
      have := hlt _ (gn_mem (l := x) (d := d) (by omega))
      rw [ih.met d _ hd (by omega)]
      exact fitB_get hf d (by omega) (by omega)
    have hg : ∀ d, d < n → gn (stp D x) d = gn D d ||| 2 ^ gn x d := fun d hd => gn_stp (by rw [ih.len]; exact hd) (by omega)
    have hx5 : ∀ d, d < n → gn x d < n := fun d hd => hlt _ (gn_mem (by omega))
    refine ⟨by simp [stp, ih.len, hxl], fun d hd => ?_, fun d hd => ?_, fun s hs => ?_, fun d s hd hs => ?_⟩
    · rw [hg d hd]; exact or_ltn n (by omega) _ (ih.lt d hd) _ (hx5 d hd)
    · have := ih.lt d hd
      have := hx5 d hd
      rw [hg d hd, pc_or _ (by omega) _ (by omega) (hnot d hd), ih.pc d hd]; simp
    · rw [cc_stp s (by omega) D x (by rw [ih.len, hxl]) fun d hd => by
        rw [ih.len] at hd
        have := ih.lt d hd
        have := hx5 d hd
        exact ⟨by omega, by omega, hnot d hd⟩, ih.cc s hs, ext_cnt n (by omega) x hx s hs]
      simp
    · have := ih.lt d hd
      have hx' := hx5 d hd
      rw [hg d hd, tst_or _ (by omega) _ (by omega) s hs, ih.met d s hd hs, List.map_append, List.map_singleton, metB_app, nL_len, decide_eq_true (show d < x.length by omega), Bool.true_and, nL_en (by omega)]
      congr 1
      rw [Bool.eq_iff_iff, decide_eq_true_eq, beq_iff_eq]
      constructor
      · intro h; omega
      · intro h; omega
theorem sum_len {α β : Type} {g : α → List β} : ∀ L : List α, (L.flatMap g).length = (L.map fun x => (g x).length).sum
  | [] => rfl
  | x :: L => by rw [List.flatMap_cons, List.length_append, List.map_cons, List.sum_cons, sum_len L]
theorem prm_ok (n : Nat) (hn : n ≤ 5) (X : List (List Nat)) (D : List Nat) (hD : Vd n X D) : ∀ (f : Nat) (l : List Nat) (u : Nat), l.length + f = n → u < 32 → (∀ s ∈ l, s < n) → (∀ s, s < 5 → u.testBit s = decide (s ∈ l)) →
    ((ext n f l).filter fun x => fitB (X.map nL) x f l.length).length = prm n (D.drop l.length) u
  | 0, l, u, hl, _, _, _ => by
    rw [List.drop_eq_nil_of_le (by rw [hD.len]; omega)]
    simp [ext, fitB, prm]
  | f + 1, l, u, hl, hu, hs, hb => by
    have hd : l.length < n := by omega
    have ed : D.drop l.length = gn D l.length :: D.drop (l.length + 1) := by
      rw [List.drop_eq_getElem_cons (by rw [hD.len]; exact hd)]
      simp [gn, List.getD, hD.len, hd]
    have h2 := pow_lt n (by omega)
    have hM := hD.lt l.length hd
    rw [ext, filter_fm, sum_len, ed, prm]
    congr 1
    refine List.map_congr_left fun s hs' => ?_
    have hsn := List.mem_range.1 hs'
    rw [Nat.testBit_or, hb s (by omega), hD.met l.length s hd (by omega)]
    by_cases g : s ∈ l
    · rw [if_pos g, decide_eq_true g, Bool.or_true]; rfl
    · rw [if_neg g, decide_eq_false g, Bool.or_false]
      have hx : ∀ x ∈ ext n f (l ++ [s]), gn x l.length = s := fun x hx => by
        rw [(ext_get hx).2 l.length (by simp), gn_app2]
      have hq : (ext n f (l ++ [s])).filter (fun x => fitB (X.map nL) x (f + 1) l.length) = (ext n f (l ++ [s])).filter (fun x => !metB (X.map nL) l.length (s : Nat) && fitB (X.map nL) x f (l.length + 1)) := filter_congr' fun x h => by
        show (!metB (X.map nL) l.length (gn x l.length : Nat) && _) = _
        rw [hx x h]
      rw [hq]
      cases metB (X.map nL) l.length (s : Nat) with
      | true => simp
      | false =>
        have hl1 : (l ++ [s]).length = l.length + 1 := by simp
        have ih := prm_ok n hn X D hD f (l ++ [s]) (u ||| 2 ^ s) (by omega) (or_lt u hu s (by omega)) (fun t ht => by
          rcases List.mem_append.1 ht with ht | ht
          · exact hs t ht
          · obtain rfl := List.mem_singleton.1 ht
            exact hsn) (fun t ht => by
          rw [tst_or u hu s (by omega) t ht, hb t ht, Bool.eq_iff_iff]
          simp)
        rw [hl1] at ih
        simpa using ih
theorem fit_many {n : Nat} (hn : n ≤ 5) {X : List (List Nat)} {D : List Nat} (h : Vp n X D) (hk : X.length < n) : fac (n - X.length) ≤ (fitn n (X.map nL)).length := by
  have hD := h.vd hn
  have e := prm_ok n hn X D hD n [] 0 (by simp) (by omega) (by simp) (fun s _ => by simp)
  rw [show (fitn n (X.map nL)).length = _ from e, List.length_nil, List.drop_zero]
  have := hall_sound n X.length n (List.replicate n X.length) [] D hD.len (fun M hM => by
    obtain ⟨d, hd, rfl⟩ := List.getElem_of_mem hM
    rw [hD.len] at hd
    have e2 : D[d]'(by rw [hD.len]; exact hd) = gn D d := by simp [gn, List.getD, hD.len, hd]
    rw [e2, ← hD.pc d hd]
    exact subs_mem n (by omega) (by omega) _ (hD.lt d hd)) (fun s hs => by
    rw [List.length_replicate] at hs
    rw [hD.cc s hs]
    simp [gn, List.getD, hs]) (hall_all hn hk)
  simpa using this
theorem ext_mem {n : Nat} : ∀ (f : Nat) (l x : List Nat), x.length = l.length + f → x.take l.length = l → (∀ s ∈ x, s < n) → (∀ k, k < x.length → gn x k ∉ x.take k) → x ∈ ext n f l
  | 0, l, x, hl, ht, _, _ => by
    rw [List.take_of_length_le (by omega)] at ht
    rw [ht]; exact .head _
  | f + 1, l, x, hl, ht, hs, hd => by
    have h1 : l.length < x.length := by omega
    rw [ext, List.mem_flatMap]
    refine ⟨gn x l.length, List.mem_range.2 (hs _ (gn_mem h1)), ?_⟩
    have h2 := hd l.length h1
    rw [ht] at h2
    rw [if_neg h2]
    refine ext_mem f _ x (by simp; omega) ?_ hs hd
    rw [List.length_append, List.length_singleton, List.take_succ_eq_append_getElem h1, ht]
    congr 2
    simp [gn, List.getD, h1]
theorem dayE_zero {n : Int} {P : List (List Int)} {r : List Int} : ∀ {f k : Nat}, dayE n P r f k = 0 → ∀ j, k ≤ j → j < k + f → 0 ≤ en r j ∧ en r j < n ∧ en r j ∉ r.take j ∧ metB P j (en r j) = false
  | 0, k, _, j, h1, h2 => by omega
  | f + 1, k, h, j, h1, h2 => by
    rw [dayE] at h
    split at h
    · cases h
    · rename_i a1
      split at h
      · cases h
      · rename_i a2
        split at h
        · cases h
        · rename_i a3
          split at h
          · cases h
          · rename_i a4
            by_cases e : j = k
            · subst e
              exact ⟨by omega, by omega, a3, by unfold metB; simpa using a4⟩
            · exact dayE_zero h j (by omega) (by omega)
theorem nL_toNat {r : List Int} (h : ∀ k, k < r.length → 0 ≤ en r k) : nL (r.map Int.toNat) = r := by
  refine list_en (by simp [nL]) fun d hd => ?_
  have hd' : d < r.length := by simpa [nL] using hd
  have := h d hd'
  rw [nL_en (by simpa using hd')]
  have e : gn (r.map Int.toNat) d = (en r d).toNat := by simp [gn, en, List.getD, hd']
  rw [e]; omega
theorem rowE_zero {n : Nat} {w : Int} {L : List (List Int)} : ∀ {f i : Nat}, rowE n w L f i = 0 → ∀ j, i ≤ j → j < i + f → ((ro L j).length : Int) = w ∧ w ≤ n ∧ dayE n (L.take j) (ro L j) (ro L j).length 0 = 0
  | 0, i, _, j, h1, h2 => by omega
  | f + 1, i, h, j, h1, h2 => by
    rw [rowE] at h
    split at h
    · cases h
    · rename_i a1
      split at h
      · cases h
      · rename_i a2
        split at h
        · rename_i a3; exact absurd h a3
        · rename_i a3
          by_cases e : j = i
          · subst e
            exact ⟨by omega, by omega, by omega⟩
          · exact rowE_zero h j (by omega) (by omega)
theorem fitB_mk {P : List (List Int)} {x : List Nat} : ∀ {f d : Nat}, (∀ j, d ≤ j → j < d + f → metB P j (gn x j : Nat) = false) → fitB P x f d = true
  | 0, _, _ => rfl
  | f + 1, d, h => by
    rw [fitB, h d (by omega) (by omega), fitB_mk fun j h1 h2 => h j (by omega) (by omega)]; rfl
theorem plan_vp {n : Nat} {L : List (List Int)} (h : ∀ j, j < L.length → ((ro L j).length : Int) = n ∧ dayE n (L.take j) (ro L j) (ro L j).length 0 = 0) : ∀ i, i ≤ L.length → ∃ X D, Vp n X D ∧ X.map nL = L.take i
  | 0, _ => ⟨[], _, .nil, by simp⟩
  | i + 1, hi => by
    obtain ⟨X, D, h1, h2⟩ := plan_vp h i (by omega)
    obtain ⟨a1, a2⟩ := h i (by omega)
    have hz := fun j (hj : j < (ro L i).length) => dayE_zero a2 j (by omega) (by omega)
    have en' : nL ((ro L i).map Int.toNat) = ro L i := nL_toNat fun k hk => (hz k hk).1
    have ge : ∀ k, k < (ro L i).length → gn ((ro L i).map Int.toNat) k = (en (ro L i) k).toNat := fun k hk => by simp [gn, en, List.getD, hk]
    refine ⟨X ++ [(ro L i).map Int.toNat], _, .snoc X D _ h1 ?_ ?_, ?_⟩
    · refine ext_mem n [] _ (by simp; omega) rfl (fun s hs => ?_) (fun k hk => ?_)
      · obtain ⟨k, hk, rfl⟩ := List.getElem_of_mem hs
        have hk' : k < (ro L i).length := by simpa using hk
        have := hz k hk'
        have e := ge k hk'
        simp only [gn, List.getD, hk, List.getElem?_eq_getElem, Option.getD_some] at e
        rw [e]; omega
      · have hk' : k < (ro L i).length := by simpa using hk
        have hzk := hz k hk'
        rw [ge k hk']
        intro hm
        apply hzk.2.2.1
        rw [← List.map_take, List.mem_map] at hm
        obtain ⟨y, hy, e⟩ := hm
        obtain ⟨q, hq, rfl⟩ := List.getElem_of_mem hy
        have hq2 : q < (ro L i).length := by
          rw [List.length_take] at hq; omega
        have := (hz q hq2).1
        have eq : ((ro L i).take k)[q] = en (ro L i) q := by simp [en, List.getD, hq2]
        rw [eq] at e
        have : en (ro L i) q = en (ro L i) k := by omega
        rw [← this, ← eq]
        exact List.getElem_mem hq
    · refine fitB_mk fun j _ hj => ?_
      have hj' : j < (ro L i).length := by omega
      have := hz j hj'
      rw [ge j hj', h2]
      rw [show (((en (ro L i) j).toNat : Nat) : Int) = en (ro L i) j by omega]
      exact this.2.2.2
    · rw [List.map_append, h2, List.map_singleton, en', ← take_ro (by omega)]
theorem chkE_zero {x w : Int} {L : List (List Int)} (h : chkE x w L = 0) : 1 ≤ x ∧ x ≤ 5 ∧ (L.length : Int) ≤ x ∧ rowE x w L L.length 0 = 0 := by
  unfold chkE at h
  split at h
  · cases h
  · split at h
    · cases h
    · split at h
      · cases h
      · exact ⟨by omega, by omega, by omega, h⟩
theorem plan_ok {n : Nat} {L : List (List Int)} (h : chkE n n L = 0) : ∃ X D, Vp n X D ∧ X.map nL = L := by
  obtain ⟨h1, h2, h3, h4⟩ := chkE_zero h
  obtain ⟨X, D, e1, e2⟩ := plan_vp (n := n) (L := L) (fun j hj => by
    have := rowE_zero h4 j (by omega) (by omega)
    exact ⟨this.1, this.2.2⟩) L.length (by omega)
  exact ⟨X, D, e1, by rw [e2, List.take_length]⟩
theorem check_ok (N : Nat) (hN : 2000 ≤ N) (x : Int) (L : List (List Int)) (hL : L.length ≤ 1000) (hr : ∀ r ∈ L, r.length ≤ 1000) : m23 N x (.lst false L.length (rwsP L)) = some (.int .i64 (chkE x x L)) ∧ m24 N x (.lst false L.length (rwsP L)) = some (.int .i64 (chkE x x L)) := by
  obtain ⟨T, e, _⟩ := opened_ok N hN x x L hL hr
  constructor
  · rw [m23, getL_t, e, bnd_t]
    unfold opE
    by_cases h : chkE x x L = 0
    · simp only [if_pos h]; rw [h]
    · simp only [if_neg h]
  · rw [m24, getL_t, checked_ok N hN x x L hL hr, bnd_t, getI_t]
def cntE (x : Int) (L : List (List Int)) : Int × Int := if chkE x x L ≠ 0 then (0, chkE x x L) else if (L.length : Int) = x then (0, 16) else (((fitn x.toNat L).length : Nat), 0)
theorem fitn_le {n : Nat} (hn : n ≤ 5) (L : List (List Int)) : (fitn n L).length ≤ 3125 := by
  have h1 := ext_card (n := n) n []
  have h2 := pow5 (f := n) hn hn
  have h3 := List.length_filter_le (fun l => fitB L l n 0) (ext n n [])
  unfold fitn; omega
theorem row_fit {n : Nat} (hn : n ≤ 5) {L : List (List Int)} (hp : L.length < n) {T : T3} (hT : ∀ r', Rp L L.length r' 0 T) (F : Nat) (hF : n + 2 ≤ F) : (cmpl n (L.length + 1) F L.length 0 T).map (rowOf n L.length) = (fitn n L).map nL :=
  row_cmpl n hn L L.length hp n [] T F (by simp) (by simp) (hT _) (by omega)
theorem row_cnt {n : Nat} (hn : n ≤ 5) {L : List (List Int)} (hp : L.length < n) {T : T3} (hT : ∀ r', Rp L L.length r' 0 T) (F : Nat) (hF : n + 2 ≤ F) : (cmpl n (L.length + 1) F L.length 0 T).length = (fitn n L).length := by
  have := congrArg List.length (row_fit hn hp hT F hF)
  simpa using this
theorem count_ok (N : Nat) (hN : 5000 ≤ N) (x : Int) (L : List (List Int)) (hL : L.length ≤ 1000) (hr : ∀ r ∈ L, r.length ≤ 1000) : m25 N x (.lst false L.length (rwsP L)) = some (.tup [.int .i64 (cntE x L).1, .int .i64 (cntE x L).2]) ∧ m26 N x (.lst false L.length (rwsP L)) = some (.tup [.int .i64 (cntE x L).1, .int .i64 (cntE x L).2]) := by
  obtain ⟨T, e, hT⟩ := opened_ok N (by omega) x x L hL hr
  have hc := (check_ok N (by omega) x L hL hr).2
  constructor
  · rw [m25, getL_t, e, bnd_t]
    unfold opE cntE
    by_cases h : chkE x x L = 0
    · simp only [if_pos h]
      rw [brn_nf rfl, if_neg (show ¬ chkE x x L ≠ 0 by simpa using h)]
      obtain ⟨h1, h2, h3, h4⟩ := chkE_zero h
      by_cases h5 : (L.length : Int) = x
      · rw [brn_et h5, if_pos h5]
      · rw [brn_ef h5, if_neg h5]
        obtain ⟨n, rfl⟩ : ∃ n : Nat, x = (n : Int) := ⟨x.toNat, by omega⟩
        rw [toNatN]
        have hT' := hT h
        have fl := fitn_le (n := n) (by omega) L
        have rc := row_cnt (n := n) (by omega) (by omega) hT' 100 (by omega)
        have c := cnt_ok N n (L.length + 1) L.length (by omega) (by omega) (by omega) 100 N L.length 0 0 T (hT' []).tv (by omega) (by rw [Nat.add_sub_cancel_left]; omega) (by omega) (by omega) (by omega)
        rw [rc, Nat.zero_add] at c
        rw [m64_2, m114, bnd_t, getT2_t, getI_t, getI_t, wrapN (by omega)]
        rw [show m88_2 N N (L.length : Int) 0 ((L.length + 1 : Nat) : Int) (L.length : Int) 0 (tP n T) = _ from c, bnd_t]
        show bnd' (getB (.bool false) _) _ = _
        rw [getB_t, bnd_t]
        show getT0 (.tup []) _ = _
        rw [getT0_t, m69, bnd_t, getI_t]
    · simp only [if_neg h]
      rw [brn_nt h, if_pos h]
  · rw [m26, getL_t, m66, getL_t, hc, bnd_t, getI_t]
    unfold cntE
    by_cases h : chkE x x L = 0
    · rw [brn_et h, if_neg (show ¬ chkE x x L ≠ 0 by simpa using h)]
      obtain ⟨h1, h2, h3, h4⟩ := chkE_zero h
      by_cases h5 : (L.length : Int) = x
      · rw [brn_et h5, if_pos h5, bnd_t, getI_t, brn_nt (by decide)]
      · rw [brn_ef h5, if_neg h5, bnd_t, getI_t, brn_nf h]
        obtain ⟨n, rfl⟩ : ∃ n : Nat, x = (n : Int) := ⟨x.toNat, by omega⟩
        rw [fitting_ok N n hN (by omega) L hL, bnd_t, getL_t, toNatN]
    · rw [brn_ef h, if_pos h, bnd_t, getI_t, brn_nt h]
def rowsE (n : Nat) (A : List Int) : List (List Int) := (List.range n).map fun j => (A.drop (j * 5)).take n
theorem rows_L (N n : Nat) (hN : 5000 ≤ N) (hn1 : 1 ≤ n) (hn : n ≤ 5) (A : List Int) (hA : A.length = 25) : ∀ (f i fuel : Nat), n - i = f → f < fuel → i ≤ n →
    m65_L0 N (n : Int) (iL A) fuel i (i : Int) (rwsP ((List.range i).map fun j => (A.drop (j * 5)).take n)) = some (n, rwsP (rowsE n A))
  | f, i, 0, _, h, _ => by omega
  | 0, i, fuel + 1, hf, _, hi => by
    have : i = n := by omega
    subst this
    rw [m65_L0, brn_df (by omega)]; rfl
  | f + 1, i, fuel + 1, hf, hfu, hi => by
    have e1 : List.take n (List.drop (i * 5) (iL A)) = iL ((A.drop (i * 5)).take n) := by simp [iL, List.map_drop, List.map_take]
    have hl : ((A.drop (i * 5)).take n).length = n := by rw [List.length_take, List.length_drop]; omega
    have c : m56 N (.lst false n (iL ((A.drop (i * 5)).take n))) = some (rwP ((A.drop (i * 5)).take n)) := by
      rw [m56, getL_t, grd_t (by omega), grd_t (by rw [iL_len]; exact hl), grd_t (by omega)]
      unfold rwP; rw [hl]
    have ih := rows_L N n hN hn1 hn A hA f (i + 1) fuel (by omega) (by omega) (by omega)
    have e2 : rwsP ((List.range i).map fun j => (A.drop (j * 5)).take n) ++ [rwP ((A.drop (i * 5)).take n)] = rwsP ((List.range (i + 1)).map fun j => (A.drop (j * 5)).take n) := by
      rw [rws_app, List.range_succ, List.map_append]; rfl
    rw [m65_L0, brn_dt (by omega), grd_t ⟨by omega, by omega⟩, grd_t ⟨by omega, by omega⟩, toNatN, toNatN, e1, c, bnd_t]
    show getL (.lst false _ _) _ = _
    rw [getL_t, grd_t (by omega), grd_t (by rw [rws_len]; simp), wrapN (by omega)]
    show m65_L0 N (n : Int) (iL A) fuel (i + 1) ((i + 1 : Nat) : Int) (rwsP ((List.range i).map fun j => (A.drop (j * 5)).take n) ++ [rwP ((A.drop (i * 5)).take n)]) = _
    rw [e2, ih]
theorem getA_t {α : Type} {c : List PV} {f : List PV → Option α} : getA (.agg c) f = f c := rfl
theorem rows_ok' (N n : Nat) (hN : 5000 ≤ N) (hn1 : 1 ≤ n) (hn : n ≤ 5) (A : List Int) (hA : A.length = 25) : m65 N (.agg (iL A)) (n : Int) = some (.lst false n (rwsP (rowsE n A))) := by
  have := rows_L N n hN hn1 hn A hA n 0 N (by omega) (by omega) (by omega)
  rw [m65, getA_t, show m65_L0 N (n : Int) (iL A) N 0 0 [] = _ from this, bnd_t]
  show grd _ _ = _
  rw [grd_t (by rw [rws_len]; simp [rowsE])]
theorem oneP_A (a b : Nat) (z : Bool) (A : List Int) (hA : A.length = 25) : List.take 25 (List.drop 3 (oneP a b z A)) = iL A := by
  have : List.drop 3 (oneP a b z A) = iL A := rfl
  rw [this, List.take_of_length_le (by rw [iL_len]; omega)]
theorem search_one (N n : Nat) (hN : 5000 ≤ N) (a b : Nat) (A : List Int) (hA : A.length = 25) (T : T3) (R : List T3) (h : m88 N N (a : Int) 0 (b : Int) (oneP a b false A) (tP n T) = some (oneR n a b false A T R)) :
    m64 N (tP n T) (oneP a b false A) = some (.tup [], (oneR n a b false A T R).2.2, (oneR n a b false A T R).2.1) := by
  rw [m64, m112, grd_t (by simp [oneP]), show gp (oneP a b false A) 0 = .int .i64 (a : Int) from rfl, getI_t, grd_t (by simp [oneP]), show gp (oneP a b false A) 1 = .int .i64 (b : Int) from rfl, getI_t, bnd_t, getT2_t, getI_t, getI_t, h, bnd_t]
  cases R <;> rfl
theorem fit_cons {n : Nat} (hn : n ≤ 5) {L : List (List Int)} (h : chkE n n L = 0) (hp : L.length < n) : ∃ y l, fitn n L = y :: l := by
  obtain ⟨X, D, h1, rfl⟩ := plan_ok h
  have hm := fit_many hn h1 (by simpa using hp)
  have hf : ∀ m, 1 ≤ fac m := fun m => by
    induction m with
    | zero => exact Nat.le_refl _
    | succ m ih => rw [fac]; exact Nat.le_trans ih (Nat.le_mul_of_pos_left _ (by omega))
  have h0 := hf (n - X.length)
  cases e : fitn n (X.map nL) with
  | nil => rw [e] at hm; simp at hm; omega
  | cons y l => exact ⟨y, l, rfl⟩
def fl (n : Nat) (P : List (List Int)) (f : Nat) (l : List Nat) : List (List Nat) := (ext n f l).filter fun x => fitB P x f l.length
def fitG (n : Nat) (P : List (List Int)) (f : Nat) (l : List Nat) (s : Nat) : List (List Nat) := if (decide (s ∈ l) || metB P l.length (s : Nat)) = true then [] else fl n P f (l ++ [s])
theorem fl_step (n : Nat) (P : List (List Int)) (f : Nat) (l : List Nat) : fl n P (f + 1) l = (List.range n).flatMap (fitG n P f l) := by
  unfold fl
  rw [ext, filter_fm]
  refine fm_congr fun s _ => ?_
  unfold fitG fl
  by_cases g : s ∈ l
  · rw [if_pos g, decide_eq_true g, Bool.true_or, if_pos rfl]; rfl
  · rw [if_neg g, decide_eq_false g, Bool.false_or]
    have hx : ∀ x ∈ ext n f (l ++ [s]), gn x l.length = s := fun x hx => by
      rw [(ext_get hx).2 l.length (by simp), gn_app2]
    have hq : (ext n f (l ++ [s])).filter (fun x => fitB P x (f + 1) l.length) = (ext n f (l ++ [s])).filter (fun x => !metB P l.length (s : Nat) && fitB P x f (l.length + 1)) := filter_congr' fun x h => by
      show (!metB P l.length (gn x l.length : Nat) && _) = _
      rw [hx x h]
    rw [hq]
    cases metB P l.length (s : Nat) with
    | true => simp
    | false => simp
theorem idx_L (N : Nat) (s : Int) (X : List Int) (hX : X.length ≤ 1000) : ∀ (f i fuel : Nat), X.length - i = f → f < fuel → ∃ o, m86_L0 N s X.length (iL X) fuel (i : Int) = some o ∧ (s ∈ X.drop i → ∃ j : Nat, o = .inl (.int .i64 (j : Int))) ∧ (s ∉ X.drop i → o = .inr ())
  | f, i, 0, _, h => by omega
  | f, i, fuel + 1, hf, hfu => by
    rw [m86_L0]
    by_cases h : i < X.length
    · obtain ⟨o, o1, o2, o3⟩ := idx_L N s X hX (f - 1) (i + 1) fuel (by omega) (by omega)
      rw [brn_dt (by omega), grd_t ⟨by omega, by omega⟩, toNatN, grd_t (by rw [List.length_drop, iL_len]; omega), iL_gp h, getI_t, drop_en h]
      by_cases e : s = en X i
      · rw [brn_et e]
        exact ⟨_, rfl, fun _ => ⟨i, rfl⟩, fun g => absurd (by rw [← e]; exact .head _) g⟩
      · rw [brn_ef e, wrapN (by omega)]
        refine ⟨o, o1, fun g => o2 ?_, fun g => o3 fun g2 => g (.tail _ g2)⟩
        rcases List.mem_cons.1 g with g | g
        · exact absurd g e
        · exact g
    · rw [brn_df (by omega), List.drop_eq_nil_of_le (by omega)]
      exact ⟨_, rfl, fun g => absurd g (by simp), fun _ => rfl⟩
theorem cont_ok (N : Nat) (hN : 2000 ≤ N) (s : Int) (X : List Int) (hX : X.length ≤ 1000) : m57 N (rwP X) s = some (.bool (decide (s ∈ X))) := by
  obtain ⟨o, o1, o2, o3⟩ := idx_L N s X hX X.length 0 N (by omega) (by omega)
  rw [List.drop_zero] at o2 o3
  unfold rwP
  rw [m57, getL_t, m86, getL_t, show m86_L0 N s X.length (iL X) N 0 = _ from o1, bnd_t]
  by_cases h : s ∈ X
  · obtain ⟨j, rfl⟩ := o2 h
    show bnd' (some (PV.int .i64 (j : Int))) _ = _
    rw [bnd_t, getI_t, decide_eq_true h, decide_eq_true (show (j : Int) ≥ 0 by omega)]
  · rw [o3 h, decide_eq_false h]; rfl
theorem nL_mem {s : Nat} {l : List Nat} : decide ((s : Int) ∈ nL l) = decide (s ∈ l) := by
  refine decide_eq_decide.2 ?_
  unfold nL
  rw [List.mem_map]
  constructor
  · rintro ⟨t, ht, e⟩
    have : t = s := by omega
    exact this ▸ ht
  · exact fun h => ⟨s, h, rfl⟩
theorem clash9_L1 (N n : Nat) (hn : n ≤ 5) (P : List (List Int)) (hP : P.length ≤ 1000) (hPn : ∀ q ∈ P, q.length = n) (rec : PV → List PV → Nat → List PV → Nat → List PV → Option (List PV × Nat × Nat × List PV × List PV)) (k : Nat) (hk : k < n) (cl : List PV) (s : Int) (cc oc pc : List PV) (on : Nat) : ∀ (f i fuel : Nat) (b : Bool), P.length - i = f → f < fuel → i ≤ P.length →
    m79_9_L1 N rec k cl (n : Int) s cc on P.length (rwsP P) oc fuel b (i : Int) = some (b || metB (P.drop i) k s)
  | f, i, 0, _, _, h, _ => by omega
  | 0, i, fuel + 1, b, hf, _, hi => by
    rw [m79_9_L1, brn_df (by omega), List.drop_eq_nil_of_le (by omega)]; simp [metB]
  | f + 1, i, fuel + 1, b, hf, hfu, hi => by
    have h1 : i < P.length := by omega
    have hq := hPn _ (ro_mem h1)
    have ih := fun b => clash9_L1 N n hn P hP hPn rec k hk cl s cc oc pc on f (i + 1) fuel b (by omega) (by omega) (by omega)
    have em : metB (P.drop i) k s = ((en (ro P i) k == s) || metB (P.drop (i + 1)) k s) := by
      rw [drop_ro h1]
      unfold metB
      rw [List.any_cons, decide_eq_true (show k < (ro P i).length by omega), Bool.true_and]
    rw [m79_9_L1, brn_dt (by omega), grd_t ⟨by omega, by omega⟩, toNatN, grd_t (by rw [rws_len]; omega), rws_gp h1, getL_t, wrapN (by omega), em]
    cases b with
    | true => rw [brn_t rfl, ih]; simp
    | false =>
      rw [brn_f rfl, grd_t ⟨by omega, by omega⟩, grd_t (by rw [List.length_drop, iL_len]; omega), iL_gp (by omega), getI_t, ih, Bool.false_or]
theorem fit9_L0 (N n : Nat) (hN : 5000 ≤ N) (hn : n ≤ 5) (P : List (List Int)) (hP : P.length ≤ 1000) (hPn : ∀ q ∈ P, q.length = n) (rec : PV → List PV → Nat → List PV → Nat → List PV → Option (List PV × Nat × Nat × List PV × List PV)) (f : Nat) (l : List Nat) (hl : l.length + (f + 1) = n)
    (hrec : ∀ s (A : List (List Nat)), A.length + (fl n P f (l ++ [s])).length ≤ 100000 → rec (rwP (nL (l ++ [s]))) [.int .i64 (n : Int)] A.length (rwsP (A.map nL)) P.length (rwsP P) = some (([.int .i64 (n : Int)], (A ++ fl n P f (l ++ [s])).length, P.length, rwsP P, rwsP ((A ++ fl n P f (l ++ [s])).map nL)))) : ∀ (g s fuel : Nat) (A : List (List Nat)), n - s = g → g < fuel → A.length + ((List.range' s (n - s)).flatMap (fitG n P f l)).length ≤ 100000 →
    m79_9_L0 N rec l.length (iL (nL l)) (n : Int) fuel (s : Int) [.int .i64 (n : Int)] A.length P.length (rwsP P) (rwsP (A.map nL)) = some (([.int .i64 (n : Int)], (A ++ (List.range' s (n - s)).flatMap (fitG n P f l)).length, P.length, rwsP P, rwsP ((A ++ (List.range' s (n - s)).flatMap (fitG n P f l)).map nL)))
  | g, s, 0, _, _, h, _ => by omega
  | g, s, fuel + 1, A, hg, hfu, hA => by
    rw [m79_9_L0]
    by_cases h : s < n
    · have hc := cont_ok N (by omega) (s : Int) (nL l) (by rw [nL_len]; omega)
      unfold rwP at hc
      rw [nL_len, nL_mem] at hc
      rw [range'_step h, List.flatMap_cons, List.length_append] at hA
      rw [brn_dt (by omega), hc, bnd_t, getB_t, show m79_9_L1 N rec l.length (iL (nL l)) (n : Int) (s : Int) [.int .i64 (n : Int)] A.length P.length (rwsP P) (rwsP (A.map nL)) N (decide (s ∈ l)) 0 = _ from clash9_L1 N n hn P hP hPn rec l.length (by omega) (iL (nL l)) (s : Int) [.int .i64 (n : Int)] (rwsP (A.map nL)) [] A.length P.length 0 N (decide (s ∈ l)) (by omega) (by omega) (by omega), List.drop_zero, bnd_t, range'_step h, List.flatMap_cons, wrapN (by omega)]
      by_cases g1 : (decide (s ∈ l) || metB P l.length (s : Nat)) = true
      · have e : fitG n P f l s = [] := by unfold fitG; rw [if_pos g1]
        rw [e] at hA ⊢
        rw [brn_t g1, List.nil_append]
        exact fit9_L0 N n hN hn P hP hPn rec f l hl hrec (g - 1) (s + 1) fuel A (by omega) (by omega) (by simpa using hA)
      · have e : fitG n P f l s = fl n P f (l ++ [s]) := by unfold fitG; rw [if_neg g1]
        rw [e] at hA ⊢
        have ih := fit9_L0 N n hN hn P hP hPn rec f l hl hrec (g - 1) (s + 1) fuel (A ++ fl n P f (l ++ [s])) (by omega) (by omega) (by rw [List.length_append]; omega)
        have hr := hrec s A (by omega)
        have e2 : PV.lst false (l.length + 1) (iL (nL l) ++ [.int .i64 (s : Int)]) = rwP (nL (l ++ [s])) := by
          rw [iL_app, show nL l ++ [(s : Int)] = nL (l ++ [s]) by simp [nL]]
          unfold rwP; rw [nL_len, List.length_append, List.length_singleton]
        rw [List.append_assoc] at ih
        rw [brn_f (by simpa using g1), grd_t ⟨by omega, by omega⟩, grd_t (by rw [iL_len, nL_len]), grd_t (by omega), e2, hr, bnd_t]
        exact ih
    · rw [brn_df (by omega), show n - s = 0 by omega]; simp
theorem fit9_ok (N n : Nat) (hN : 5000 ≤ N) (hn : n ≤ 5) (P : List (List Int)) (hP : P.length ≤ 1000) (hPn : ∀ q ∈ P, q.length = n) : ∀ (f fu : Nat) (l : List Nat) (A : List (List Nat)), l.length + f = n → f < fu → A.length + (fl n P f l).length ≤ 100000 →
    m79_9 N fu (rwP (nL l)) [.int .i64 (n : Int)] A.length (rwsP (A.map nL)) P.length (rwsP P) = some (([.int .i64 (n : Int)], (A ++ fl n P f l).length, P.length, rwsP P, rwsP ((A ++ fl n P f l).map nL)))
  | f, 0, _, _, _, h, _ => by omega
  | 0, fu + 1, l, A, hl, _, hA => by
    have hll := nL_len l
    have e0 : fl n P 0 l = [l] := by simp [fl, ext, fitB]
    rw [e0] at hA ⊢
    rw [m79_9]
    unfold rwP
    rw [getL_t, grd_t (by simp), show gp [PV.int .i64 (n : Int)] 0 = .int .i64 (n : Int) from rfl, getI_t, brn_et (by omega), grd_t (by simp at hA; omega), grd_t (by rw [rws_len]; simp)]
    rw [show rwsP (A.map nL) ++ [PV.lst false (nL l).length (iL (nL l))] = rwsP ((A ++ [l]).map nL) by simp [rwsP, rwP], List.length_append, List.length_singleton]
  | f + 1, fu + 1, l, A, hl, hf, hA => by
    have hll := nL_len l
    have hs := fl_step n P f l
    rw [hs] at hA ⊢
    rw [m79_9]
    unfold rwP
    have e := fit9_L0 N n hN hn P hP hPn (m79_9 N fu) f l hl (fun s A hA => fit9_ok N n hN hn P hP hPn f fu (l ++ [s]) A (by simp; omega) (by omega) hA) n 0 N A (by omega) (by omega) (by rw [Nat.sub_zero, ← List.range_eq_range']; exact hA)
    rw [Nat.sub_zero, ← List.range_eq_range'] at e
    rw [getL_t, grd_t (by simp), show gp [PV.int .i64 (n : Int)] 0 = .int .i64 (n : Int) from rfl, getI_t, brn_ef (by omega), hll]
    rw [show m79_9_L0 N (m79_9 N fu) l.length (iL (nL l)) (n : Int) N 0 [.int .i64 (n : Int)] A.length P.length (rwsP P) (rwsP (A.map nL)) = _ from e, bnd_t]
theorem met_hd {P : List (List Int)} {i n : Nat} (hn1 : 1 ≤ n) (h1 : i < P.length) (hq : (ro P i).length = n) (s : Int) : metB (P.drop i) 0 s = ((en (ro P i) 0 == s) || metB (P.drop (i + 1)) 0 s) := by
  rw [drop_ro h1]
  unfold metB
  rw [List.any_cons, decide_eq_true (show 0 < (ro P i).length by omega), Bool.true_and]
theorem topB_L1 (N n : Nat) (hn1 : 1 ≤ n) (P : List (List Int)) (hP : P.length ≤ 1000) (hPn : ∀ q ∈ P, q.length = n) (s : Int) (c0 c3 : List PV) (a : Nat) : ∀ (f i fuel : Nat) (b : Bool), P.length - i = f → f < fuel → i ≤ P.length →
    m79_7_L1 N (n : Int) s c0 a P.length (rwsP P) c3 fuel b (i : Int) = some (b || metB (P.drop i) 0 s)
  | f, i, 0, _, _, h, _ => by omega
  | 0, i, fuel + 1, b, hf, _, hi => by
    rw [m79_7_L1, brn_df (by omega), List.drop_eq_nil_of_le (by omega)]; simp [metB]
  | f + 1, i, fuel + 1, b, hf, hfu, hi => by
    have h1 : i < P.length := by omega
    have hq := hPn _ (ro_mem h1)
    have ih := fun b => topB_L1 N n hn1 P hP hPn s c0 c3 a f (i + 1) fuel b (by omega) (by omega) (by omega)
    rw [m79_7_L1, brn_dt (by omega), grd_t ⟨by omega, by omega⟩, toNatN, grd_t (by rw [rws_len]; omega), rws_gp h1, getL_t, wrapN (by omega), met_hd hn1 h1 hq]
    cases b with
    | true => rw [brn_t rfl, ih]; simp
    | false =>
      rw [brn_f rfl, grd_t (by omega), grd_t (by rw [iL_len]; omega), iL_gp (by omega), getI_t, ih, Bool.false_or]
theorem topB_L0 (N n : Nat) (hN : 5000 ≤ N) (hn1 : 1 ≤ n) (hn : n ≤ 5) (P : List (List Int)) (hP : P.length ≤ 1000) (hPn : ∀ q ∈ P, q.length = n) : ∀ (g s fuel : Nat) (A : List (List Nat)), n - s = g → g < fuel → A.length + ((List.range' s (n - s)).flatMap (fitG n P (n - 1) [])).length ≤ 100000 →
    m79_7_L0 N (n : Int) fuel (s : Int) [.int .i64 (n : Int)] A.length P.length (rwsP P) (rwsP (A.map nL)) = some ([.int .i64 (n : Int)], (A ++ (List.range' s (n - s)).flatMap (fitG n P (n - 1) [])).length, P.length, rwsP P, rwsP ((A ++ (List.range' s (n - s)).flatMap (fitG n P (n - 1) [])).map nL))
  | g, s, 0, _, _, h, _ => by omega
  | g, s, fuel + 1, A, hg, hfu, hA => by
    rw [m79_7_L0]
    by_cases h : s < n
    · have hc := cont_ok N (by omega) (s : Int) [] (by simp)
      rw [show rwP [] = PV.lst false 0 [] from rfl, decide_eq_false (show ¬ (s : Int) ∈ ([] : List Int) by simp)] at hc
      rw [range'_step h, List.flatMap_cons, List.length_append] at hA
      have hm := topB_L1 N n hn1 P hP hPn (s : Int) [.int .i64 (n : Int)] (rwsP (A.map nL)) A.length P.length 0 N false (by omega) (by omega) (by omega)
      rw [Bool.false_or, List.drop_zero] at hm
      rw [brn_dt (by omega), hc, bnd_t, getB_t, show m79_7_L1 N (n : Int) (s : Int) [.int .i64 (n : Int)] A.length P.length (rwsP P) (rwsP (A.map nL)) N false 0 = _ from hm, bnd_t, wrapN (by omega), range'_step h, List.flatMap_cons]
      by_cases g1 : metB P 0 (s : Nat) = true
      · have e : fitG n P (n - 1) [] s = [] := by unfold fitG; rw [if_pos (by simpa using g1)]
        rw [e] at hA ⊢
        rw [brn_t g1, List.nil_append]
        exact topB_L0 N n hN hn1 hn P hP hPn (g - 1) (s + 1) fuel A (by omega) (by omega) (by simpa using hA)
      · have e : fitG n P (n - 1) [] s = fl n P (n - 1) [s] := by unfold fitG; rw [if_neg (by simpa using g1)]; rfl
        rw [e] at hA ⊢
        have ih := topB_L0 N n hN hn1 hn P hP hPn (g - 1) (s + 1) fuel (A ++ fl n P (n - 1) [s]) (by omega) (by omega) (by rw [List.length_append]; omega)
        have hr := fit9_ok N n hN hn P hP hPn (n - 1) N [s] A (by simp; omega) (by omega) (by omega)
        rw [List.append_assoc] at ih
        rw [brn_f (by simpa using g1), show PV.lst false 1 [PV.int .i64 (s : Int)] = rwP (nL [s]) from rfl, hr, bnd_t]
        exact ih
    · rw [brn_df (by omega), show n - s = 0 by omega]; simp
theorem fl_all {n : Nat} (hn1 : 1 ≤ n) (P : List (List Int)) : (List.range' 0 (n - 0)).flatMap (fitG n P (n - 1) []) = fitn n P := by
  have := fl_step n P (n - 1) []
  rw [Nat.sub_zero, ← List.range_eq_range', ← this, show n - 1 + 1 = n by omega]; rfl
theorem m38_3_ok (N n : Nat) (hN : 5000 ≤ N) (hn1 : 1 ≤ n) (hn : n ≤ 5) (P : List (List Int)) (hP : P.length ≤ 1000) (hPn : ∀ q ∈ P, q.length = n) : m38_3 N (n : Int) P.length (rwsP P) = some (.lst false (fitn n P).length (rwsP ((fitn n P).map nL)), rwsP P) := by
  have h := topB_L0 N n hN hn1 hn P hP hPn n 0 N [] (by omega) (by omega) (by rw [fl_all hn1]; have := fitn_le hn P; simp; omega)
  rw [fl_all hn1, List.nil_append] at h
  rw [m38_3, m79_7, brn_ef (by omega), show m79_7_L0 N (n : Int) N 0 [.int .i64 (n : Int)] 0 P.length (rwsP P) [] = _ from h, bnd_t, bnd_t]
  show grd _ _ = _
  rw [grd_t (by rw [rws_len, List.length_map])]
theorem ext_dis : ∀ n : Nat, n < 6 → ∀ x ∈ ext n n [], ∀ k : Nat, k < n → gn x k ∉ x.take k := by decide +kernel
theorem mem_nL {s : Nat} {l : List Nat} : (s : Int) ∈ nL l ↔ s ∈ l := by
  have := @nL_mem s l
  exact ⟨fun h => by simpa [h] using this, fun h => by simpa [h] using this⟩
theorem dayE_mk {n : Int} {P : List (List Int)} {r : List Int} : ∀ {f k : Nat}, (∀ j, k ≤ j → j < k + f → 0 ≤ en r j ∧ en r j < n ∧ en r j ∉ r.take j ∧ metB P j (en r j) = false) → dayE n P r f k = 0
  | 0, k, _ => rfl
  | f + 1, k, h => by
    obtain ⟨h1, h2, h3, h4⟩ := h k (by omega) (by omega)
    unfold metB at h4
    rw [dayE, if_neg (by omega), if_neg (by omega), if_neg h3, if_neg (by simpa using h4)]
    exact dayE_mk fun j g1 g2 => h j (by omega) (by omega)
theorem rowE_mk {n : Nat} {L : List (List Int)} : ∀ {f i : Nat}, (∀ j, i ≤ j → j < i + f → (ro L j).length = n ∧ dayE n (L.take j) (ro L j) (ro L j).length 0 = 0) → rowE n n L f i = 0
  | 0, i, _ => rfl
  | f + 1, i, h => by
    obtain ⟨h1, h2⟩ := h i (by omega) (by omega)
    rw [rowE, if_neg (by omega), if_neg (by omega), if_neg (by rw [h2]; simp)]
    exact rowE_mk fun j g1 g2 => h j (by omega) (by omega)
theorem vp_rows {n : Nat} (hn : n ≤ 5) {X : List (List Nat)} {D : List Nat} (h : Vp n X D) : ∀ j, j < X.length → (ro (X.map nL) j).length = n ∧ dayE n ((X.map nL).take j) (ro (X.map nL) j) (ro (X.map nL) j).length 0 = 0 := by
  induction h with
  | nil => intro j hj; simp at hj
  | snoc X D x h hx hf ih =>
    intro j hj
    rw [List.map_append, List.map_singleton]
    by_cases e : j < X.length
    · have e1 : ro (X.map nL ++ [nL x]) j = ro (X.map nL) j := by
        unfold ro; rw [List.getD, List.getElem?_append_left (by simpa using e)]; rfl
      rw [e1, List.take_append_of_le_length (by simp; omega)]
      exact ih j e
    · have ej : j = (X.map nL).length := by simp at hj ⊢; omega
      have e1 : ro (X.map nL ++ [nL x]) j = nL x := by subst ej; simp [ro]
      have hl := (ext_get hx).1
      have hlt := ext_lt (fun s hs => absurd hs (by simp)) hx
      simp at hl
      rw [e1, List.take_append_of_le_length (by omega), ej, List.take_length, nL_len]
      refine ⟨hl, dayE_mk fun k _ hk => ?_⟩
      have hk' : k < x.length := by omega
      have hd := ext_dis n (by omega) x hx k (by omega)
      have hm := hlt _ (gn_mem hk')
      rw [nL_en hk']
      refine ⟨by omega, by omega, ?_, fitB_get hf k (by omega) (by omega)⟩
      rw [show (nL x).take k = nL (x.take k) by simp [nL], mem_nL]
      exact hd
theorem vp_chk {n : Nat} (hn1 : 1 ≤ n) (hn : n ≤ 5) {X : List (List Nat)} {D : List Nat} (h : Vp n X D) (hX : X.length ≤ n) : chkE n n (X.map nL) = 0 := by
  unfold chkE
  rw [if_neg (by omega), if_neg (by omega), if_neg (by simp; omega)]
  exact rowE_mk fun j _ hj => vp_rows hn h j (by simpa using hj)
theorem vp_len {n : Nat} {X : List (List Nat)} {D : List Nat} (h : Vp n X D) : ∀ q ∈ X.map nL, q.length = n := by
  induction h with
  | nil => intro q hq; simp at hq
  | snoc X D x h hx hf ih =>
    intro q hq
    rw [List.map_append, List.mem_append] at hq
    rcases hq with hq | hq
    · exact ih q hq
    · simp at hq; subst hq
      rw [nL_len]; simpa using (ext_get hx).1
theorem fac_pos : ∀ n : Nat, 1 ≤ fac n
  | 0 => Nat.le_refl 1
  | n + 1 => by rw [fac]; exact Nat.le_trans (fac_pos n) (Nat.le_mul_of_pos_left _ (by omega))
theorem getA7_t {α : Type} {a b c d e f g : PV} {k : PV → PV → PV → PV → PV → PV → PV → Option α} : getA7 (.agg [a, b, c, d, e, f, g]) k = k a b c d e f g := rfl
theorem wr8 : ∀ a : Nat, a < 256 → IntKind.i64.wrap (1 + Int.tmod (IntKind.i64.wrap (a : Int)) 5) = ((1 + a % 5 : Nat) : Int) := by decide +kernel
theorem wr9 : ∀ n : Nat, n < 6 → ∀ b : Nat, b < 256 → Int.tmod (IntKind.i64.wrap (b : Int)) (IntKind.i64.wrap ((n : Int) + 1)) = ((b % (n + 1) : Nat) : Int) := by decide +kernel
theorem wr0 {b m : Nat} (hb : b < 256) : Int.tmod (IntKind.i64.wrap (b : Int)) (m : Int) = ((b % m : Nat) : Int) := by
  have : IntKind.i64.wrap (b : Int) = (b : Int) := by
    cases b with
    | zero => decide
    | succ b => exact wrapN (by omega)
  rw [this]; rfl
def u8s (l : List Nat) : List PV := l.map fun (x : Nat) => PV.int .u8 (x : Int)
theorem u8_gp {l : List Nat} {i : Nat} (h : i < l.length) : gp (u8s l) i = .int .u8 (gn l i : Int) := by simp [u8s, gp, gn, List.getD, h]
theorem made_L (N n : Nat) (hN : 5000 ≤ N) (hn1 : 1 ≤ n) (hn : n ≤ 5) (a b c0 c1 c2 c3 c4 : Nat) (ha : a < 256) (hb : b < 256) (h0 : c0 < 256) (h1 : c1 < 256) (h2 : c2 < 256) (h3 : c3 < 256) (h4 : c4 < 256) (en' : n = 1 + a % 5) : ∀ (f fuel : Nat) (X : List (List Nat)) (D : List Nat), b % (n + 1) - X.length = f → f < fuel → Vp n X D → X.length ≤ b % (n + 1) →
    ∃ X' D', Vp n X' D' ∧ X'.length ≤ n ∧ m37_L0 N 5 (.int .u8 (c0 : Int)) (.int .u8 (c1 : Int)) (.int .u8 (c2 : Int)) (.int .u8 (c3 : Int)) (.int .u8 (c4 : Int)) (a : Int) (b : Int) fuel X.length (X.length : Int) (rwsP (X.map nL)) = some (X'.length, rwsP (X'.map nL))
  | f, 0, _, _, _, h, _, _ => by omega
  | f, fuel + 1, X, D, hf, hfu, hV, hX => by
    have hm : b % (n + 1) < n + 1 := Nat.mod_lt _ (by omega)
    rw [m37_L0, wr8 a ha, ← en', wr9 n (by omega) b hb]
    by_cases h : X.length < b % (n + 1)
    · have hk := fit_many hn hV (by omega)
      have hp := fac_pos (n - X.length)
      have hl := vp_len hV
      have e38 := m38_3_ok N n hN hn1 hn (X.map nL) (by simp; omega) hl
      rw [List.length_map] at e38
      have e : [PV.int .u8 (a : Int), .int .u8 (b : Int), .int .u8 (c0 : Int), .int .u8 (c1 : Int), .int .u8 (c2 : Int), .int .u8 (c3 : Int), .int .u8 (c4 : Int)] = u8s [a, b, c0, c1, c2, c3, c4] := rfl
      have hg : gn [a, b, c0, c1, c2, c3, c4] (2 + X.length) < 256 := by
        have hx : X.length < 5 := by omega
        generalize X.length = j at hx
        match j, hx with
        | 0, _ => exact h0
        | 1, _ => exact h1
        | 2, _ => exact h2
        | 3, _ => exact h3
        | 4, _ => exact h4
      rw [brn_dt (by omega), e38, bnd_t]
      dsimp only
      rw [getL_t, grd_t ⟨by omega, by omega⟩, toNatN, grd_t (by omega), e, u8_gp (by simp; omega)]
      generalize gn [a, b, c0, c1, c2, c3, c4] (2 + X.length) = y at hg
      have hM : (fitn n (X.map nL)).length ≤ 3125 := fitn_le hn _
      have hlt : y % (fitn n (X.map nL)).length < (fitn n (X.map nL)).length := Nat.mod_lt _ (by omega)
      have hmem : (fitn n (X.map nL)).getD (y % (fitn n (X.map nL)).length) [] ∈ fitn n (X.map nL) := by
        rw [List.getD, List.getElem?_eq_getElem hlt]; exact List.getElem_mem hlt
      have e2 : gp (rwsP ((fitn n (X.map nL)).map nL)) (y % (fitn n (X.map nL)).length) = rwP (nL ((fitn n (X.map nL)).getD (y % (fitn n (X.map nL)).length) [])) := by
        rw [rws_gp (by simpa using hlt)]
        unfold ro
        rw [List.getD, List.getElem?_map, List.getD, List.getElem?_eq_getElem hlt]; rfl
      generalize (fitn n (X.map nL)).getD (y % (fitn n (X.map nL)).length) [] = x at hmem e2
      obtain ⟨hx, hf'⟩ := List.mem_filter.1 hmem
      obtain ⟨X', D', g1, g2, g3⟩ := made_L N n hN hn1 hn a b c0 c1 c2 c3 c4 ha hb h0 h1 h2 h3 h4 en' (f - 1) fuel (X ++ [x]) _ (by simp; omega) (by omega) (.snoc X D x hV hx hf') (by simp; omega)
      rw [List.length_append, List.length_singleton, List.map_append, List.map_singleton, ← rws_app] at g3
      rw [getI_t, grd_t (by omega), wr0 hg, grd_t ⟨by omega, by omega⟩, toNatN, grd_t (by rw [List.length_drop, rws_len, List.length_map]; omega), e2]
      unfold rwP at g3 ⊢
      rw [getL_t, grd_t (by omega), grd_t (by rw [rws_len, List.length_map]), wrapN (by omega)]
      exact ⟨X', D', g1, g2, g3⟩
    · rw [brn_df (by omega)]
      exact ⟨X, D, hV, by omega, rfl⟩
theorem made_ok (N : Nat) (hN : 5000 ≤ N) (a b c0 c1 c2 c3 c4 : Nat) (ha : a < 256) (hb : b < 256) (h0 : c0 < 256) (h1 : c1 < 256) (h2 : c2 < 256) (h3 : c3 < 256) (h4 : c4 < 256) : ∃ n X D, 1 ≤ n ∧ n ≤ 5 ∧ Vp n X D ∧ X.length ≤ n ∧ m37 N (.agg [.int .u8 (a : Int), .int .u8 (b : Int), .int .u8 (c0 : Int), .int .u8 (c1 : Int), .int .u8 (c2 : Int), .int .u8 (c3 : Int), .int .u8 (c4 : Int)]) 5 = some (.tup [.int .i64 (n : Int), .lst false X.length (rwsP (X.map nL))]) := by
  have hn : 1 + a % 5 ≤ 5 := by have := Nat.mod_lt a (show 0 < 5 by omega); omega
  have hm : b % (1 + a % 5 + 1) < 1 + a % 5 + 1 := Nat.mod_lt _ (by omega)
  obtain ⟨X, D, g1, g2, g3⟩ := made_L N (1 + a % 5) hN (by omega) hn a b c0 c1 c2 c3 c4 ha hb h0 h1 h2 h3 h4 rfl (b % (1 + a % 5 + 1) - 0) N [] _ rfl (by omega) .nil (by simp)
  refine ⟨1 + a % 5, X, D, by omega, hn, g1, g2, ?_⟩
  rw [m37, getA7_t, getI_t, grd_t (by decide), getI_t, grd_t (by rw [wr8 a ha, wrapN (by omega)]; omega), show m37_L0 N 5 (.int .u8 (c0 : Int)) (.int .u8 (c1 : Int)) (.int .u8 (c2 : Int)) (.int .u8 (c3 : Int)) (.int .u8 (c4 : Int)) (a : Int) (b : Int) N 0 0 [] = _ from g3, bnd_t]
  dsimp only
  rw [grd_t (by rw [rws_len, List.length_map]), wr8 a ha]
def inv (n : Nat) (x : List Nat) : List Nat := (List.range n).map fun s => x.idxOf s
theorem inv_ext : ∀ n : Nat, n < 6 → ∀ x ∈ ext n n [], inv n x ∈ ext n n [] := by decide +kernel
theorem inv_at : ∀ n : Nat, n < 6 → ∀ x ∈ ext n n [], ∀ d : Nat, d < n → gn (inv n x) (gn x d) = d ∧ gn x (gn (inv n x) d) = d ∧ gn (inv n x) d < n := by decide +kernel
theorem inv_len {n : Nat} {x : List Nat} : (inv n x).length = n := by simp [inv]
theorem met_nL (X : List (List Nat)) (k s : Nat) : metB (X.map nL) k (s : Nat) = X.any fun q => decide (k < q.length) && (gn q k == s) := by
  induction X with
  | nil => rfl
  | cons q X ih =>
    unfold metB at ih ⊢
    rw [List.map_cons, List.any_cons, ih, List.any_cons, nL_len]
    congr 1
    by_cases h : k < q.length
    · rw [nL_en h]
      congr 1
      by_cases g : gn q k = s
      · rw [g]; simp
      · rw [beq_eq_false_iff_ne.2 g, beq_eq_false_iff_ne.2 (by omega)]
    · rw [decide_eq_false h]; rfl
theorem fit_iff {n : Nat} {X : List (List Nat)} (hX : ∀ q ∈ X, q.length = n) (x : List Nat) : fitB (X.map nL) x n 0 = true ↔ ∀ q ∈ X, ∀ j, j < n → gn q j ≠ gn x j := by
  constructor
  · intro h q hq j hj e
    have h1 := fitB_get h j (by omega) (by omega)
    rw [met_nL, List.any_eq_false] at h1
    exact h1 q hq (by rw [decide_eq_true (show j < q.length by rw [hX q hq]; exact hj), e]; simp)
  · intro h
    refine fitB_mk fun j _ hj => ?_
    rw [met_nL, List.any_eq_false]
    intro q hq hh
    have hh' : j < q.length ∧ gn q j = gn x j := by simpa using hh
    exact h q hq j (by omega) hh'.2
theorem ext_len {n : Nat} {x : List Nat} (h : x ∈ ext n n []) : x.length = n := by simpa using (ext_get h).1
theorem ext_ltn {n : Nat} {x : List Nat} (h : x ∈ ext n n []) {d : Nat} (hd : d < n) : gn x d < n :=
  ext_lt (fun s hs => absurd hs (by simp)) h _ (gn_mem (by rw [ext_len h]; exact hd))
theorem vp_mem {n : Nat} {X : List (List Nat)} {D : List Nat} (h : Vp n X D) : ∀ q ∈ X, q ∈ ext n n [] := by
  induction h with
  | nil => intro q hq; simp at hq
  | snoc X D x h hx hf ih =>
    intro q hq
    rcases List.mem_append.1 hq with hq | hq
    · exact ih q hq
    · simp at hq; subst hq; exact hx
theorem nd_lt {to i n : Nat} (h : i < to) : (to - (i + 1)) * (n + 1) + n < (to - i) * (n + 1) := by
  obtain ⟨a, rfl⟩ : ∃ a, to = i + 1 + a := ⟨to - (i + 1), by omega⟩
  rw [show i + 1 + a - (i + 1) = a by omega, show i + 1 + a - i = a + 1 by omega, Nat.add_mul, Nat.one_mul]; omega
theorem cmpl_fuel (n to : Nat) : ∀ (f f' i k : Nat) (T : T3), (to - i) * (n + 1) + (n - k) < f → (to - i) * (n + 1) + (n - k) < f' → i ≤ to → k ≤ n → cmpl n to f i k T = cmpl n to f' i k T
  | 0, _, _, _, _, h, _, _, _ => by omega
  | _ + 1, 0, _, _, _, _, h, _, _ => by omega
  | f + 1, f' + 1, i, k, T, h, h', hi, hk => by
    rw [cmpl, cmpl]
    by_cases e : i = to
    · rw [if_pos e, if_pos e]
    · have hh := nd_lt (n := n) (show i < to by omega)
      rw [if_neg e, if_neg e]
      by_cases e2 : k = n
      · rw [if_pos e2, if_pos e2, cmpl_fuel n to f f' (i + 1) 0 T (by omega) (by omega) (by omega) (by omega)]
      · rw [if_neg e2, if_neg e2, cmpl_fuel n to f f' i (k + 1) T (by omega) (by omega) hi (by omega)]
        by_cases e3 : 0 ≤ en T.1 (i * 5 + k)
        · rw [if_pos e3, if_pos e3]
        · rw [if_neg e3, if_neg e3]
          exact fm_congr fun s _ => cmpl_fuel n to f f' i (k + 1) _ (by omega) (by omega) hi (by omega)
theorem cmpl_in {n to f i k : Nat} {T : T3} (h1 : i ≠ to) (h2 : k ≠ n) : cmpl n to (f + 1) i k T = if 0 ≤ en T.1 (i * 5 + k) then cmpl n to f i (k + 1) T else (bits (mayB n (bn T.2.1 i) (bn T.2.2 k))).flatMap fun s => cmpl n to f i (k + 1) (putT T i k s) := by
  rw [cmpl, if_neg h1, if_neg h2]
theorem cmpl_split (n p : Nat) (hp : p < n) : ∀ (f k : Nat) (T : T3), k + f = n → ∀ F F' G, (n - p) * (n + 1) + (n - k) < F → (p + 1 - p) * (n + 1) + (n - k) < F' → (n - (p + 1)) * (n + 1) + n < G →
    cmpl n n F p k T = (cmpl n (p + 1) F' p k T).flatMap fun T' => cmpl n n G (p + 1) 0 T'
  | 0, k, T, hk, F, F', G, hF, hF', hG => by
    obtain ⟨F, rfl⟩ : ∃ x, F = x + 1 := ⟨F - 1, by omega⟩
    obtain ⟨F', rfl⟩ : ∃ x, F' = x + 2 := ⟨F' - 2, by rw [show p + 1 - p = 1 by omega] at hF'; omega⟩
    have hh := nd_lt (n := n) hp
    rw [cmpl, if_neg (by omega), if_pos (by omega), cmpl, if_neg (by omega), if_pos (by omega), cmpl, if_pos rfl, List.flatMap_singleton]
    exact cmpl_fuel n n F G (p + 1) 0 T (by omega) (by omega) (by omega) (by omega)
  | f + 1, k, T, hk, F, F', G, hF, hF', hG => by
    obtain ⟨F, rfl⟩ : ∃ x, F = x + 1 := ⟨F - 1, by omega⟩
    obtain ⟨F', rfl⟩ : ∃ x, F' = x + 1 := ⟨F' - 1, by omega⟩
    have ih := fun T => cmpl_split n p hp f (k + 1) T (by omega) F F' G (by omega) (by omega) hG
    rw [cmpl_in (by omega) (by omega), cmpl_in (by omega) (by omega)]
    by_cases e3 : 0 ≤ en T.1 (p * 5 + k)
    · rw [if_pos e3, if_pos e3, ih]
    · rw [if_neg e3, if_neg e3, List.flatMap_assoc]
      exact fm_congr fun s _ => ih _
theorem row_mem (n : Nat) (hn : n ≤ 5) (P : List (List Int)) (p : Nat) (hp : p < n) (hP : P.length = p) : ∀ (f : Nat) (l : List Nat) (T : T3) (F : Nat), l.length + f = n → Rp P p (nL l) l.length T → f + 2 ≤ F → ∀ T' ∈ cmpl n (p + 1) F p l.length T, ∃ x : List Nat, x.length = n ∧ rowOf n p T' = nL x ∧ ∀ r', Rp (P ++ [nL x]) (p + 1) r' 0 T'
  | 0, l, T, F, hl, hT, hF => by
    obtain ⟨F, rfl⟩ : ∃ G, F = G + 2 := ⟨F - 2, by omega⟩
    rw [cmpl, if_neg (by omega), if_pos (by omega), cmpl, if_pos rfl]
    intro T' hm
    obtain rfl := List.mem_singleton.1 hm
    have h2 := hT
    rw [show l.length = (nL l).length from (nL_len l).symm] at h2
    refine ⟨l, by omega, ?_, fun r' => h2.next hP (by rw [nL_len]; omega) r'⟩
    exact rowOf_eq hn (by omega) hT.tv (by rw [nL_len]; omega) fun d hd => by
      rw [hT.a p d (by omega) (by omega), if_neg (by omega), if_pos ⟨rfl, by omega⟩]
  | f + 1, l, T, F, hl, hT, hF => by
    obtain ⟨F, rfl⟩ : ∃ G, F = G + 1 := ⟨F - 1, by omega⟩
    have ha : en T.1 (p * 5 + l.length) = -1 := by
      rw [hT.a p l.length (by omega) (by omega), if_neg (by omega), if_neg (by omega)]
    rw [cmpl, if_neg (by omega), if_neg (by omega), if_neg (by omega)]
    intro T' hm
    obtain ⟨s, hs, hm⟩ := List.mem_flatMap.1 hm
    have h5 := (mem_bits.1 hs).1
    have hl1 : (l ++ [s]).length = l.length + 1 := by simp
    have hR : Rp P p (nL (l ++ [s])) l.length T := hT.congr (by rw [show nL (l ++ [s]) = nL l ++ [(s : Int)] by simp [nL], List.take_append_of_le_length (by rw [nL_len]; omega)]) fun d hd => by rw [nL_en hd, nL_en (by omega), gn_app1 hd]
    have hR2 := hR.put (by omega) (by omega) (by rw [nL_len]; omega) h5 (by rw [nL_en (by omega), gn_app2])
    rw [← hl1] at hR2 hm
    exact row_mem n hn P p hp hP f (l ++ [s]) _ F (by omega) hR2 (by omega) T' hm
def gre (n : Nat) : Nat → List (List Nat) → List (List Nat)
  | 0, X => X
  | m + 1, X => gre n m (X ++ [(fitn n (X.map nL)).headD []])
theorem gre_len (n : Nat) : ∀ (m : Nat) (X : List (List Nat)), (gre n m X).length = X.length + m
  | 0, X => rfl
  | m + 1, X => by rw [gre, gre_len n m]; simp; omega
theorem vp_head {n : Nat} (hn1 : 1 ≤ n) (hn : n ≤ 5) {X : List (List Nat)} {D : List Nat} (h : Vp n X D) (hX : X.length < n) : ∃ y l, fitn n (X.map nL) = y :: l ∧ Vp n (X ++ [y]) (stp D y) ∧ y.length = n := by
  obtain ⟨y, l, e⟩ := fit_cons hn (vp_chk hn1 hn h (by omega)) (by simpa using hX)
  have hm : y ∈ fitn n (X.map nL) := by rw [e]; exact .head _
  obtain ⟨h1, h2⟩ := List.mem_filter.1 hm
  exact ⟨y, l, e, .snoc X D y h h1 h2, by simpa using (ext_get h1).1⟩
theorem gre_vp {n : Nat} (hn1 : 1 ≤ n) (hn : n ≤ 5) : ∀ (m : Nat) {X : List (List Nat)} {D : List Nat}, Vp n X D → X.length + m = n → ∃ D', Vp n (gre n m X) D'
  | 0, X, D, h, _ => ⟨D, h⟩
  | m + 1, X, D, h, hm => by
    obtain ⟨y, l, e, h2, _⟩ := vp_head hn1 hn h (by omega)
    rw [gre, e]
    exact gre_vp hn1 hn m h2 (by simp; omega)
theorem full_hd {n : Nat} (hn1 : 1 ≤ n) (hn : n ≤ 5) : ∀ (m : Nat) (X : List (List Nat)) (D : List Nat) (T : T3), Vp n X D → X.length + m = n → (∀ r', Rp (X.map nL) X.length r' 0 T) → ∀ F, (n - X.length) * (n + 1) + n < F →
    ∃ T1 l, cmpl n n F X.length 0 T = T1 :: l ∧ ∀ r', Rp ((gre n m X).map nL) n r' 0 T1
  | 0, X, D, T, h, hm, hT, F, hF => by
    obtain ⟨F, rfl⟩ : ∃ x, F = x + 1 := ⟨F - 1, by omega⟩
    rw [cmpl, if_pos (by omega)]
    exact ⟨T, [], rfl, by rw [show X.length = n by omega] at hT; exact hT⟩
  | m + 1, X, D, T, h, hm, hT, F, hF => by
    obtain ⟨y, l, e, h2, hy⟩ := vp_head hn1 hn h (by omega)
    have hl : (X.map nL).length = X.length := List.length_map ..
    have hr := row_fit hn (L := X.map nL) (by omega) (T := T) (by rw [hl]; exact hT) (n + n + 4) (by omega)
    rw [hl, e] at hr
    cases ec : cmpl n (X.length + 1) (n + n + 4) X.length 0 T with
    | nil => rw [ec] at hr; simp at hr
    | cons T' R =>
      rw [ec] at hr
      have hr1 : rowOf n X.length T' = nL y := by
        simp only [List.map_cons, List.cons.injEq] at hr; exact hr.1
      obtain ⟨x, x1, x2, x3⟩ := row_mem n hn (X.map nL) X.length (by omega) hl n [] T (n + n + 4) (by simp) (hT _) (by omega) T' (by rw [show ([] : List Nat).length = 0 from rfl, ec]; exact .head _)
      rw [← x2, hr1] at x3
      rw [gre, e]
      have hl1 : (X ++ [y]).length = X.length + 1 := by simp
      obtain ⟨T1, l1, g1, g2⟩ := full_hd hn1 hn m (X ++ [y]) _ T' h2 (by omega) (by rw [hl1, List.map_append, List.map_singleton]; exact x3) ((n - (X.length + 1)) * (n + 1) + n + 1) (by rw [hl1]; omega)
      rw [hl1] at g1
      rw [cmpl_split n X.length (by omega) n 0 T (by omega) F (n + n + 4) ((n - (X.length + 1)) * (n + 1) + n + 1) (by omega) (by rw [show X.length + 1 - X.length = 1 by omega]; omega) (by omega), ec, List.flatMap_cons, g1]
      exact ⟨T1, _, rfl, g2⟩
theorem full_rows {n : Nat} (hn : n ≤ 5) {L : List (List Int)} (hL : L.length = n) (hl : ∀ q ∈ L, q.length = n) {T : T3} (hT : ∀ r', Rp L n r' 0 T) : rowsE n T.1 = L := by
  have h := hT []
  unfold rowsE
  refine List.ext_getElem (by simp [hL]) fun i h1 h2 => ?_
  have hi : i < n := by simpa using h1
  have e : L[i] = ro L i := by simp [ro, List.getD, h2]
  rw [List.getElem_map, List.getElem_range, e]
  have hq := hl _ (ro_mem h2)
  exact rowOf_eq hn (by omega) h.tv hq fun d hd => by
    rw [h.a i d (by omega) (by omega), if_pos hi, if_pos (by omega)]
structure Rq (P : List (List Int)) (i : Nat) (r : List Int) (k : Nat) (T : T3) : Prop extends Rp P i r k T where
  bp : ∀ j s, j < i → j < 5 → s < 5 → ((bn T.2.1 j).testBit s = true ↔ (s : Int) ∈ ro P j)
theorem Rq.putq {P : List (List Int)} {i : Nat} {r : List Int} {k : Nat} {T : T3} (h : Rq P i r k T) (hi : i < 5) (hk : k < 5) (hr : k < r.length) {s : Nat} (hs : s < 5) (he : en r k = (s : Int)) : Rq P i r (k + 1) (putT T i k s) := by
  have lb := h.tv.tb.lb
  refine ⟨h.toRp.put hi hk hr hs he, fun j t hj h5 ht => ?_⟩
  show (bn (T.2.1.set i (bn T.2.1 i ||| 2 ^ s)) j).testBit t = true ↔ _
  rw [bn_set (by omega), if_neg (by omega)]; exact h.bp j t hj h5 ht
theorem Rq.nextq {P : List (List Int)} {i : Nat} {r : List Int} {T : T3} (h : Rq P i r r.length T) (hi : P.length = i) (hr : r.length ≤ 5) (r' : List Int) : Rq (P ++ [r]) (i + 1) r' 0 T := by
  refine ⟨h.toRp.next hi hr r', fun j s hj h5 hs => ?_⟩
  by_cases e : j = i
  · have e1 : ro (P ++ [r]) j = r := by subst e; rw [← hi]; simp [ro, List.getD]
    rw [e1, e, h.b s hs, List.take_length]
  · have e1 : ro (P ++ [r]) j = ro P j := by simp [ro, List.getD, List.getElem?_append_left (show j < P.length by omega)]
    rw [e1]; exact h.bp j s (by omega) h5 hs
theorem open3_L1 (N n : Nat) (hn : n ≤ 5) (w : Int) (L : List (List Int)) (P : List (List Int)) (r : List Int) (i : Nat) (hi : i < 5) (hr : r.length ≤ 5) : ∀ (f k fuel : Nat) (T : T3), r.length - k = f → f < fuel → k ≤ r.length → Rq P i r k T →
    ∃ T', m61_L1 N (n : Int) w L.length (rwsP L) (i : Int) r.length (iL r) fuel (k : Int) (tP n T) = some (outR n (dayE n P r f k) T') ∧ (dayE n P r f k = 0 → Rq P i r r.length T')
  | f, k, 0, _, _, h, _, _ => by omega
  | 0, k, fuel + 1, T, hf, _, hk, hT => by
    have : k = r.length := by omega
    subst this
    refine ⟨T, ?_, fun _ => hT⟩
    rw [m61_L1, brn_df (by omega)]; rfl
  | f + 1, k, fuel + 1, T, hf, hfu, hk, hT => by
    have hl := tbl_len (n := n) hT.tv.tb
    have h1 : k < r.length := by omega
    rw [m61_L1, brn_dt (by omega), dayE]
    rw [grd_t (p := 0 ≤ (k : Int) ∧ (k : Int) < ((r.length : Nat) : Int)) ⟨by omega, by omega⟩, grd_t (p := 0 < List.length (List.drop (Int.toNat (k : Int)) (iL r))) (by rw [List.length_drop, iL_len, toNatN]; omega), gI_n h1]
    by_cases h2 : en r k < 0
    · rw [brn_dt h2, if_pos h2]; exact ⟨T, rfl, fun h => by cases h⟩
    · rw [brn_df h2, if_neg h2]
      by_cases h3 : (n : Int) ≤ en r k
      · rw [brn_dt (by omega), if_pos h3]; exact ⟨T, rfl, fun h => by cases h⟩
      · obtain ⟨s, hs⟩ : ∃ s : Nat, en r k = (s : Int) := ⟨(en r k).toNat, by omega⟩
        have s5 : s < 5 := by omega
        rw [brn_df (by omega), if_neg h3, hs, toNatN, toNatN, toNatN, grd_t (by omega), grd_t (by unfold tP; omega)]
        rw [show gp (tP n T) (26 + i) = .int .u64 (bn T.2.1 i : Int) from gp_b hT.tv.tb hi, getU_t, grd_t (by omega), b_tst _ (hT.tv.tb.b32 i hi) s s5]
        by_cases h4 : (s : Int) ∈ r.take k
        · rw [brn_t ((hT.b s s5).2 h4), if_pos h4]; exact ⟨T, rfl, fun h => by cases h⟩
        · rw [brn_f (by rw [Bool.eq_false_iff]; intro h; exact h4 ((hT.b s s5).1 h)), if_neg h4, grd_t (by omega), grd_t (by unfold tP; omega)]
          rw [show gp (tP n T) (31 + k) = .int .u64 (bn T.2.2 k : Int) from gp_d hT.tv.tb (by omega), getU_t, b_tst _ (hT.tv.tb.d32 k (by omega)) s s5]
          have hd : (bn T.2.2 k).testBit s = P.any (fun q => decide (k < q.length) && (en q k == (s : Int))) := by
            rw [Bool.eq_iff_iff, hT.d k s (by omega) s5, List.any_eq_true]
            constructor
            · rintro (⟨q, hq, h5, h6⟩ | h5)
              · exact ⟨q, hq, by simp [h5, h6]⟩
              · omega
            · rintro ⟨q, hq, h5⟩
              simp only [Bool.and_eq_true, decide_eq_true_eq, beq_iff_eq] at h5
              exact .inl ⟨q, hq, h5⟩
          rw [hd]
          cases h5 : P.any (fun q => decide (k < q.length) && (en q k == (s : Int))) with
          | true => rw [brn_t rfl, if_pos rfl]; exact ⟨T, rfl, fun h => by cases h⟩
          | false =>
            rw [brn_f rfl, if_neg (by simp)]
            obtain ⟨T', e1, e2⟩ := open3_L1 N n hn w L P r i hi hr f (k + 1) fuel (putT T i k s) (by omega) (by omega) (by omega) (hT.putq hi (by omega) h1 s5 hs)
            refine ⟨T', ?_, e2⟩
            rw [show m72 N (i : Int) (k : Int) (s : Int) (tP n T) = _ from put_ok N n hT.tv.tb hi (by omega) s5, bnd_t]
            show getT0 (.tup []) _ = _
            rw [getT0_t, wrapN (by omega)]
            exact e1
theorem open3_L0 (N n : Nat) (hN : 2000 ≤ N) (hn : n ≤ 5) (w : Int) (L : List (List Int)) (hL : L.length ≤ n) (hr20 : ∀ r ∈ L, r.length ≤ 1000) : ∀ (f i fuel : Nat) (T : T3), L.length - i = f → f < fuel → i ≤ L.length → (∀ r', Rq (L.take i) i r' 0 T) →
    ∃ T', m61_L0 N (n : Int) w L.length (rwsP L) fuel (i : Int) (tP n T) = some (outR n (rowE n w L f i) T') ∧ (rowE n w L f i = 0 → ∀ r', Rq L L.length r' 0 T')
  | f, i, 0, _, _, h, _, _ => by omega
  | 0, i, fuel + 1, T, hf, _, hi, hT => by
    have : i = L.length := by omega
    subst this
    refine ⟨T, ?_, fun _ r' => by have := hT r'; rwa [List.take_length] at this⟩
    rw [m61_L0, brn_df (by omega)]; rfl
  | f + 1, i, fuel + 1, T, hf, hfu, hi, hT => by
    have h1 : i < L.length := by omega
    have hrl := hr20 _ (ro_mem h1)
    rw [m61_L0, brn_dt (by omega), rowE]
    simp (disch := (try simp only [List.length_drop, iL_len, rws_len, toNatN]) <;> omega) only [↓grd_t, ↓gL_n]
    by_cases h2 : ((ro L i).length : Int) = w
    · rw [brn_nf h2, if_neg (by simpa using h2)]
      by_cases h3 : (n : Int) < w
      · rw [brn_dt (by omega), if_pos h3]; exact ⟨T, rfl, fun h => by cases h⟩
      · rw [brn_df (by omega), if_neg h3]
        obtain ⟨T', e1, e2⟩ := open3_L1 N n hn w L (L.take i) (ro L i) i (by omega) (by omega) (ro L i).length 0 N T (by omega) (by omega) (by omega) (hT _)
        rw [show m61_L1 N (n : Int) w L.length (rwsP L) (i : Int) (ro L i).length (iL (ro L i)) N 0 (tP n T) = _ from e1, bnd_t]
        by_cases h4 : dayE n (L.take i) (ro L i) (ro L i).length 0 = 0
        · rw [if_neg (by simpa using h4), wrapN (by omega)]
          unfold outR
          rw [if_pos h4]
          have h5 := (e2 h4).nextq (by rw [List.length_take]; omega) (by omega)
          rw [← take_ro h1] at h5
          exact open3_L0 N n hN hn w L hL hr20 f (i + 1) fuel T' (by omega) (by omega) (by omega) h5
        · unfold outR
          simp only [if_neg h4, if_pos (show dayE (n : Int) (L.take i) (ro L i) (ro L i).length 0 ≠ 0 from h4)]
          exact ⟨T, by trivial, fun h => absurd h h4⟩
    · rw [brn_nt h2, if_pos h2]; exact ⟨T, rfl, fun h => by cases h⟩
theorem opened3_ok (N : Nat) (hN : 2000 ≤ N) (x w : Int) (L : List (List Int)) (hL : L.length ≤ 1000) (hr : ∀ r ∈ L, r.length ≤ 1000) :
    ∃ T, m61 N x (.lst false L.length (rwsP L)) w = some (opE x.toNat (chkE x w L) T) ∧ (chkE x w L = 0 → ∀ r', Rq L L.length r' 0 T) := by
  rw [m61, getL_t]
  unfold chkE
  by_cases h1 : x < 1
  · rw [brn_dt h1, if_pos h1]; exact ⟨T0, rfl, fun h => by cases h⟩
  · rw [brn_df h1, if_neg h1]
    by_cases h2 : 5 < x
    · rw [brn_dt (by omega), if_pos h2]; exact ⟨T0, rfl, fun h => by cases h⟩
    · rw [brn_df (by omega), if_neg h2]
      by_cases h3 : x < (L.length : Int)
      · rw [brn_dt (by omega), if_pos h3]; exact ⟨T0, rfl, fun h => by cases h⟩
      · obtain ⟨n, rfl⟩ : ∃ n : Nat, x = (n : Int) := ⟨x.toNat, by omega⟩
        rw [brn_df (by omega), if_neg h3, begun_ok N n hN, bnd_t]
        obtain ⟨T, e1, e2⟩ := open3_L0 N n hN (by omega) w L (by omega) hr L.length 0 N T0 (by omega) (by omega) (by omega) (fun r' => by rw [List.take_zero]; exact ⟨T0_rp r', fun j s hj => by omega⟩)
        refine ⟨T, ?_, e2⟩
        show bnd' (m61_L0 N (n : Int) w L.length (rwsP L) N 0 (tP n T0)) _ = _
        rw [show m61_L0 N (n : Int) w L.length (rwsP L) N 0 (tP n T0) = _ from e1, bnd_t, toNatN]
        unfold outR opE
        by_cases h4 : rowE (n : Int) w L L.length 0 = 0
        · simp only [if_pos h4]
        · simp only [if_neg h4]
structure Rc (P : List (List Int)) (i : Nat) (r : List Int) (k : Nat) (Q : List (List Int)) (T : T3) : Prop where
  tv : Tv T
  b : ∀ s, s < 5 → ((bn T.2.1 i).testBit s = true ↔ (s : Int) ∈ r.take k)
  bq : ∀ j s, j < 5 → i < j → s < 5 → ((bn T.2.1 j).testBit s = true ↔ (s : Int) ∈ ro Q (j - (i + 1)))
  d : ∀ d s, d < 5 → s < 5 → ((bn T.2.2 d).testBit s = true ↔ (∃ q ∈ P ++ Q, d < q.length ∧ en q d = (s : Int)) ∨ (d < k ∧ en r d = (s : Int)))
  ap : ∀ j d, j < i → j < 5 → d < 5 → en T.1 (j * 5 + d) = if d < (ro P j).length then en (ro P j) d else -1
  ai : ∀ d, i < 5 → d < 5 → en T.1 (i * 5 + d) = if d < k then en r d else -1
  aq : ∀ j d, i < j → j < 5 → d < 5 → en T.1 (j * 5 + d) = if d < (ro Q (j - (i + 1))).length then en (ro Q (j - (i + 1))) d else -1
theorem Rc.put {P Q : List (List Int)} {i : Nat} {r : List Int} {k : Nat} {T : T3} (h : Rc P i r k Q T) (hi : i < 5) (hk : k < 5) (hr : k < r.length) {s : Nat} (hs : s < 5) (he : en r k = (s : Int)) : Rc P i r (k + 1) Q (putT T i k s) := by
  have la := h.tv.tb.la; have lb := h.tv.tb.lb; have ld := h.tv.tb.ld
  have hset : ∀ j d, d < 5 → j * 5 + d ≠ i * 5 + k → en (putT T i k s).1 (j * 5 + d) = en T.1 (j * 5 + d) := fun j d hd hx => by
    show en (T.1.set (i * 5 + k) (s : Int)) (j * 5 + d) = _
    rw [en_set (by omega), if_neg hx]
  refine ⟨h.tv.put hi hk hs, fun t ht => ?_, fun j t h5 hj ht => ?_, fun d t hd ht => ?_, fun j d hj h5 hd => ?_, fun d h5 hd => ?_, fun j d hj h5 hd => ?_⟩
  · show (bn (T.2.1.set i (bn T.2.1 i ||| 2 ^ s)) i).testBit t = true ↔ _
    rw [bn_set (by omega), if_pos rfl, tst_or _ (h.tv.tb.b32 i hi) s hs t ht, Bool.or_eq_true, h.b t ht, decide_eq_true_eq, take_en hr, List.mem_append, List.mem_singleton, he]
    constructor
    · rintro (h1 | rfl)
      · exact .inl h1
      · exact .inr rfl
    · rintro (h1 | h1)
      · exact .inl h1
      · exact .inr (by omega)
  · show (bn (T.2.1.set i (bn T.2.1 i ||| 2 ^ s)) j).testBit t = true ↔ _
    rw [bn_set (by omega), if_neg (by omega)]; exact h.bq j t h5 hj ht
  · show (bn (T.2.2.set k (bn T.2.2 k ||| 2 ^ s)) d).testBit t = true ↔ _
    rw [bn_set (by omega)]
    by_cases hdk : d = k
    · subst hdk
      rw [if_pos rfl, tst_or _ (h.tv.tb.d32 d hd) s hs t ht, Bool.or_eq_true, h.d d t hd ht, decide_eq_true_eq, he]
      constructor
      · rintro ((h1 | h1) | rfl)
        · exact .inl h1
        · omega
        · exact .inr ⟨by omega, rfl⟩
      · rintro (h1 | h1)
        · exact .inl (.inl h1)
        · exact .inr (by omega)
    · rw [if_neg hdk, h.d d t hd ht]
      constructor
      · rintro (h1 | h1)
        · exact .inl h1
        · exact .inr ⟨by omega, h1.2⟩
      · rintro (h1 | h1)
        · exact .inl h1
        · exact .inr ⟨by omega, h1.2⟩
  · rw [hset j d hd (by omega)]; exact h.ap j d hj h5 hd
  · by_cases e : d = k
    · subst e
      show en (T.1.set (i * 5 + d) (s : Int)) (i * 5 + d) = _
      rw [en_set (by omega), if_pos rfl, if_pos (by omega), he]
    · rw [hset i d hd (by omega), h.ai d h5 hd]
      by_cases h2 : d < k
      · rw [if_pos h2, if_pos (by omega)]
      · rw [if_neg h2, if_neg (by omega)]
  · rw [hset j d hd (by omega)]; exact h.aq j d hj h5 hd
theorem ro_tail {Q : List (List Int)} {j : Nat} : ro Q.tail j = ro Q (j + 1) := by cases Q <;> simp [ro, List.getD]
theorem ro_nil {j : Nat} : ro [] j = [] := by simp [ro, List.getD]
theorem Rc.next {P Q : List (List Int)} {i : Nat} {r : List Int} {T : T3} (h : Rc P i r r.length Q T) (hi : P.length = i) (hQ : i + 1 + Q.length ≤ 5) : Rc (P ++ [r]) (i + 1) (ro Q 0) (ro Q 0).length Q.tail T := by
  refine ⟨h.tv, fun s hs => ?_, fun j s h5 hj hs => ?_, fun d s hd hs => ?_, fun j d hj h5 hd => ?_, fun d h5 hd => ?_, fun j d hj h5 hd => ?_⟩
  · rw [List.take_length]
    by_cases h5 : i + 1 < 5
    · rw [h.bq (i + 1) s h5 (by omega) hs, Nat.sub_self]
    · have : bn T.2.1 (i + 1) = 0 := by
        have := h.tv.tb.lb
        unfold bn; rw [List.getD, List.getElem?_eq_none (by omega)]; rfl
      have hq : Q = [] := List.eq_nil_of_length_eq_zero (by omega)
      rw [this, hq, ro_nil]; simp
  · rw [h.bq j s h5 (by omega) hs, ro_tail, show j - (i + 1 + 1) + 1 = j - (i + 1) by omega]
  · rw [h.d d s hd hs]
    have key : (∃ q ∈ P ++ Q, d < q.length ∧ en q d = (s : Int)) ↔ (∃ q ∈ P ++ Q.tail, d < q.length ∧ en q d = (s : Int)) ∨ (d < (ro Q 0).length ∧ en (ro Q 0) d = (s : Int)) := by
      cases Q with
      | nil => simp [ro, List.getD]
      | cons a Q =>
        simp only [List.tail_cons, List.mem_append, List.mem_cons, show ro (a :: Q) 0 = a from rfl]
        constructor
        · rintro ⟨q, hq | rfl | hq, h1⟩
          · exact .inl ⟨q, .inl hq, h1⟩
          · exact .inr h1
          · exact .inl ⟨q, .inr hq, h1⟩
        · rintro (⟨q, hq | hq, h1⟩ | h1)
          · exact ⟨q, .inl hq, h1⟩
          · exact ⟨q, .inr (.inr hq), h1⟩
          · exact ⟨a, .inr (.inl rfl), h1⟩
    have key2 : (∃ q ∈ P ++ [r] ++ Q.tail, d < q.length ∧ en q d = (s : Int)) ↔ (∃ q ∈ P ++ Q.tail, d < q.length ∧ en q d = (s : Int)) ∨ (d < r.length ∧ en r d = (s : Int)) := by
      simp only [List.mem_append, List.mem_singleton]
      constructor
      · rintro ⟨q, (hq | rfl) | hq, h1⟩
        · exact .inl ⟨q, .inl hq, h1⟩
        · exact .inr h1
        · exact .inl ⟨q, .inr hq, h1⟩
      · rintro (⟨q, hq | hq, h1⟩ | h1)
        · exact ⟨q, .inl (.inl hq), h1⟩
        · exact ⟨q, .inr hq, h1⟩
        · exact ⟨r, .inl (.inr rfl), h1⟩
    rw [key, key2]
    constructor
    · rintro ((h1 | h1) | h1)
      · exact .inl (.inl h1)
      · exact .inr h1
      · exact .inl (.inr h1)
    · rintro ((h1 | h1) | h1)
      · exact .inl (.inl h1)
      · exact .inr h1
      · exact .inl (.inr h1)
  · by_cases e : j = i
    · have e1 : ro (P ++ [r]) j = r := by subst e; rw [← hi]; simp [ro, List.getD]
      rw [e1, e]; exact h.ai d (by omega) hd
    · have e1 : ro (P ++ [r]) j = ro P j := by simp [ro, List.getD, List.getElem?_append_left (show j < P.length by omega)]
      rw [e1]; exact h.ap j d (by omega) h5 hd
  · have := h.aq (i + 1) d (by omega) h5 hd
    rw [Nat.sub_self] at this; exact this
  · rw [h.aq j d (by omega) h5 hd, ro_tail, show j - (i + 1 + 1) + 1 = j - (i + 1) by omega]
theorem Rc.congr {P Q : List (List Int)} {i k : Nat} {r r' : List Int} {T : T3} (h : Rc P i r k Q T) (h1 : r.take k = r'.take k) (h2 : ∀ d, d < k → en r d = en r' d) : Rc P i r' k Q T := by
  refine ⟨h.tv, fun s hs => by rw [← h1]; exact h.b s hs, h.bq, fun d s hd hs => ?_, h.ap, fun d h5 hd => ?_, h.aq⟩
  · rw [h.d d s hd hs]
    constructor
    · rintro (h3 | h3)
      · exact .inl h3
      · exact .inr ⟨h3.1, by rw [← h2 d h3.1]; exact h3.2⟩
    · rintro (h3 | h3)
      · exact .inl h3
      · exact .inr ⟨h3.1, by rw [h2 d h3.1]; exact h3.2⟩
  · rw [h.ai d h5 hd]
    by_cases h3 : d < k
    · rw [if_pos h3, if_pos h3, h2 d h3]
    · rw [if_neg h3, if_neg h3]
theorem Rp.rc {P : List (List Int)} {i : Nat} {T : T3} (h : Rp P i [] 0 T) : Rc P i [] 0 [] T := by
  refine ⟨h.tv, fun s hs => h.b s hs, fun j s h5 hj hs => ?_, fun d s hd hs => by rw [List.append_nil]; exact h.d d s hd hs, fun j d hj h5 hd => ?_, fun d h5 hd => ?_, fun j d hj h5 hd => ?_⟩
  · rw [h.bz j hj h5, ro_nil]; simp
  · rw [h.a j d h5 hd, if_pos hj]
  · rw [h.a i d h5 hd, if_neg (by omega), if_neg (by omega), if_neg (by omega)]
  · rw [h.a j d h5 hd, if_neg (by omega), if_neg (by omega), ro_nil]; rfl
theorem Rc.rp {P : List (List Int)} {i : Nat} {T : T3} (h : Rc P i [] 0 [] T) (r : List Int) : Rp P i r 0 T := by
  refine ⟨h.tv, fun s hs => by rw [h.b s hs, List.take_zero, List.take_zero], fun j hj h5 => ?_, fun d s hd hs => ?_, fun j d h5 hd => ?_⟩
  · have hb := h.tv.tb.b32 j h5
    have : bits (bn T.2.1 j) = [] := by
      rw [List.eq_nil_iff_forall_not_mem]
      intro s hs
      obtain ⟨h1, h2⟩ := mem_bits.1 hs
      have := (h.bq j s h5 hj h1).1 h2
      rw [ro_nil] at this; simp at this
    by_cases e : bn T.2.1 j = 0
    · exact e
    · have := (bits_step _ hb e).1
      rw [‹bits (bn T.2.1 j) = []›] at this; simp at this
  · rw [h.d d s hd hs, List.append_nil]
    constructor
    · rintro (h1 | h1)
      · exact .inl h1
      · omega
    · rintro (h1 | h1)
      · exact .inl h1
      · omega
  · by_cases h1 : j < i
    · rw [if_pos h1]; exact h.ap j d h1 h5 hd
    · rw [if_neg h1, if_neg (by omega)]
      by_cases h2 : j = i
      · subst h2; rw [h.ai d h5 hd, if_neg (by omega)]
      · rw [h.aq j d (by omega) h5 hd, ro_nil]; rfl
theorem Rq.rc {C : List (List Int)} {T : T3} (h : Rq C C.length [] 0 T) (hC : C.length ≤ 5) : Rc [] 0 (ro C 0) (ro C 0).length C.tail T := by
  have hro : ∀ j, C.length ≤ j → ro C j = [] := fun j hj => by unfold ro; rw [List.getD, List.getElem?_eq_none hj]; rfl
  have hb : ∀ j s, j < 5 → s < 5 → ((bn T.2.1 j).testBit s = true ↔ (s : Int) ∈ ro C j) := fun j s h5 hs => by
    by_cases h1 : j < C.length
    · exact h.bp j s h1 h5 hs
    · rw [hro j (by omega)]
      by_cases h2 : j = C.length
      · rw [h2, h.b s hs]; simp
      · rw [h.bz j (by omega) h5]; simp
  have ha : ∀ j d, j < 5 → d < 5 → en T.1 (j * 5 + d) = if d < (ro C j).length then en (ro C j) d else -1 := fun j d h5 hd => by
    rw [h.a j d h5 hd]
    by_cases h1 : j < C.length
    · rw [if_pos h1]
    · rw [if_neg h1, if_neg (by omega), hro j (by omega)]; rfl
  refine ⟨h.tv, fun s hs => ?_, fun j s h5 hj hs => ?_, fun d s hd hs => ?_, fun j d hj => by omega, fun d h5 hd => ?_, fun j d hj h5 hd => ?_⟩
  · rw [List.take_length]; exact hb 0 s (by omega) hs
  · rw [ro_tail, show j - (0 + 1) + 1 = j by omega]; exact hb j s h5 hs
  · rw [h.d d s hd hs, List.nil_append]
    cases C with
    | nil => simp [ro, List.getD]
    | cons a C =>
      simp only [List.tail_cons, List.mem_cons, show ro (a :: C) 0 = a from rfl]
      constructor
      · rintro (⟨q, rfl | hq, h1⟩ | h1)
        · exact .inr h1
        · exact .inl ⟨q, hq, h1⟩
        · omega
      · rintro (⟨q, hq, h1⟩ | h1)
        · exact .inl ⟨q, .inr hq, h1⟩
        · exact .inl ⟨a, .inl rfl, h1⟩
  · have := ha 0 d (by omega) hd; exact this
  · rw [ro_tail, show j - (0 + 1) + 1 = j by omega]; exact ha j d h5 hd
def fitl (n : Nat) (P : List (List Int)) (l : List Nat) : List (List Nat) := (ext n (n - l.length) l).filter fun x => fitB P x (n - l.length) l.length
theorem row_cmplC (n : Nat) (hn : n ≤ 5) (P Q : List (List Int)) (p : Nat) (hp : p < n) : ∀ (f : Nat) (l : List Nat) (T : T3) (F : Nat), l.length + f = n → (∀ s ∈ l, s < n) → Rc P p (nL l) l.length Q T → f + 2 ≤ F →
    (cmpl n (p + 1) F p l.length T).map (rowOf n p) = ((ext n f l).filter fun x => fitB (P ++ Q) x f l.length).map nL
  | 0, l, T, F, hl, hs, hT, hF => by
    obtain ⟨F, rfl⟩ : ∃ G, F = G + 2 := ⟨F - 2, by omega⟩
    rw [cmpl, if_neg (by omega), if_pos (by omega), cmpl, if_pos rfl]
    have : rowOf n p T = nL l := rowOf_eq hn (by omega) hT.tv (by rw [nL_len]; omega) fun d hd => by
      rw [hT.ai d (by omega) (by omega), if_pos (by omega)]
    simp [ext, fitB, this]
  | f + 1, l, T, F, hl, hs, hT, hF => by
    obtain ⟨F, rfl⟩ : ∃ G, F = G + 1 := ⟨F - 1, by omega⟩
    have ha : en T.1 (p * 5 + l.length) = -1 := by
      rw [hT.ai l.length (by omega) (by omega), if_neg (by omega)]
    rw [cmpl, if_neg (by omega), if_neg (by omega), if_neg (by omega), ext]
    unfold bits
    rw [fm_filter, List.map_flatMap, filter_fm, List.map_flatMap]
    have hz : ∀ s, s < 5 → (mayB n (bn T.2.1 p) (bn T.2.2 l.length)).testBit s = (decide (s < n) && !decide (s ∈ l) && !metB (P ++ Q) l.length (s : Nat)) := fun s h5 => by
      rw [may_tst (by omega) (hT.tv.tb.b32 p (by omega)) (hT.tv.tb.d32 l.length (by omega)) h5]
      have hb : (bn T.2.1 p).testBit s = decide (s ∈ l) := by
        rw [Bool.eq_iff_iff, hT.b s h5, List.take_of_length_le (by rw [nL_len]; omega), decide_eq_true_eq]
        exact mem_nL
      have hd : (bn T.2.2 l.length).testBit s = metB (P ++ Q) l.length (s : Nat) := by
        rw [Bool.eq_iff_iff, hT.d l.length s (by omega) h5]
        unfold metB
        rw [List.any_eq_true]
        constructor
        · rintro (⟨q, hq, h5, h6⟩ | h5)
          · exact ⟨q, hq, by simp [h5, h6]⟩
          · omega
        · rintro ⟨q, hq, h5⟩
          simp only [Bool.and_eq_true, decide_eq_true_eq, beq_iff_eq] at h5
          exact .inl ⟨q, hq, h5⟩
      rw [hb, hd]
    have e1 : (List.range 5).flatMap (fun s => List.map (rowOf n p) (if (mayB n (bn T.2.1 p) (bn T.2.2 l.length)).testBit s = true then cmpl n (p + 1) F p (l.length + 1) (putT T p l.length s) else [])) =
        (List.range 5).flatMap (fun s => if (decide (s < n) && !decide (s ∈ l) && !metB (P ++ Q) l.length (s : Nat)) = true then ((ext n f (l ++ [s])).filter fun x => fitB (P ++ Q) x f (l.length + 1)).map nL else []) := by
      refine fm_congr fun s hs5 => ?_
      have h5 := List.mem_range.1 hs5
      rw [hz s h5]
      by_cases g : (decide (s < n) && !decide (s ∈ l) && !metB (P ++ Q) l.length (s : Nat)) = true
      · rw [if_pos g, if_pos g]
        simp only [Bool.and_eq_true, decide_eq_true_eq] at g
        have hl1 : (l ++ [s]).length = l.length + 1 := by simp
        have hR : Rc P p (nL (l ++ [s])) l.length Q T := hT.congr (by rw [show nL (l ++ [s]) = nL l ++ [(s : Int)] by simp [nL], List.take_append_of_le_length (by rw [nL_len]; omega)]) fun d hd => by rw [nL_en hd, nL_en (by omega), gn_app1 hd]
        have hR2 := hR.put (by omega) (by omega) (by rw [nL_len]; omega) h5 (by rw [nL_en (by omega), gn_app2])
        rw [← hl1] at hR2
        have ih := row_cmplC n hn P Q p hp f (l ++ [s]) (putT T p l.length s) F (by omega) (fun t ht => by
          rcases List.mem_append.1 ht with ht | ht
          · exact hs t ht
          · obtain rfl := List.mem_singleton.1 ht
            exact g.1.1) hR2 (by omega)
        rw [hl1] at ih
        exact ih
      · rw [if_neg g, if_neg g]; rfl
    rw [e1, fm_range (n := n) (fun s h => by rw [decide_eq_false (by omega)]; rfl) 5 hn]
    refine fm_congr fun s hs' => ?_
    have hsn := List.mem_range.1 hs'
    rw [decide_eq_true hsn, Bool.true_and]
    by_cases g : s ∈ l
    · rw [if_pos g, decide_eq_true g]; rfl
    · rw [if_neg g, decide_eq_false g, Bool.not_false, Bool.true_and]
      have hx : ∀ x ∈ ext n f (l ++ [s]), gn x l.length = s := fun x hx => by
        rw [(ext_get hx).2 l.length (by simp), gn_app2]
      have hq : (ext n f (l ++ [s])).filter (fun x => fitB (P ++ Q) x (f + 1) l.length) = (ext n f (l ++ [s])).filter (fun x => !metB (P ++ Q) l.length (s : Nat) && fitB (P ++ Q) x f (l.length + 1)) := filter_congr' fun x h => by
        show (!metB (P ++ Q) l.length (gn x l.length : Nat) && _) = _
        rw [hx x h]
      rw [hq]
      cases metB (P ++ Q) l.length (s : Nat) with
      | true => simp
      | false => simp
theorem row_memC (n : Nat) (hn : n ≤ 5) (P Q : List (List Int)) (p : Nat) (hp : p < n) (hP : P.length = p) (hQ : p + 1 + Q.length ≤ 5) : ∀ (f : Nat) (l : List Nat) (T : T3) (F : Nat), l.length + f = n → Rc P p (nL l) l.length Q T → f + 2 ≤ F → ∀ T' ∈ cmpl n (p + 1) F p l.length T, ∃ x : List Nat, x.length = n ∧ rowOf n p T' = nL x ∧ Rc (P ++ [nL x]) (p + 1) (ro Q 0) (ro Q 0).length Q.tail T'
  | 0, l, T, F, hl, hT, hF => by
    obtain ⟨F, rfl⟩ : ∃ G, F = G + 2 := ⟨F - 2, by omega⟩
    rw [cmpl, if_neg (by omega), if_pos (by omega), cmpl, if_pos rfl]
    intro T' hm
    obtain rfl := List.mem_singleton.1 hm
    have h2 := hT
    rw [show l.length = (nL l).length from (nL_len l).symm] at h2
    refine ⟨l, by omega, ?_, h2.next hP hQ⟩
    exact rowOf_eq hn (by omega) hT.tv (by rw [nL_len]; omega) fun d hd => by
      rw [hT.ai d (by omega) (by omega), if_pos (by omega)]
  | f + 1, l, T, F, hl, hT, hF => by
    obtain ⟨F, rfl⟩ : ∃ G, F = G + 1 := ⟨F - 1, by omega⟩
    have ha : en T.1 (p * 5 + l.length) = -1 := by
      rw [hT.ai l.length (by omega) (by omega), if_neg (by omega)]
    rw [cmpl, if_neg (by omega), if_neg (by omega), if_neg (by omega)]
    intro T' hm
    obtain ⟨s, hs, hm⟩ := List.mem_flatMap.1 hm
    have h5 := (mem_bits.1 hs).1
    have hl1 : (l ++ [s]).length = l.length + 1 := by simp
    have hR : Rc P p (nL (l ++ [s])) l.length Q T := hT.congr (by rw [show nL (l ++ [s]) = nL l ++ [(s : Int)] by simp [nL], List.take_append_of_le_length (by rw [nL_len]; omega)]) fun d hd => by rw [nL_en hd, nL_en (by omega), gn_app1 hd]
    have hR2 := hR.put (by omega) (by omega) (by rw [nL_len]; omega) h5 (by rw [nL_en (by omega), gn_app2])
    rw [← hl1] at hR2 hm
    exact row_memC n hn P Q p hp hP hQ f (l ++ [s]) _ F (by omega) hR2 (by omega) T' hm
theorem row_skip (n to p k : Nat) (hp : p < to) (hk : k ≤ n) (T : T3) (hT : ∀ d, d < k → 0 ≤ en T.1 (p * 5 + d)) : ∀ (g j F F' : Nat), k - j = g → j ≤ k → (to - p) * (n + 1) + (n - j) < F → (to - p) * (n + 1) + (n - k) < F' → cmpl n to F p j T = cmpl n to F' p k T
  | 0, j, F, F', hg, hj, hF, hF' => by
    have : j = k := by omega
    subst this
    exact cmpl_fuel n to F F' p j T hF hF' (by omega) hk
  | g + 1, j, F, F', hg, hj, hF, hF' => by
    obtain ⟨F, rfl⟩ : ∃ G, F = G + 1 := ⟨F - 1, by omega⟩
    rw [cmpl_in (by omega) (by omega), if_pos (hT j (by omega))]
    exact row_skip n to p k hp hk T hT g (j + 1) F F' (by omega) (by omega) (by omega) hF'
theorem corner_row {n : Nat} (hn : n ≤ 5) {P Q : List (List Int)} {l : List Nat} {T : T3} (hp : P.length < n) (hQ : P.length + 1 + Q.length ≤ 5) (hl : l.length ≤ n) (hs : ∀ s ∈ l, s < n) (hT : Rc P P.length (nL l) l.length Q T) (F F' : Nat) (hF : (n - P.length) * (n + 1) + n < F) (hF' : (n - (P.length + 1)) * (n + 1) + n < F') :
    ∃ R : List T3, cmpl n n F P.length 0 T = R.flatMap (fun T' => cmpl n n F' (P.length + 1) 0 T') ∧ R.map (rowOf n P.length) = (fitl n (P ++ Q) l).map nL ∧ ∀ T' ∈ R, ∃ x : List Nat, x.length = n ∧ rowOf n P.length T' = nL x ∧ Rc (P ++ [nL x]) (P.length + 1) (ro Q 0) (ro Q 0).length Q.tail T' := by
  refine ⟨cmpl n (P.length + 1) (n + n + 4) P.length l.length T, ?_, ?_, ?_⟩
  · rw [row_skip n n P.length l.length hp hl T (fun d hd => by
      rw [hT.ai d (by omega) (by omega), if_pos hd, nL_en hd]; omega) l.length 0 F F rfl (by omega) (by omega) (by omega)]
    exact cmpl_split n P.length hp (n - l.length) l.length T (by omega) F (n + n + 4) F' (by omega) (by rw [show P.length + 1 - P.length = 1 by omega]; omega) hF'
  · exact row_cmplC n hn P Q P.length hp (n - l.length) l T (n + n + 4) (by omega) hs hT (by omega)
  · exact row_memC n hn P Q P.length hp rfl hQ (n - l.length) l T (n + n + 4) (by omega) hT (by omega)
def fil (n : Nat) : List (List Nat) → List (List Nat) → Option (List (List Nat))
  | [], B => some B
  | l :: Q, B => (fitl n ((B ++ Q).map nL) l).findSome? fun x => fil n Q (B ++ [x])
structure Cok (n w : Nat) (C : List (List Nat)) : Prop where
  row : ∀ l ∈ C, l ∈ ext n w []
  col : C.Pairwise fun a b => ∀ d, d < w → gn a d ≠ gn b d
theorem ext_trans {n b : Nat} {x' x : List Nat} : ∀ {a : Nat} {l : List Nat}, x' ∈ ext n a l → x ∈ ext n b x' → x ∈ ext n (a + b) l
  | 0, l, h, hx => by
    obtain rfl := List.mem_singleton.1 h
    rw [Nat.zero_add]; exact hx
  | a + 1, l, h, hx => by
    rw [show a + 1 + b = (a + b) + 1 by omega, ext, List.mem_flatMap]
    rw [ext, List.mem_flatMap] at h
    obtain ⟨s, hs, h⟩ := h
    refine ⟨s, hs, ?_⟩
    by_cases e : s ∈ l
    · rw [if_pos e] at h; cases h
    · rw [if_neg e] at h ⊢
      exact ext_trans h hx
theorem met_app (P Q : List (List Int)) (d : Nat) (s : Int) : metB (P ++ Q) d s = (metB P d s || metB Q d s) := by
  unfold metB; rw [List.any_append]
def Res (n m : Nat) (o : Option (List (List Nat))) (L : List T3) : Prop :=
  match o with
  | none => L = []
  | some B' => ∃ D', Vp n B' D' ∧ B'.length = m ∧ ∃ T1 R, L = T1 :: R ∧ ∀ r', Rp ((gre n (n - m) B').map nL) n r' 0 T1
theorem res_fm {n m p : Nat} (g : List Nat → Option (List (List Nat))) (h : T3 → List T3) : ∀ (R : List T3) (Xs : List (List Nat)), R.map (rowOf n p) = Xs.map nL → (∀ T' x, T' ∈ R → x ∈ Xs → rowOf n p T' = nL x → Res n m (g x) (h T')) → Res n m (Xs.findSome? g) (R.flatMap h)
  | [], [], _, _ => rfl
  | T' :: R, x :: Xs, e, hh => by
    simp only [List.map_cons, List.cons.injEq] at e
    have h1 := hh T' x (.head _) (.head _) e.1
    have h2 := res_fm g h R Xs e.2 fun T' x a b => hh T' x (.tail _ a) (.tail _ b)
    rw [List.findSome?_cons, List.flatMap_cons]
    cases eg : g x with
    | none =>
      rw [eg] at h1
      have h1' : h T' = [] := h1
      rw [h1', List.nil_append]; exact h2
    | some B' =>
      rw [eg] at h1
      obtain ⟨D', a1, a2, T1, R1, a3, a4⟩ := h1
      exact ⟨D', a1, a2, T1, R1 ++ R.flatMap h, by rw [a3]; rfl, a4⟩
  | [], x :: Xs, e, _ => by simp at e
  | T' :: R, [], e, _ => by simp at e
theorem nL_inj {x y : List Nat} (h : nL x = nL y) : x = y := by
  have hl : x.length = y.length := by have := congrArg List.length h; simpa [nL] using this
  refine List.ext_getElem hl fun d h1 h2 => ?_
  have := congrArg (fun z => en z d) h
  simp only [nL_en h1, nL_en h2] at this
  have h3 : gn x d = gn y d := by omega
  simpa [gn, List.getD, h1, h2] using h3
theorem fitl_vp {n w : Nat} (hw : w ≤ n) {B Q : List (List Nat)} {D : List Nat} {l x : List Nat} (hV : Vp n B D) (hl : l ∈ ext n w []) (hB : ∀ d, d < w → metB (B.map nL) d (gn l d : Nat) = false) (hx : x ∈ fitl n ((B ++ Q).map nL) l) : Vp n (B ++ [x]) (stp D x) ∧ x.length = n ∧ ∀ d, d < w → gn x d = gn l d := by
  have hll : l.length = w := by simpa using (ext_get hl).1
  obtain ⟨h1, h2⟩ := List.mem_filter.1 hx
  rw [hll] at h1 h2
  obtain ⟨g1, g2⟩ := ext_get h1
  have hx0 := ext_trans hl h1
  rw [show w + (n - w) = n by omega] at hx0
  refine ⟨.snoc B D x hV hx0 (fitB_mk fun j _ hj => ?_), by omega, fun d hd => g2 d (by omega)⟩
  by_cases e : j < w
  · rw [g2 j (by omega)]; exact hB j e
  · have := fitB_get h2 j (by omega) (by omega)
    rw [List.map_append, met_app, Bool.or_eq_false_iff] at this
    exact this.1
theorem srch {n w : Nat} (hn1 : 1 ≤ n) (hn : n ≤ 5) (hw : w ≤ n) : ∀ (C B : List (List Nat)) (D : List Nat) (T : T3), Vp n B D → B.length + C.length ≤ n → Cok n w C → (∀ l ∈ C, ∀ d, d < w → metB (B.map nL) d (gn l d : Nat) = false) →
    Rc (B.map nL) B.length (ro (C.map nL) 0) (ro (C.map nL) 0).length (C.map nL).tail T → ∀ F, (n - B.length) * (n + 1) + n < F → Res n (B.length + C.length) (fil n C B) (cmpl n n F B.length 0 T)
  | [], B, D, T, hV, hl, hC, hB, hT, F, hF => by
    have hR := fun r => Rc.rp (show Rc (B.map nL) B.length [] 0 [] T from hT) r
    obtain ⟨T1, R, h1, h2⟩ := full_hd hn1 hn (n - B.length) B D T hV (by simp at hl; omega) hR F hF
    exact ⟨D, hV, by simp, T1, R, h1, by simpa using h2⟩
  | l :: Q, B, D, T, hV, hl, hC, hB, hT, F, hF => by
    have hlen : (B.map nL).length = B.length := List.length_map ..
    have hlw := hC.row l (.head _)
    have hll : l.length = w := by simpa using (ext_get hlw).1
    simp only [List.length_cons] at hl
    have hT' : Rc (B.map nL) (B.map nL).length (nL l) l.length (Q.map nL) T := by
      rw [hlen]
      have : ro ((l :: Q).map nL) 0 = nL l := rfl
      rw [this, nL_len] at hT
      exact hT
    obtain ⟨R, r1, r2, r3⟩ := corner_row hn (by omega) (by rw [hlen, List.length_map]; omega) (by omega) (fun s hs => ext_lt (fun s hs => absurd hs (by simp)) hlw s hs) hT' F ((n - (B.length + 1)) * (n + 1) + n + 1) (by rw [hlen]; exact hF) (by rw [hlen]; omega)
    rw [hlen] at r1 r2 r3
    rw [← List.map_append] at r2
    rw [r1, fil]
    refine res_fm _ _ R _ r2 fun T' x hm hx he => ?_
    obtain ⟨x', x1, x2, x3⟩ := r3 T' hm
    obtain rfl := nL_inj (x2.symm.trans he)
    obtain ⟨v1, v2, v3⟩ := fitl_vp hw hV hlw (hB l (.head _)) hx
    have hp := List.pairwise_cons.1 hC.col
    have hl1 : (B ++ [x']).length = B.length + 1 := by simp
    have ih := srch hn1 hn hw Q (B ++ [x']) _ T' v1 (by omega) ⟨fun a ha => hC.row a (.tail _ ha), hp.2⟩ (fun q hq d hd => by
      rw [List.map_append, met_app, hB q (.tail _ hq) d hd, Bool.false_or, met_nL, List.any_eq_false]
      intro y hy hh
      obtain rfl := List.mem_singleton.1 hy
      have hh' : d < y.length ∧ gn y d = gn q d := by simpa using hh
      exact hp.1 q hq d hd (by rw [← v3 d hd]; exact hh'.2)) (by rw [hl1, List.map_append]; exact x3) ((n - (B.length + 1)) * (n + 1) + n + 1) (by rw [hl1]; omega)
    rw [hl1] at ih
    rw [List.length_cons, show B.length + (Q.length + 1) = B.length + 1 + Q.length by omega]
    exact ih
def widE (L : List (List Int)) : Nat := (ro L 0).length
def corE (x : Int) (L : List (List Int)) : Int := chkE x (widE L) L
def cntS (L : List (List Int)) (s : Nat) : Nat := (L.filter fun r => decide ((s : Int) ∈ r)).length
def barB (n : Nat) (L : List (List Int)) (s : Nat) : Bool := decide ((cntS L s : Int) < (L.length : Int) + (widE L : Int) - (n : Int))
def bars (n : Nat) (L : List (List Int)) : List Nat := (List.range n).filter (barB n L)
theorem wrapS' {m : Nat} (h : m ≤ 100000) : IntKind.i64.wrap (m : Int) = m := by
  cases m with
  | zero => decide
  | succ b => exact wrapN (by omega)
theorem wrapD {a b : Nat} (ha : a ≤ 100) (hb : b ≤ 100) : IntKind.i64.wrap ((a : Int) - (b : Int)) = (a : Int) - (b : Int) := by
  have key : ∀ d : Nat, d ≤ 100 → IntKind.i64.wrap (-(d : Int)) = -(d : Int) := by decide +kernel
  by_cases h : b ≤ a
  · rw [show (a : Int) - (b : Int) = ((a - b : Nat) : Int) by omega]; exact wrapS' (by omega)
  · rw [show (a : Int) - (b : Int) = -((b - a : Nat) : Int) by omega]; exact key _ (by omega)
theorem b_val : ∀ x : Nat, x < 32 → ∀ s : Nat, s < 5 → IntKind.i64.wrap (bitsI .and .u64 (Int.fdiv (x : Int) (2 ^ (min s 64))) 1) = ((if x.testBit s then 1 else 0 : Nat) : Int) := by decide +kernel
theorem wid_le {n : Nat} {w : Int} {L : List (List Int)} (h : chkE n w L = 0) (hL : 0 < L.length) : w ≤ n ∧ ∀ j, j < L.length → ((ro L j).length : Int) = w := by
  obtain ⟨h1, h2, h3, h4⟩ := chkE_zero h
  exact ⟨(rowE_zero h4 0 (by omega) (by omega)).2.1, fun j hj => (rowE_zero h4 j (by omega) (by omega)).1⟩
theorem wid_n {n : Nat} {L : List (List Int)} (h : corE n L = 0) : widE L ≤ n ∧ ∀ r ∈ L, r.length = widE L := by
  by_cases hL : 0 < L.length
  · obtain ⟨a, b⟩ := wid_le h hL
    refine ⟨by omega, fun r hr => ?_⟩
    obtain ⟨i, hi, rfl⟩ := List.getElem_of_mem hr
    have := b i hi
    have e : ro L i = L[i] := by simp [ro, List.getD, hi]
    rw [e] at this; omega
  · have : L = [] := List.eq_nil_of_length_eq_zero (by omega)
    subst this
    exact ⟨by simp [widE, ro, List.getD], fun r hr => absurd hr (by simp)⟩
theorem cornered_ok (N : Nat) (hN : 2000 ≤ N) (x : Int) (L : List (List Int)) (hL : L.length ≤ 1000) (hr : ∀ r ∈ L, r.length ≤ 1000) :
    ∃ T, m83 N x (.lst false L.length (rwsP L)) = some (if corE x L = 0 then .inr ((widE L : Int), 0, tP x.toNat T) else .inl ((widE L : Int), corE x L)) ∧ (corE x L = 0 → ∀ r', Rq L L.length r' 0 T) := by
  obtain ⟨T, e, hT⟩ := opened3_ok N hN x (widE L : Nat) L hL hr
  refine ⟨T, ?_, hT⟩
  rw [m83, getL_t]
  by_cases h : 0 < L.length
  · rw [brn_dt (by omega), grd_t (by omega), grd_t (by rw [rws_len]; omega), rws_gp h, getL_t]
    unfold widE corE at *
    rw [e, bnd_t]
    unfold opE widE
    by_cases g : chkE x (ro L 0).length L = 0
    · simp only [if_pos g]
    · simp only [if_neg g]
  · have h0 : L = [] := List.eq_nil_of_length_eq_zero (by omega)
    subst h0
    rw [brn_df (by simp)]
    have hw : widE [] = 0 := by simp [widE, ro, List.getD]
    unfold corE at *
    rw [hw] at e ⊢
    rw [show m61 N x (.lst false ([] : List (List Int)).length (rwsP [])) 0 = _ from e, bnd_t]
    unfold opE
    by_cases g : chkE x ((0 : Nat) : Int) [] = 0
    · simp only [if_pos g]; rfl
    · simp only [if_neg g]; rfl
theorem cnt_L3 (N n : Nat) (L : List (List Int)) (hL : L.length ≤ 5) (x y z : Int) (T : T3) (hT : ∀ r', Rq L L.length r' 0 T) (s : Nat) (hs : s < 5) (a : Nat) (c : List PV) : ∀ (f i fuel k : Nat), L.length - i = f → f < fuel → i ≤ L.length → k ≤ i →
    m81_L3 N x L.length (rwsP L) y (tP n T) a (s : Int) c fuel (k : Int) (i : Int) = some ((k + cntS (L.drop i) s : Nat) : Int)
  | f, i, 0, _, _, _, _, _ => by omega
  | f, i, fuel + 1, k, hf, hfu, hi, hk => by
    have hl := tbl_len (n := n) (hT []).tv.tb
    rw [m81_L3]
    by_cases g : i < L.length
    · have hb : (bn T.2.1 i).testBit s = decide ((s : Int) ∈ ro L i) := by
        rw [Bool.eq_iff_iff, (hT []).bp i s g (by omega) hs, decide_eq_true_eq]
      have ih := fun k h => cnt_L3 N n L hL x y z T hT s hs a c (f - 1) (i + 1) fuel k (by omega) (by omega) (by omega) h
      rw [brn_dt (by omega), grd_t ⟨by omega, by omega⟩, toNatN, grd_t (by unfold tP; omega), show gp (tP n T) (26 + i) = .int .u64 (bn T.2.1 i : Int) from gp_b (hT []).tv.tb (by omega), getU_t, grd_t (by omega), toNatN, b_val _ ((hT []).tv.tb.b32 i (by omega)) s hs, hb, drop_ro g]
      unfold cntS
      rw [List.filter_cons]
      by_cases e : (s : Int) ∈ ro L i
      · rw [decide_eq_true e, if_pos rfl, if_pos rfl, wrapN (by omega)]
        rw [show IntKind.i64.wrap ((k : Int) + ((1 : Nat) : Int)) = ((k + 1 : Nat) : Int) from wrapN (by omega), ih (k + 1) (by omega)]
        unfold cntS
        congr 2; simp; omega
      · rw [decide_eq_false e, if_neg (by simp), if_neg (by simp), wrapN (by omega)]
        rw [show IntKind.i64.wrap ((k : Int) + ((0 : Nat) : Int)) = (k : Int) by rw [show (k : Int) + ((0 : Nat) : Int) = (k : Int) by omega]; exact wrapS' (by omega), ih k (by omega)]
        rfl
    · rw [brn_df (by omega), List.drop_eq_nil_of_le (by omega)]; rfl
theorem bar_L2 (N n : Nat) (hN : 2000 ≤ N) (hn : n ≤ 5) (L : List (List Int)) (hL : L.length ≤ 5) (hw : widE L ≤ 5) (T : T3) (hT : ∀ r', Rq L L.length r' 0 T) : ∀ (f s fuel : Nat) (A : List Nat), n - s = f → f < fuel → s ≤ n → A.length ≤ s →
    m81_L2 N (n : Int) L.length (rwsP L) (widE L : Int) (tP n T) fuel A.length (s : Int) (iL (nL A)) = some ((A ++ (List.range' s (n - s)).filter (barB n L)).length, iL (nL (A ++ (List.range' s (n - s)).filter (barB n L))))
  | f, s, 0, _, _, _, _, _ => by omega
  | f, s, fuel + 1, A, hf, hfu, hs, hA => by
    rw [m81_L2]
    by_cases g : s < n
    · have h3 := cnt_L3 N n L hL (n : Int) (widE L : Int) 0 T hT s (by omega) A.length (iL (nL A)) L.length 0 N 0 (by omega) (by omega) (by omega) (by omega)
      rw [List.drop_zero, Nat.zero_add] at h3
      have ew : IntKind.i64.wrap (IntKind.i64.wrap ((L.length : Int) + (widE L : Int)) - (n : Int)) = (L.length : Int) + (widE L : Int) - (n : Int) := by
        rw [show (L.length : Int) + (widE L : Int) = ((L.length + widE L : Nat) : Int) by omega, wrapS' (by omega), wrapD (by omega) (by omega)]
      rw [brn_dt (by omega), show m81_L3 N (n : Int) L.length (rwsP L) (widE L : Int) (tP n T) A.length (s : Int) (iL (nL A)) N 0 0 = _ from h3, bnd_t, ew, range'_step g, List.filter_cons]
      cases e : barB n L s with
      | true =>
        have ih := bar_L2 N n hN hn L hL hw T hT (f - 1) (s + 1) fuel (A ++ [s]) (by omega) (by omega) (by omega) (by simp; omega)
        rw [List.length_append, List.length_singleton, List.append_assoc, List.singleton_append] at ih
        rw [brn_t (by unfold barB at e; exact e), if_pos rfl, grd_t (by omega), grd_t (by rw [iL_len, nL_len]), wrapN (by omega), iL_app, show nL A ++ [(s : Int)] = nL (A ++ [s]) by simp [nL]]
        exact ih
      | false =>
        rw [brn_f (by unfold barB at e; exact e), if_neg (by simp), wrapN (by omega)]
        exact bar_L2 N n hN hn L hL hw T hT (f - 1) (s + 1) fuel A (by omega) (by omega) (by omega) (by omega)
    · rw [brn_df (by omega), show n - s = 0 by omega]; simp
def barE (x : Int) (L : List (List Int)) : List Nat × Int := if corE x L ≠ 0 then ([], corE x L) else (bars x.toNat L, 0)
theorem barring_ok (N : Nat) (hN : 2000 ≤ N) (x : Int) (L : List (List Int)) (hL : L.length ≤ 1000) (hr : ∀ r ∈ L, r.length ≤ 1000) :
    m81 N x (.lst false L.length (rwsP L)) = some (.tup [rwP (nL (barE x L).1), .int .i64 (barE x L).2]) := by
  obtain ⟨T, e, hT⟩ := cornered_ok N hN x L hL hr
  rw [m81, getL_t, e, bnd_t]
  unfold barE
  by_cases h : corE x L = 0
  · rw [if_pos h, if_neg (show ¬ corE x L ≠ 0 by simpa using h)]
    dsimp only
    obtain ⟨h1, h2, h3, h4⟩ := chkE_zero h
    obtain ⟨n, rfl⟩ : ∃ n : Nat, x = (n : Int) := ⟨x.toNat, by omega⟩
    have hw := (wid_n h).1
    have hb := bar_L2 N n hN (by omega) L (by omega) (by omega) T (hT h) n 0 N [] (by omega) (by omega) (by omega) (by simp)
    rw [List.nil_append, Nat.sub_zero, ← List.range_eq_range'] at hb
    rw [brn_nf rfl, toNatN, show m81_L2 N (n : Int) L.length (rwsP L) (widE L : Int) (tP n T) N 0 0 [] = _ from hb, bnd_t]
    dsimp only
    rw [grd_t (by rw [iL_len, nL_len])]
    unfold rwP bars; rw [nL_len]
  · rw [if_neg h, if_pos h]
    dsimp only
    rw [brn_nt h]; rfl
def whyE (x : Int) (L : List (List Int)) : Int × Int := if corE x L ≠ 0 then (0, corE x L) else match bars x.toNat L with | [] => (0, 13) | s :: _ => ((s : Int), 0)
theorem why_ok (N : Nat) (hN : 2000 ≤ N) (x : Int) (L : List (List Int)) (hL : L.length ≤ 1000) (hr : ∀ r ∈ L, r.length ≤ 1000) :
    m45 N x (.lst false L.length (rwsP L)) = some (.tup [.int .i64 (whyE x L).1, .int .i64 (whyE x L).2]) := by
  rw [m45, getL_t, barring_ok N hN x L hL hr, bnd_t, getT2_t]
  unfold rwP barE whyE
  by_cases h : corE x L = 0
  · rw [if_neg (show ¬ corE x L ≠ 0 by simpa using h), if_neg (show ¬ corE x L ≠ 0 by simpa using h), getL_t, getI_t, brn_nf rfl]
    cases e : bars x.toNat L with
    | nil => rfl
    | cons s l =>
      dsimp only
      rw [brn_ef (by simp [nL] <;> omega), grd_t (by simp [nL]), grd_t (by simp [iL, nL]), show gp (iL (nL (s :: l))) 0 = .int .i64 (s : Int) from rfl, getI_t]
  · rw [if_pos h, if_pos h, getL_t, getI_t, brn_nt h]
def toC (L : List (List Int)) : List (List Nat) := L.map fun r => r.map Int.toNat
theorem toC_len (L : List (List Int)) : (toC L).length = L.length := by simp [toC]
theorem toC_gn {L : List (List Int)} {j k : Nat} (hj : j < L.length) (hk : k < (ro L j).length) : gn ((ro L j).map Int.toNat) k = (en (ro L j) k).toNat := by simp [gn, en, List.getD, hk]
theorem cok_of {n : Nat} {L : List (List Int)} (h : corE n L = 0) : (toC L).map nL = L ∧ Cok n (widE L) (toC L) := by
  obtain ⟨h1, h2, h3, h4⟩ := chkE_zero h
  have hz : ∀ j, j < L.length → ∀ k, k < (ro L j).length → 0 ≤ en (ro L j) k ∧ en (ro L j) k < n ∧ en (ro L j) k ∉ (ro L j).take k ∧ metB (L.take j) k (en (ro L j) k) = false := fun j hj k hk =>
    dayE_zero (rowE_zero h4 j (by omega) (by omega)).2.2 k (by omega) (by omega)
  have hw : ∀ j, j < L.length → (ro L j).length = widE L := fun j hj => (wid_n h).2 _ (ro_mem hj)
  have hget : ∀ j (hj : j < L.length), L[j] = ro L j := fun j hj => by simp [ro, List.getD, hj]
  refine ⟨?_, fun l hl => ?_, ?_⟩
  · unfold toC
    rw [List.map_map]
    refine (List.map_congr_left fun r hr => ?_).trans (List.map_id _)
    obtain ⟨j, hj, rfl⟩ := List.getElem_of_mem hr
    rw [hget j hj]
    exact nL_toNat fun k hk => (hz j hj k hk).1
  · obtain ⟨r, hr, rfl⟩ := List.mem_map.1 hl
    obtain ⟨j, hj, rfl⟩ := List.getElem_of_mem hr
    rw [hget j hj]
    have hwj := hw j hj
    refine ext_mem _ [] _ (by simp; omega) rfl (fun s hs => ?_) (fun k hk => ?_)
    · obtain ⟨k, hk, rfl⟩ := List.getElem_of_mem hs
      have hk' : k < (ro L j).length := by simpa using hk
      have := hz j hj k hk'
      have e := toC_gn hj hk'
      simp only [gn, List.getD, hk, List.getElem?_eq_getElem, Option.getD_some] at e
      rw [e]; omega
    · have hk' : k < (ro L j).length := by simpa using hk
      have hzk := hz j hj k hk'
      rw [toC_gn hj hk']
      intro hm
      apply hzk.2.2.1
      rw [← List.map_take, List.mem_map] at hm
      obtain ⟨y, hy, e⟩ := hm
      obtain ⟨q, hq, rfl⟩ := List.getElem_of_mem hy
      have hq2 : q < (ro L j).length := by rw [List.length_take] at hq; omega
      have := (hz j hj q hq2).1
      have eq : ((ro L j).take k)[q] = en (ro L j) q := by simp [en, List.getD, hq2]
      rw [eq] at e
      have : en (ro L j) q = en (ro L j) k := by omega
      rw [← this, ← eq]
      exact List.getElem_mem hq
  · rw [List.pairwise_iff_getElem]
    intro i j hi hj hij d hd e
    have hi' : i < L.length := by simpa [toC] using hi
    have hj' : j < L.length := by simpa [toC] using hj
    have e1 : (toC L)[i] = (ro L i).map Int.toNat := by simp [toC, hget i hi']
    have e2 : (toC L)[j] = (ro L j).map Int.toNat := by simp [toC, hget j hj']
    have di : d < (ro L i).length := by rw [hw i hi']; exact hd
    have dj : d < (ro L j).length := by rw [hw j hj']; exact hd
    rw [e1, e2, toC_gn hi' di, toC_gn hj' dj] at e
    have z1 := hz i hi' d di
    have z2 := hz j hj' d dj
    have z3 := z2.2.2.2
    unfold metB at z3
    rw [List.any_eq_false] at z3
    refine z3 (ro L i) ?_ ?_
    · have : ro L i = ro (L.take j) i := by unfold ro; rw [List.getD, List.getD, List.getElem?_take_of_lt hij]
      rw [this]; exact ro_mem (by rw [List.length_take]; omega)
    · rw [decide_eq_true di, Bool.true_and]
      simp only [beq_iff_eq]; omega
def filE (x : Int) (L : List (List Int)) : List (List Int) × Int := if corE x L ≠ 0 then ([], corE x L) else match fil x.toNat (toC L) [] with | none => ([], 12) | some B => ((gre x.toNat (x.toNat - L.length) B).map nL, 0)
theorem told_ok (N : Nat) (a b : Nat) (z : Bool) (A : List Int) : m69_2 N (oneP a b z A) = some (.int .i64 (if z then 1 else 0)) := by
  rw [m69_2, grd_t (by simp [oneP]), show gp (oneP a b z A) 2 = .bool z from rfl, getB_t]
  cases z <;> rfl
theorem nd_len {α : Type} [DecidableEq α] {l m : List α} (h : l.Nodup) (hs : ∀ x ∈ l, x ∈ m) : l.length ≤ m.length := List.Nodup.length_le_of_subset h fun x hx => hs x hx
theorem ext_nd : ∀ n : Nat, n < 6 → (ext n n []).Nodup := by decide +kernel
structure Pl (n : Nat) (X : List (List Nat)) : Prop where
  row : ∀ x ∈ X, x ∈ ext n n []
  col : X.Pairwise fun a b => ∀ d, d < n → gn a d ≠ gn b d
theorem Vp.pl {n : Nat} {X : List (List Nat)} {D : List Nat} (h : Vp n X D) : Pl n X := by
  refine ⟨vp_mem h, ?_⟩
  induction h with
  | nil => exact .nil
  | snoc X D x h hx hf ih =>
    rw [List.pairwise_append]
    refine ⟨ih, List.pairwise_singleton _ _, fun a ha b hb => ?_⟩
    obtain rfl := List.mem_singleton.1 hb
    exact (fit_iff (fun q hq => ext_len (vp_mem h q hq)) b).1 hf a ha
theorem Pl.vp {n : Nat} : ∀ (m : Nat) {X : List (List Nat)}, Pl n X → m ≤ X.length → ∃ D, Vp n (X.take m) D
  | 0, _, _, _ => ⟨_, .nil⟩
  | m + 1, X, h, hm => by
    obtain ⟨D, hV⟩ := Pl.vp m h (by omega)
    have hm' : m < X.length := by omega
    rw [List.take_succ_eq_append_getElem hm']
    refine ⟨_, .snoc _ D _ hV (h.row _ (List.getElem_mem hm')) ((fit_iff (fun q hq => ext_len (h.row q (List.mem_of_mem_take hq))) _).2 fun q hq j hj => ?_)⟩
    obtain ⟨i, hi, rfl⟩ := List.getElem_of_mem hq
    rw [List.length_take] at hi
    rw [List.getElem_take]
    exact List.pairwise_iff_getElem.1 h.col i m (by omega) hm' (by omega) j hj
theorem Pl.vp' {n : Nat} {X : List (List Nat)} (h : Pl n X) : ∃ D, Vp n X D := by
  have := Pl.vp X.length h (Nat.le_refl _)
  rwa [List.take_length] at this
theorem Pl.rev {n : Nat} {X : List (List Nat)} (h : Pl n X) : Pl n X.reverse :=
  ⟨fun x hx => h.row x (List.mem_reverse.1 hx), List.pairwise_reverse.2 (h.col.imp fun g d hd => (g d hd).symm)⟩
def nam (to frm : List Nat) (x : List Nat) : List Nat := frm.map fun d => gn to (gn x d)
theorem nam_len {to frm x : List Nat} : (nam to frm x).length = frm.length := by simp [nam]
theorem nam_gn {to frm x : List Nat} {d : Nat} (h : d < frm.length) : gn (nam to frm x) d = gn to (gn x (gn frm d)) := by simp [nam, gn, List.getD, h]
theorem gn_inj {n : Nat} (hn : n < 6) {x : List Nat} (hx : x ∈ ext n n []) {a b : Nat} (ha : a < n) (hb : b < n) (h : gn x a = gn x b) : a = b := by
  rw [← (inv_at n hn x hx a ha).1, h, (inv_at n hn x hx b hb).1]
theorem nam_ext {n : Nat} (hn : n < 6) {to frm x : List Nat} (ht : to ∈ ext n n []) (hf : frm ∈ ext n n []) (hx : x ∈ ext n n []) : nam to frm x ∈ ext n n [] := by
  have lt := ext_len ht; have lf := ext_len hf; have lx := ext_len hx
  refine ext_mem n [] _ (by rw [nam_len, lf]; simp) rfl (fun s hs => ?_) (fun k hk => ?_)
  · obtain ⟨d, hd, rfl⟩ := List.mem_map.1 hs
    have h1 : d < n := ext_lt (fun s hs => absurd hs (by simp)) hf d hd
    exact ext_ltn ht (ext_ltn hx h1)
  · rw [nam_len, lf] at hk
    intro hm
    obtain ⟨j, hj, e⟩ := List.getElem_of_mem hm
    rw [List.length_take, nam_len, lf] at hj
    have e2 : gn (nam to frm x) j = gn (nam to frm x) k := by
      rw [← e, List.getElem_take]
      simp [gn, List.getD, nam_len, lf, show j < n by omega]
    rw [nam_gn (by omega), nam_gn (by omega)] at e2
    have h1 := gn_inj hn ht (ext_ltn hx (ext_ltn hf (by omega))) (ext_ltn hx (ext_ltn hf hk)) e2
    have h2 := gn_inj hn hx (ext_ltn hf (by omega)) (ext_ltn hf hk) h1
    have h3 := gn_inj hn hf (by omega) hk h2
    omega
theorem nam_clash {n : Nat} (hn : n < 6) {to frm x y : List Nat} (ht : to ∈ ext n n []) (hf : frm ∈ ext n n []) (hx : x ∈ ext n n []) (hy : y ∈ ext n n []) : (∀ d, d < n → gn (nam to frm x) d ≠ gn (nam to frm y) d) ↔ ∀ d, d < n → gn x d ≠ gn y d := by
  have lf := ext_len hf
  constructor
  · intro h d hd e
    have a := inv_at n hn frm hf d hd
    refine h (gn (inv n frm) d) a.2.2 ?_
    rw [nam_gn (by rw [lf]; exact a.2.2), nam_gn (by rw [lf]; exact a.2.2), a.2.1, e]
  · intro h d hd e
    rw [nam_gn (by omega), nam_gn (by omega)] at e
    exact h _ (ext_ltn hf hd) (gn_inj hn ht (ext_ltn hx (ext_ltn hf hd)) (ext_ltn hy (ext_ltn hf hd)) e)
theorem nam_inj {n : Nat} (hn : n < 6) {to frm x y : List Nat} (ht : to ∈ ext n n []) (hf : frm ∈ ext n n []) (hx : x ∈ ext n n []) (hy : y ∈ ext n n []) (h : nam to frm x = nam to frm y) : x = y := by
  have lx := ext_len hx; have ly := ext_len hy; have lf := ext_len hf
  refine List.ext_getElem (by omega) fun d h1 h2 => ?_
  have a := inv_at n hn frm hf d (by omega)
  have e := congrArg (fun z => gn z (gn (inv n frm) d)) h
  simp only [nam_gn (show gn (inv n frm) d < frm.length by rw [lf]; exact a.2.2), a.2.1] at e
  have := gn_inj hn ht (ext_ltn hx (by omega)) (ext_ltn hy (by omega)) e
  simpa [gn, List.getD, h1, h2] using this
theorem nam_pl {n : Nat} (hn : n < 6) {to frm : List Nat} (ht : to ∈ ext n n []) (hf : frm ∈ ext n n []) {X : List (List Nat)} (h : Pl n X) : Pl n (X.map (nam to frm)) := by
  refine ⟨fun x hx => ?_, ?_⟩
  · obtain ⟨y, hy, rfl⟩ := List.mem_map.1 hx
    exact nam_ext hn ht hf (h.row y hy)
  · rw [List.pairwise_map]
    exact h.col.imp_of_mem fun ha hb g => (nam_clash hn ht hf (h.row _ ha) (h.row _ hb)).2 g
theorem nd_map {α β : Type} {f : α → β} : ∀ {l : List α}, l.Nodup → (∀ x ∈ l, ∀ y ∈ l, f x = f y → x = y) → (l.map f).Nodup
  | [], _, _ => .nil
  | a :: l, h, hi => by
    obtain ⟨h1, h2⟩ := List.nodup_cons.1 h
    rw [List.map_cons, List.nodup_cons]
    refine ⟨fun hm => ?_, nd_map h2 fun x hx y hy => hi x (.tail _ hx) y (.tail _ hy)⟩
    obtain ⟨b, hb, e⟩ := List.mem_map.1 hm
    have := hi b (.tail _ hb) a (.head _) e
    exact h1 (this ▸ hb)
theorem nam_cnt {n : Nat} (hn : n < 6) {to frm : List Nat} (ht : to ∈ ext n n []) (hf : frm ∈ ext n n []) {X Y : List (List Nat)} (hX : ∀ q ∈ X, q ∈ ext n n []) (hY : ∀ y, y ∈ Y ↔ y ∈ X.map (nam to frm)) : (fitn n (X.map nL)).length ≤ (fitn n (Y.map nL)).length := by
  have hYe : ∀ q ∈ Y, q ∈ ext n n [] := fun q hq => by
    obtain ⟨y, hy, rfl⟩ := List.mem_map.1 ((hY q).1 hq)
    exact nam_ext hn ht hf (hX y hy)
  have h1 : ((fitn n (X.map nL)).map (nam to frm)).Nodup := nd_map ((ext_nd n hn).filter _) fun x hx y hy e =>
    nam_inj hn ht hf (List.mem_filter.1 hx).1 (List.mem_filter.1 hy).1 e
  have := nd_len h1 (m := fitn n (Y.map nL)) fun z hz => by
    obtain ⟨x, hx, rfl⟩ := List.mem_map.1 hz
    obtain ⟨a, b⟩ := List.mem_filter.1 hx
    refine List.mem_filter.2 ⟨nam_ext hn ht hf a, (fit_iff (fun q hq => ext_len (hYe q hq)) _).2 fun q hq => ?_⟩
    obtain ⟨y, hy, rfl⟩ := List.mem_map.1 ((hY q).1 hq)
    exact (nam_clash hn ht hf (hX y hy) a).2 ((fit_iff (fun q hq => ext_len (hX q hq)) x).1 b y hy)
  rwa [List.length_map] at this
theorem nam_back {n : Nat} (hn : n < 6) {to frm x : List Nat} (ht : to ∈ ext n n []) (hf : frm ∈ ext n n []) (hx : x ∈ ext n n []) : nam (inv n to) (inv n frm) (nam to frm x) = x := by
  have lx := ext_len hx; have lf := ext_len hf
  refine List.ext_getElem (by rw [nam_len, inv_len]; omega) fun d h1 h2 => ?_
  have hd : d < n := by omega
  have a := inv_at n hn frm hf d hd
  have e : gn (nam (inv n to) (inv n frm) (nam to frm x)) d = gn x d := by
    rw [nam_gn (by rw [inv_len]; exact hd), nam_gn (by rw [lf]; exact a.2.2), a.2.1, (inv_at n hn to ht _ (ext_ltn hx hd)).1]
  simpa [gn, List.getD, h1, h2] using e
theorem nam_eq {n : Nat} (hn : n < 6) {to frm : List Nat} (ht : to ∈ ext n n []) (hf : frm ∈ ext n n []) {X Y : List (List Nat)} (hX : ∀ q ∈ X, q ∈ ext n n []) (hY : ∀ y, y ∈ Y ↔ y ∈ X.map (nam to frm)) : (fitn n (Y.map nL)).length = (fitn n (X.map nL)).length := by
  refine Nat.le_antisymm (nam_cnt hn (inv_ext n hn to ht) (inv_ext n hn frm hf) (fun q hq => ?_) fun y => ?_) (nam_cnt hn ht hf hX hY)
  · obtain ⟨y, hy, rfl⟩ := List.mem_map.1 ((hY q).1 hq)
    exact nam_ext hn ht hf (hX y hy)
  · constructor
    · intro h
      exact List.mem_map.2 ⟨nam to frm y, (hY _).2 (List.mem_map.2 ⟨y, h, rfl⟩), nam_back hn ht hf (hX y h)⟩
    · intro h
      obtain ⟨z, hz, rfl⟩ := List.mem_map.1 h
      obtain ⟨y, hy, rfl⟩ := List.mem_map.1 ((hY z).1 hz)
      rw [nam_back hn ht hf (hX y hy)]; exact hy
def cutC (w : Nat) (X : List (List Nat)) : List (List Nat) := X.map fun x => x.take w
theorem toC_nL (C : List (List Nat)) : toC (C.map nL) = C := by
  unfold toC
  rw [List.map_map]
  refine (List.map_congr_left fun x _ => ?_).trans (List.map_id _)
  show (nL x).map Int.toNat = x
  unfold nL
  rw [List.map_map]
  exact (List.map_congr_left fun s _ => by simp).trans (List.map_id _)
theorem gn_take {x : List Nat} {w k : Nat} (h : k < w) : gn (x.take w) k = gn x k := by
  unfold gn; rw [List.getD, List.getD, List.getElem?_take_of_lt h]
theorem rowE_mkw {n w : Nat} (hw : w ≤ n) {L : List (List Int)} : ∀ {f i : Nat}, (∀ j, i ≤ j → j < i + f → (ro L j).length = w ∧ dayE n (L.take j) (ro L j) (ro L j).length 0 = 0) → rowE n w L f i = 0
  | 0, i, _ => rfl
  | f + 1, i, h => by
    obtain ⟨h1, h2⟩ := h i (by omega) (by omega)
    rw [rowE, if_neg (by omega), if_neg (by omega), if_neg (by rw [h2]; simp)]
    exact rowE_mkw hw fun j g1 g2 => h j (by omega) (by omega)
theorem ro_cut {w : Nat} {X : List (List Nat)} {j : Nat} (h : j < X.length) : ro ((cutC w X).map nL) j = nL ((X[j]).take w) := by
  unfold ro cutC
  rw [List.getD, List.getElem?_map, List.getElem?_map, List.getElem?_eq_getElem h]; rfl
theorem wid_cut {n w : Nat} (hw : w ≤ n) {X : List (List Nat)} (hX : Pl n X) (h : 0 < X.length) : widE ((cutC w X).map nL) = w := by
  unfold widE
  rw [ro_cut h, nL_len, List.length_take, ext_len (hX.row _ (List.getElem_mem h))]; omega
theorem cut_chk {n w : Nat} (hn1 : 1 ≤ n) (hn : n ≤ 5) (hw : w ≤ n) {X : List (List Nat)} (hX : Pl n X) (hl : X.length ≤ n) : corE n ((cutC w X).map nL) = 0 := by
  have hlen : ((cutC w X).map nL).length = X.length := by simp [cutC]
  unfold corE chkE
  rw [if_neg (by omega), if_neg (by omega), if_neg (by omega), hlen]
  by_cases h0 : 0 < X.length
  · rw [wid_cut hw hX h0]
    refine rowE_mkw hw fun j _ hj => ?_
    have hj' : j < X.length := by omega
    have hx := hX.row _ (List.getElem_mem hj')
    have lx := ext_len hx
    have hlw : ((X[j]).take w).length = w := by rw [List.length_take]; omega
    rw [ro_cut hj', nL_len, hlw]
    refine ⟨rfl, dayE_mk fun k _ hk => ?_⟩
    have hk' : k < w := by omega
    rw [nL_en (by omega), gn_take hk']
    have h1 := ext_ltn hx (d := k) (by omega)
    refine ⟨by omega, by omega, ?_, ?_⟩
    · rw [show (nL ((X[j]).take w)).take k = nL ((X[j]).take k) by simp [nL, List.map_take, List.take_take, show min k w = k by omega], mem_nL]
      exact ext_dis n (by omega) _ hx k (by omega)
    · rw [show ((cutC w X).map nL).take j = ((X.take j).map fun x => x.take w).map nL by simp [cutC, List.map_take], met_nL, List.any_eq_false]
      intro q hq hh
      obtain ⟨y, hy, rfl⟩ := List.mem_map.1 hq
      have hh' := (by simpa using hh : k < min w y.length ∧ gn (y.take w) k = gn X[j] k)
      rw [gn_take hk'] at hh'
      obtain ⟨i, hi, rfl⟩ := List.getElem_of_mem hy
      rw [List.length_take] at hi
      rw [List.getElem_take] at hh'
      exact List.pairwise_iff_getElem.1 hX.col i j (by omega) hj' (by omega) k (by omega) hh'.2
  · rw [show X.length = 0 by omega]; rfl
theorem cut_fil {n w : Nat} (hn : n ≤ 5) (hw : w ≤ n) {X : List (List Nat)} (hX : Pl n X) : ∀ (m i : Nat), i + m = X.length → fil n (cutC w (X.drop i)) (X.take i) ≠ none
  | 0, i, h => by
    rw [List.drop_eq_nil_of_le (by omega)]
    exact fun h => by cases h
  | m + 1, i, h => by
    have hi : i < X.length := by omega
    have ih := cut_fil hn hw hX m (i + 1) (by omega)
    rw [List.take_succ_eq_append_getElem hi] at ih
    have hx := hX.row _ (List.getElem_mem hi)
    have lx := ext_len hx
    have hlw : ((X[i]).take w).length = w := by rw [List.length_take]; omega
    rw [List.drop_eq_getElem_cons hi]
    show fil n ((X[i]).take w :: cutC w (X.drop (i + 1))) (X.take i) ≠ none
    rw [fil]
    intro hnone
    rw [List.findSome?_eq_none_iff] at hnone
    refine ih (hnone X[i] ?_)
    unfold fitl
    rw [hlw]
    refine List.mem_filter.2 ⟨ext_mem _ _ _ (by omega) (by rw [hlw]) (fun s hs => ext_lt (fun s hs => absurd hs (by simp)) hx s hs) (fun k hk => ext_dis n (by omega) _ hx k (by omega)), fitB_mk fun j h1 h2 => ?_⟩
    rw [List.map_append, met_app, met_nL, met_nL, Bool.or_eq_false_iff, List.any_eq_false, List.any_eq_false]
    constructor
    · intro q hq hh
      have hh' : j < q.length ∧ gn q j = gn X[i] j := by simpa using hh
      obtain ⟨a, ha, rfl⟩ := List.getElem_of_mem hq
      rw [List.length_take] at ha
      rw [List.getElem_take] at hh'
      exact List.pairwise_iff_getElem.1 hX.col a i (by omega) hi (by omega) j (by omega) hh'.2
    · intro q hq hh
      obtain ⟨y, hy, rfl⟩ := List.mem_map.1 hq
      have hh' := (by simpa using hh : j < min w y.length ∧ gn (y.take w) j = gn X[i] j)
      omega
theorem flt_notN {α : Type} (p : α → Bool) : ∀ l : List α, (l.filter p).length + (l.filter fun x => !p x).length = l.length
  | [] => rfl
  | a :: l => by
    have := flt_notN p l
    rw [List.filter_cons, List.filter_cons]
    cases h : p a <;> simp <;> omega
theorem cut_bars {n w : Nat} (hn : n ≤ 5) (hw : w ≤ n) {X : List (List Nat)} (hX : Pl n X) : bars n ((cutC w X).map nL) = [] := by
  have hlen : ((cutC w X).map nL).length = X.length := by simp [cutC]
  unfold bars
  rw [List.filter_eq_nil_iff]
  intro s hs
  have hs' := List.mem_range.1 hs
  unfold barB
  rw [hlen]
  have hc : cntS ((cutC w X).map nL) s = (X.filter fun x => decide (s ∈ x.take w)).length := by
    unfold cntS cutC
    rw [List.filter_map, List.length_map, List.filter_map, List.length_map]
    congr 1
    refine filter_congr' fun x _ => ?_
    show decide ((s : Int) ∈ nL (x.take w)) = _
    exact nL_mem
  by_cases h0 : 0 < X.length
  · rw [wid_cut hw hX h0, hc]
    have h1 := flt_notN (fun x : List Nat => decide (s ∈ x.take w)) X
    have h2 : (X.filter fun x => !decide (s ∈ x.take w)).length ≤ n - w := by
      have hnd : ((X.filter fun x => !decide (s ∈ x.take w)).map fun x => gn (inv n x) s).Nodup := by
        unfold List.Nodup
        rw [List.pairwise_map]
        refine (hX.col.filter _).imp_of_mem fun {a b} ha hb g e => ?_
        have ia := inv_at n (by omega) a (hX.row a (List.mem_filter.1 ha).1) s hs'
        have ib := inv_at n (by omega) b (hX.row b (List.mem_filter.1 hb).1) s hs'
        exact g _ ia.2.2 (by rw [ia.2.1, e, ib.2.1])
      have := nd_len hnd (m := List.range' w (n - w)) fun d hd => by
        obtain ⟨x, hx, rfl⟩ := List.mem_map.1 hd
        obtain ⟨x1, x2⟩ := List.mem_filter.1 hx
        have ix := inv_at n (by omega) x (hX.row x x1) s hs'
        have lx := ext_len (hX.row x x1)
        refine List.mem_range'_1.2 ⟨?_, by omega⟩
        refine Nat.le_of_not_lt fun hlt => ?_
        have : s ∈ x.take w := by
          have e := gn_take (x := x) hlt
          rw [ix.2.1] at e
          rw [← e]
          exact gn_mem (by rw [List.length_take]; omega)
        simp [this] at x2
      rw [List.length_map, List.length_range'] at this
      exact this
    simp only [decide_eq_true_eq]; omega
  · have : X = [] := List.eq_nil_of_length_eq_zero (by omega)
    subst this
    simp [cutC, widE, ro, List.getD, cntS]
def outR2 (c : List PV) (n : Nat) (e : Int) (T : T3) : ((Int × List PV) ⊕ (Int × List PV × List PV)) ⊕ List PV := if e = 0 then .inr (tP n T) else .inl (.inl (e, c))
def opE2 (c : List PV) (n : Nat) (e : Int) (T : T3) : (Int × List PV) ⊕ (Int × List PV × List PV) := if e = 0 then .inr (0, c, tP n T) else .inl (e, c)
theorem open4_L1 (N n : Nat) (hn : n ≤ 5) (w : Int) (L : List (List Int)) (P : List (List Int)) (r : List Int) (i : Nat) (hi : i < 5) (hr : r.length ≤ 5) : ∀ (f k fuel : Nat) (T : T3), r.length - k = f → f < fuel → k ≤ r.length → Rq P i r k T →
    ∃ T', m61_2_L1 N (n : Int) L.length w (rwsP L) (i : Int) r.length (iL r) fuel (k : Int) (tP n T) = some (outR2 (rwsP L) n (dayE n P r f k) T') ∧ (dayE n P r f k = 0 → Rq P i r r.length T')
  | f, k, 0, _, _, h, _, _ => by omega
  | 0, k, fuel + 1, T, hf, _, hk, hT => by
    have : k = r.length := by omega
    subst this
    refine ⟨T, ?_, fun _ => hT⟩
    rw [m61_2_L1, brn_df (by omega)]; rfl
  | f + 1, k, fuel + 1, T, hf, hfu, hk, hT => by
    have hl := tbl_len (n := n) hT.tv.tb
    have h1 : k < r.length := by omega
    rw [m61_2_L1, brn_dt (by omega), dayE]
    rw [grd_t (p := 0 ≤ (k : Int) ∧ (k : Int) < ((r.length : Nat) : Int)) ⟨by omega, by omega⟩, grd_t (p := 0 < List.length (List.drop (Int.toNat (k : Int)) (iL r))) (by rw [List.length_drop, iL_len, toNatN]; omega), gI_n h1]
    by_cases h2 : en r k < 0
    · rw [brn_dt h2, if_pos h2]; exact ⟨T, rfl, fun h => by cases h⟩
    · rw [brn_df h2, if_neg h2]
      by_cases h3 : (n : Int) ≤ en r k
      · rw [brn_dt (by omega), if_pos h3]; exact ⟨T, rfl, fun h => by cases h⟩
      · obtain ⟨s, hs⟩ : ∃ s : Nat, en r k = (s : Int) := ⟨(en r k).toNat, by omega⟩
        have s5 : s < 5 := by omega
        rw [brn_df (by omega), if_neg h3, hs, toNatN, toNatN, toNatN, grd_t (by omega), grd_t (by unfold tP; omega)]
        rw [show gp (tP n T) (26 + i) = .int .u64 (bn T.2.1 i : Int) from gp_b hT.tv.tb hi, getU_t, grd_t (by omega), b_tst _ (hT.tv.tb.b32 i hi) s s5]
        by_cases h4 : (s : Int) ∈ r.take k
        · rw [brn_t ((hT.b s s5).2 h4), if_pos h4]; exact ⟨T, rfl, fun h => by cases h⟩
        · rw [brn_f (by rw [Bool.eq_false_iff]; intro h; exact h4 ((hT.b s s5).1 h)), if_neg h4, grd_t (by omega), grd_t (by unfold tP; omega)]
          rw [show gp (tP n T) (31 + k) = .int .u64 (bn T.2.2 k : Int) from gp_d hT.tv.tb (by omega), getU_t, b_tst _ (hT.tv.tb.d32 k (by omega)) s s5]
          have hd : (bn T.2.2 k).testBit s = P.any (fun q => decide (k < q.length) && (en q k == (s : Int))) := by
            rw [Bool.eq_iff_iff, hT.d k s (by omega) s5, List.any_eq_true]
            constructor
            · rintro (⟨q, hq, h5, h6⟩ | h5)
              · exact ⟨q, hq, by simp [h5, h6]⟩
              · omega
            · rintro ⟨q, hq, h5⟩
              simp only [Bool.and_eq_true, decide_eq_true_eq, beq_iff_eq] at h5
              exact .inl ⟨q, hq, h5⟩
          rw [hd]
          cases h5 : P.any (fun q => decide (k < q.length) && (en q k == (s : Int))) with
          | true => rw [brn_t rfl, if_pos rfl]; exact ⟨T, rfl, fun h => by cases h⟩
          | false =>
            rw [brn_f rfl, if_neg (by simp)]
            obtain ⟨T', e1, e2⟩ := open4_L1 N n hn w L P r i hi hr f (k + 1) fuel (putT T i k s) (by omega) (by omega) (by omega) (hT.putq hi (by omega) h1 s5 hs)
            refine ⟨T', ?_, e2⟩
            rw [show m72 N (i : Int) (k : Int) (s : Int) (tP n T) = _ from put_ok N n hT.tv.tb hi (by omega) s5, bnd_t]
            show getT0 (.tup []) _ = _
            rw [getT0_t, wrapN (by omega)]
            exact e1
theorem open4_L0 (N n : Nat) (hN : 2000 ≤ N) (hn : n ≤ 5) (w : Int) (L : List (List Int)) (hL : L.length ≤ n) (hr20 : ∀ r ∈ L, r.length ≤ 1000) : ∀ (f i fuel : Nat) (T : T3), L.length - i = f → f < fuel → i ≤ L.length → (∀ r', Rq (L.take i) i r' 0 T) →
    ∃ T', m61_2_L0 N (n : Int) L.length w (rwsP L) fuel (i : Int) (tP n T) = some (outR2 (rwsP L) n (rowE n w L f i) T') ∧ (rowE n w L f i = 0 → ∀ r', Rq L L.length r' 0 T')
  | f, i, 0, _, _, h, _, _ => by omega
  | 0, i, fuel + 1, T, hf, _, hi, hT => by
    have : i = L.length := by omega
    subst this
    refine ⟨T, ?_, fun _ r' => by have := hT r'; rwa [List.take_length] at this⟩
    rw [m61_2_L0, brn_df (by omega)]; rfl
  | f + 1, i, fuel + 1, T, hf, hfu, hi, hT => by
    have h1 : i < L.length := by omega
    have hrl := hr20 _ (ro_mem h1)
    rw [m61_2_L0, brn_dt (by omega), rowE]
    simp (disch := (try simp only [List.length_drop, iL_len, rws_len, toNatN]) <;> omega) only [↓grd_t, ↓gL_n]
    by_cases h2 : ((ro L i).length : Int) = w
    · rw [brn_nf h2, if_neg (by simpa using h2)]
      by_cases h3 : (n : Int) < w
      · rw [brn_dt (by omega), if_pos h3]; exact ⟨T, rfl, fun h => by cases h⟩
      · rw [brn_df (by omega), if_neg h3]
        obtain ⟨T', e1, e2⟩ := open4_L1 N n hn w L (L.take i) (ro L i) i (by omega) (by omega) (ro L i).length 0 N T (by omega) (by omega) (by omega) (hT _)
        rw [show m61_2_L1 N (n : Int) L.length w (rwsP L) (i : Int) (ro L i).length (iL (ro L i)) N 0 (tP n T) = _ from e1, bnd_t]
        by_cases h4 : dayE n (L.take i) (ro L i) (ro L i).length 0 = 0
        · rw [if_neg (by simpa using h4), wrapN (by omega)]
          unfold outR2
          rw [if_pos h4]
          have h5 := (e2 h4).nextq (by rw [List.length_take]; omega) (by omega)
          rw [← take_ro h1] at h5
          exact open4_L0 N n hN hn w L hL hr20 f (i + 1) fuel T' (by omega) (by omega) (by omega) h5
        · unfold outR2
          simp only [if_neg h4, if_pos (show dayE (n : Int) (L.take i) (ro L i) (ro L i).length 0 ≠ 0 from h4)]
          exact ⟨T, by trivial, fun h => absurd h h4⟩
    · rw [brn_nt h2, if_pos h2]; exact ⟨T, rfl, fun h => by cases h⟩
theorem opened4_ok (N : Nat) (hN : 2000 ≤ N) (x w : Int) (L : List (List Int)) (hL : L.length ≤ 1000) (hr : ∀ r ∈ L, r.length ≤ 1000) :
    ∃ T, m61_2 N x L.length w (rwsP L) = some (opE2 (rwsP L) x.toNat (chkE x w L) T) ∧ (chkE x w L = 0 → ∀ r', Rq L L.length r' 0 T) := by
  rw [m61_2]
  unfold chkE
  by_cases h1 : x < 1
  · rw [brn_dt h1, if_pos h1]; exact ⟨T0, rfl, fun h => by cases h⟩
  · rw [brn_df h1, if_neg h1]
    by_cases h2 : 5 < x
    · rw [brn_dt (by omega), if_pos h2]; exact ⟨T0, rfl, fun h => by cases h⟩
    · rw [brn_df (by omega), if_neg h2]
      by_cases h3 : x < (L.length : Int)
      · rw [brn_dt (by omega), if_pos h3]; exact ⟨T0, rfl, fun h => by cases h⟩
      · obtain ⟨n, rfl⟩ : ∃ n : Nat, x = (n : Int) := ⟨x.toNat, by omega⟩
        rw [brn_df (by omega), if_neg h3, begun_ok N n hN, bnd_t]
        obtain ⟨T, e1, e2⟩ := open4_L0 N n hN (by omega) w L (by omega) hr L.length 0 N T0 (by omega) (by omega) (by omega) (fun r' => by rw [List.take_zero]; exact ⟨T0_rp r', fun j s hj => by omega⟩)
        refine ⟨T, ?_, e2⟩
        show bnd' (m61_2_L0 N (n : Int) L.length w (rwsP L) N 0 (tP n T0)) _ = _
        rw [show m61_2_L0 N (n : Int) L.length w (rwsP L) N 0 (tP n T0) = _ from e1, bnd_t, toNatN]
        unfold outR2 opE2
        by_cases h4 : rowE (n : Int) w L L.length 0 = 0
        · simp only [if_pos h4]
        · simp only [if_neg h4]
theorem count2_ok (N : Nat) (hN : 5000 ≤ N) (x : Int) (L : List (List Int)) (hL : L.length ≤ 1000) (hr : ∀ r ∈ L, r.length ≤ 1000) : m25_2 N x L.length (rwsP L) = some (.tup [.int .i64 (cntE x L).1, .int .i64 (cntE x L).2], rwsP L) := by
  obtain ⟨T, e, hT⟩ := opened4_ok N (by omega) x x L hL hr
  have hc := (check_ok N (by omega) x L hL hr).2
  rw [m25_2, e, bnd_t]
  unfold opE2 cntE
  by_cases h : chkE x x L = 0
  · simp only [if_pos h]
    rw [brn_nf rfl, if_neg (show ¬ chkE x x L ≠ 0 by simpa using h)]
    obtain ⟨h1, h2, h3, h4⟩ := chkE_zero h
    by_cases h5 : (L.length : Int) = x
    · rw [brn_et h5, if_pos h5]
    · rw [brn_ef h5, if_neg h5]
      obtain ⟨n, rfl⟩ : ∃ n : Nat, x = (n : Int) := ⟨x.toNat, by omega⟩
      rw [toNatN]
      have hT' := fun r => (hT h r).toRp
      have fl := fitn_le (n := n) (by omega) L
      have rc := row_cnt (n := n) (by omega) (by omega) hT' 100 (by omega)
      have c := cnt_ok N n (L.length + 1) L.length (by omega) (by omega) (by omega) 100 N L.length 0 0 T (hT' []).tv (by omega) (by rw [Nat.add_sub_cancel_left]; omega) (by omega) (by omega) (by omega)
      rw [rc, Nat.zero_add] at c
      rw [m64_2, m114, bnd_t, getT2_t, getI_t, getI_t, wrapN (by omega)]
      rw [show m88_2 N N (L.length : Int) 0 ((L.length + 1 : Nat) : Int) (L.length : Int) 0 (tP n T) = _ from c, bnd_t]
      show bnd' (getB (.bool false) _) _ = _
      rw [getB_t, bnd_t]
      show getT0 (.tup []) _ = _
      rw [getT0_t, m69, bnd_t, getI_t]
  · simp only [if_neg h]
    rw [brn_nt h, if_pos h]
theorem cornered2_ok (N : Nat) (hN : 2000 ≤ N) (x : Int) (L : List (List Int)) (hL : L.length ≤ 1000) (hr : ∀ r ∈ L, r.length ≤ 1000) :
    ∃ T, m83_2 N x L.length (rwsP L) = some (if corE x L = 0 then .inr ((widE L : Int), 0, rwsP L, tP x.toNat T) else .inl ((widE L : Int), corE x L, rwsP L)) ∧ (corE x L = 0 → ∀ r', Rq L L.length r' 0 T) := by
  obtain ⟨T, e, hT⟩ := opened4_ok N hN x (widE L : Nat) L hL hr
  refine ⟨T, ?_, hT⟩
  rw [m83_2]
  by_cases h : 0 < L.length
  · rw [brn_dt (by omega), grd_t (by omega), grd_t (by rw [rws_len]; omega), rws_gp h, getL_t]
    unfold widE corE at *
    rw [e, bnd_t]
    unfold opE2 widE
    by_cases g : chkE x (ro L 0).length L = 0
    · simp only [if_pos g]
    · simp only [if_neg g]
  · have h0 : L = [] := List.eq_nil_of_length_eq_zero (by omega)
    subst h0
    rw [brn_df (by simp)]
    have hw : widE [] = 0 := by simp [widE, ro, List.getD]
    unfold corE at *
    rw [hw] at e ⊢
    rw [show m61_2 N x ([] : List (List Int)).length 0 (rwsP []) = _ from e, bnd_t]
    unfold opE2
    by_cases g : chkE x ((0 : Nat) : Int) [] = 0
    · simp only [if_pos g]; rfl
    · simp only [if_neg g]; rfl
theorem fill3_ok (N : Nat) (hN : 5000 ≤ N) (x : Int) (L : List (List Int)) (hL : L.length ≤ 1000) (hr : ∀ r ∈ L, r.length ≤ 1000) :
    m47_2 N x L.length (rwsP L) = some (.tup [.lst false (filE x L).1.length (rwsP (filE x L).1), .int .i64 (filE x L).2], rwsP L) := by
  obtain ⟨T, e, hT⟩ := cornered2_ok N (by omega) x L hL hr
  rw [m47_2, e, bnd_t]
  unfold filE
  by_cases h : corE x L = 0
  · rw [if_pos h, if_neg (show ¬ corE x L ≠ 0 by simpa using h)]
    dsimp only
    obtain ⟨h1, h2, h3, h4⟩ := chkE_zero h
    obtain ⟨n, rfl⟩ : ∃ n : Nat, x = (n : Int) := ⟨x.toNat, by omega⟩
    have hw := (wid_n h).1
    obtain ⟨c1, c2⟩ := cok_of h
    have hcl := toC_len L
    have hrc := (hT h []).rc (by omega)
    rw [← c1] at hrc
    have hmul : (n - 0) * (n + 1) ≤ 5 * 6 := Nat.mul_le_mul (by omega) (by omega)
    have hs := srch (n := n) (w := widE L) (by omega) (by omega) hw (toC L) [] _ T .nil (by simp; omega) c2 (fun l _ d _ => by simp [metB]) hrc 100 (by simp only [List.length_nil]; omega)
    rw [show ([] : List (List Nat)).length + (toC L).length = L.length by simp [hcl]] at hs
    have c := one_ok N n n 0 n (by omega) (by omega) (by omega) false (List.replicate 25 0) (by simp) 100 N 0 0 T (hT h []).tv (by omega) (by omega) (by omega) (by omega)
    have sg := search_one N n hN 0 n (List.replicate 25 0) (by simp) T _ c
    rw [brn_nf rfl, toNatN]
    show bnd' (m64 N (tP n T) (oneP 0 n false (List.replicate 25 0))) _ = _
    rw [sg, bnd_t]
    show getT0 (.tup []) _ = _
    rw [getT0_t]
    cases ef : fil n (toC L) [] with
    | none =>
      rw [ef] at hs
      have hs' : cmpl n n 100 0 0 T = [] := hs
      rw [hs']
      show bnd' (m69_2 N (oneP 0 n false (List.replicate 25 0))) _ = _
      rw [told_ok, bnd_t, getI_t, brn_t (by rfl)]; rfl
    | some B =>
      rw [ef] at hs
      obtain ⟨D', v1, v2, T1, R, v3, v4⟩ := hs
      have v3' : cmpl n n 100 0 0 T = T1 :: R := v3
      rw [v3']
      have hT2 : T1.1.length = 25 := (v4 []).tv.tb.la
      obtain ⟨D2, hg⟩ := gre_vp (by omega) (by omega) (n - L.length) v1 (by omega)
      have hgl : ((gre n (n - L.length) B).map nL).length = n := by rw [List.length_map, gre_len]; omega
      have hro := full_rows (by omega) hgl (vp_len hg) v4
      show bnd' (m69_2 N (oneP 0 n true T1.1)) _ = _
      rw [told_ok, bnd_t, getI_t, brn_ef (by simp)]
      show grd (25 ≤ List.length (List.drop 3 (oneP 0 n true T1.1))) _ = _
      rw [grd_t (by simp [oneP, iL_len, hT2])]
      show bnd' (m65 N (.agg (List.take 25 (List.drop 3 (oneP 0 n true T1.1)))) (n : Int)) _ = _
      rw [oneP_A _ _ _ _ hT2, rows_ok' N n hN (by omega) (by omega) T1.1 hT2, bnd_t, getL_t, hro]
      dsimp only
      rw [hgl]
  · rw [if_neg h, if_pos h]
    dsimp only
    rw [brn_nt h]; rfl
def sw (A : List Nat) (i k : Nat) : List Nat := ((A.set i i).set i (gn (A.set i i) k)).set k (gn (A.set i i) i)
def chw (w i : Nat) (tp : List Nat) : Bool := (List.range i).all fun j => decide (j < w) == decide (gn tp j < w)
theorem chw_iff {w i : Nat} {tp : List Nat} : chw w i tp = true ↔ ∀ j, j < i → (j < w ↔ gn tp j < w) := by
  unfold chw
  rw [List.all_eq_true]
  constructor
  · intro h j hj
    have := h j (List.mem_range.2 hj)
    simpa using this
  · intro h j hj
    have := h j (List.mem_range.1 hj)
    simpa using this
def swB (n i k w : Nat) (tp : List Nat) : Bool := decide (sw (tp ++ List.replicate (n - i) 0) i k = (sw (tp ++ List.replicate (n - i) 0) i k).take (i + 1) ++ List.replicate (n - (i + 1)) 0) && decide ((sw (tp ++ List.replicate (n - i) 0) i k).take (i + 1) ∈ ext (i + 1) (i + 1) []) && chw w (i + 1) ((sw (tp ++ List.replicate (n - i) 0) i k).take (i + 1))
theorem sw_b : ((List.range 6).all fun n => (List.range n).all fun i => (ext i i []).all fun tp => (List.range (i + 1)).all fun k => (List.range 6).all fun w => !chw w i tp || (decide (w ≤ i) && decide (k < w)) || swB n i k w tp) = true := by decide +kernel
theorem sw_ok (n : Nat) (hn : n < 6) (i : Nat) (hi : i < n) (tp : List Nat) (ht : tp ∈ ext i i []) (k : Nat) (hk : k < i + 1) (w : Nat) (hw : w < 6) (h1 : ∀ j : Nat, j < i → (j < w ↔ gn tp j < w)) (h2 : w ≤ i → w ≤ k) :
    sw (tp ++ List.replicate (n - i) 0) i k = (sw (tp ++ List.replicate (n - i) 0) i k).take (i + 1) ++ List.replicate (n - (i + 1)) 0 ∧ (sw (tp ++ List.replicate (n - i) 0) i k).take (i + 1) ∈ ext (i + 1) (i + 1) [] ∧ ∀ j : Nat, j < i + 1 → (j < w ↔ gn ((sw (tp ++ List.replicate (n - i) 0) i k).take (i + 1)) j < w) := by
  have h := sw_b
  rw [List.all_eq_true] at h
  have h := h n (List.mem_range.2 hn)
  rw [List.all_eq_true] at h
  have h := h i (List.mem_range.2 hi)
  rw [List.all_eq_true] at h
  have h := h tp ht
  rw [List.all_eq_true] at h
  have h := h k (List.mem_range.2 hk)
  rw [List.all_eq_true] at h
  have h := h w (List.mem_range.2 hw)
  rw [chw_iff.2 h1, Bool.not_true, Bool.false_or, show (decide (w ≤ i) && decide (k < w)) = false by
    by_cases g : w ≤ i
    · rw [decide_eq_false (show ¬ k < w by have := h2 g; omega), Bool.and_false]
    · rw [decide_eq_false g, Bool.false_and], Bool.false_or] at h
  unfold swB at h
  rw [Bool.and_eq_true, Bool.and_eq_true, decide_eq_true_eq, decide_eq_true_eq] at h
  exact ⟨h.1.1, h.1.2, chw_iff.1 h.2⟩
theorem nset {A : List Nat} {i x : Nat} : List.set (iL (nL A)) i (.int .i64 (x : Int)) = iL (nL (A.set i x)) := by
  rw [iL_set]; congr 1; simp [nL, List.map_set]
theorem ngp {A : List Nat} {i : Nat} (h : i < A.length) : gp (iL (nL A)) i = .int .i64 (gn A i : Int) := by
  rw [iL_gp (by rw [nL_len]; exact h), nL_en h]
theorem nlen (A : List Nat) : (iL (nL A)).length = A.length := by rw [iL_len, nL_len]
theorem names_L (N n w wd : Nat) (hn : n ≤ 5) (hwd : wd < 256) (ew : w = wd % (n + 1)) (a0 a1 a2 a3 a4 b0 b1 b2 b3 b4 : Nat) (ha : ∀ j, j < 5 → gn [a0, a1, a2, a3, a4] j < 256) (hb : ∀ j, j < 5 → gn [b0, b1, b2, b3, b4] j < 256) (cn : Nat) (cc : List PV) :
    ∀ (f i fuel : Nat) (tp fp : List Nat), n - i = f → f < fuel → i ≤ n → tp ∈ ext i i [] → fp ∈ ext i i [] → (∀ j, j < i → (j < w ↔ gn fp j < w)) →
    ∃ to frm : List Nat, m13_L0 N (wd : Int) (.int .u8 (a0 : Int)) (.int .u8 (a1 : Int)) (.int .u8 (a2 : Int)) (.int .u8 (a3 : Int)) (.int .u8 (a4 : Int)) (.int .u8 (b0 : Int)) (.int .u8 (b1 : Int)) (.int .u8 (b2 : Int)) (.int .u8 (b3 : Int)) (.int .u8 (b4 : Int)) (n : Int) cn cc fuel (i : Int) (iL (nL (tp ++ List.replicate (n - i) 0))) (iL (nL (fp ++ List.replicate (n - i) 0))) = some (iL (nL to), iL (nL frm)) ∧ to ∈ ext n n [] ∧ frm ∈ ext n n [] ∧ ∀ j, j < n → (j < w ↔ gn frm j < w)
  | f, i, 0, _, _, _, _, _, _, _, _ => by omega
  | f, i, fuel + 1, tp, fp, hf, hfu, hi, ht, hp, hq => by
    have hw : w ≤ n := by rw [ew]; have := Nat.mod_lt wd (show 0 < n + 1 by omega); omega
    rw [m13_L0, wr9 n (by omega) wd hwd, ← ew]
    by_cases h : i < n
    · have lt : (tp ++ List.replicate (n - i) 0).length = n := by
        have := (ext_get ht).1; simp at this ⊢; omega
      have lp : (fp ++ List.replicate (n - i) 0).length = n := by
        have := (ext_get hp).1; simp at this ⊢; omega
      have ea : [PV.int .u8 (a0 : Int), .int .u8 (a1 : Int), .int .u8 (a2 : Int), .int .u8 (a3 : Int), .int .u8 (a4 : Int)] = u8s [a0, a1, a2, a3, a4] := rfl
      have eb : [PV.int .u8 (b0 : Int), .int .u8 (b1 : Int), .int .u8 (b2 : Int), .int .u8 (b3 : Int), .int .u8 (b4 : Int)] = u8s [b0, b1, b2, b3, b4] := rfl
      have hga := ha i (by omega)
      have hgb := hb i (by omega)
      have ua := u8_gp (l := [a0, a1, a2, a3, a4]) (i := i) (by simp; omega)
      have ub := u8_gp (l := [b0, b1, b2, b3, b4]) (i := i) (by simp; omega)
      generalize gn [a0, a1, a2, a3, a4] i = y at hga ua
      generalize gn [b0, b1, b2, b3, b4] i = z at hgb ub
      have hk : y % (i + 1) < i + 1 := Nat.mod_lt _ (by omega)
      obtain ⟨s1, s2, s3⟩ := sw_ok n (by omega) i h tp ht (y % (i + 1)) hk 0 (by omega) (fun j _ => by omega) (by omega)
      rw [brn_dt (by omega), toNatN i, toNatN n, grd_t ⟨by omega, by omega⟩, grd_t (by rw [nlen, lt]; omega), grd_t (by rw [nlen, lp]; omega), grd_t (by omega), grd_t (by omega), ea, ua, getI_t, wrapN (by omega), grd_t (by omega), wr0 hga, toNatN, grd_t ⟨by omega, by omega⟩, grd_t (by rw [nlen, lt]; omega), nset, ngp (by simp only [List.length_set, lt]; omega), getI_t, grd_t (by rw [nlen, lt]; omega), ngp (by simp only [List.length_set, lt]; omega), getI_t, grd_t (by rw [nlen, lt]; omega), nset, nset, eb, ub]
      by_cases g : w ≤ i
      · have hm : z % (i - w + 1) < i - w + 1 := Nat.mod_lt _ (by omega)
        have e1 : IntKind.i64.wrap (IntKind.i64.wrap ((i : Int) - (w : Int)) + 1) = ((i - w + 1 : Nat) : Int) := by
          rw [wrapD (by omega) (by omega), show (i : Int) - (w : Int) = ((i - w : Nat) : Int) by omega, wrapN (by omega)]
        have e2 : IntKind.i64.wrap ((w : Int) + ((z % (i - w + 1) : Nat) : Int)) = ((w + z % (i - w + 1) : Nat) : Int) := by
          rw [show (w : Int) + ((z % (i - w + 1) : Nat) : Int) = ((w + z % (i - w + 1) : Nat) : Int) by omega, wrapS' (by omega)]
        obtain ⟨r1, r2, r3⟩ := sw_ok n (by omega) i h fp hp (w + z % (i - w + 1)) (by omega) w (by omega) hq (by omega)
        rw [brn_dt (by omega), getI_t, e1, wr0 hgb, e2, toNatN, grd_t (by omega), grd_t ⟨by omega, by omega⟩, grd_t (by rw [nlen, lp]; omega), nset, ngp (by simp only [List.length_set, lp]; omega), getI_t, grd_t (by rw [nlen, lp]; omega), ngp (by simp only [List.length_set, lp]; omega), getI_t, grd_t (by rw [nlen, lp]; omega), nset, nset]
        have ih := names_L N n w wd hn hwd ew a0 a1 a2 a3 a4 b0 b1 b2 b3 b4 ha hb cn cc (f - 1) (i + 1) fuel _ _ (by omega) (by omega) (by omega) s2 r2 r3
        rw [← s1, ← r1] at ih
        exact ih
      · have hm : z % (i + 1) < i + 1 := Nat.mod_lt _ (by omega)
        have e1 : IntKind.i64.wrap (IntKind.i64.wrap (i : Int) + 1) = ((i + 1 : Nat) : Int) := by
          rw [wrapS' (by omega), wrapN (by omega)]
        have e2 : IntKind.i64.wrap (0 + ((z % (i + 1) : Nat) : Int)) = ((z % (i + 1) : Nat) : Int) := by
          rw [Int.zero_add, wrapS' (by omega)]
        obtain ⟨r1, r2, r3⟩ := sw_ok n (by omega) i h fp hp (z % (i + 1)) (by omega) w (by omega) hq (by omega)
        rw [brn_df (by omega), getI_t, e1, wr0 hgb, e2, toNatN, grd_t (by omega), grd_t ⟨by omega, by omega⟩, grd_t (by rw [nlen, lp]; omega), nset, ngp (by simp only [List.length_set, lp]; omega), getI_t, grd_t (by rw [nlen, lp]; omega), ngp (by simp only [List.length_set, lp]; omega), getI_t, grd_t (by rw [nlen, lp]; omega), nset, nset]
        have ih := names_L N n w wd hn hwd ew a0 a1 a2 a3 a4 b0 b1 b2 b3 b4 ha hb cn cc (f - 1) (i + 1) fuel _ _ (by omega) (by omega) (by omega) s2 r2 r3
        rw [← s1, ← r1] at ih
        exact ih
    · have e : i = n := by omega
      subst e
      rw [brn_df (by omega), Nat.sub_self, List.replicate_zero, List.append_nil, List.append_nil]
      exact ⟨tp, fp, rfl, ht, hp, hq⟩
theorem row_L2 (N n : Nat) (hn : n ≤ 5) (to frm x : List Nat) (ht : to ∈ ext n n []) (hf : frm ∈ ext n n []) (hx : x ∈ ext n n []) (wd : Int) (cn : Nat) (cc : List PV) (a b c : Nat) (i : Int) (ca cb cd : List PV) : ∀ (f j fuel : Nat), n - j = f → f < fuel → j ≤ n →
    m13_L2 N wd (n : Int) cn cc (iL (nL to)) (iL (nL frm)) a b c i ca cb cd n (iL (nL x)) fuel j (j : Int) (iL (nL ((nam to frm x).take j))) = some (n, iL (nL (nam to frm x)))
  | f, j, 0, _, _, _ => by omega
  | f, j, fuel + 1, hf', hfu, hj => by
    have lt := ext_len ht; have lf := ext_len hf; have lx := ext_len hx
    have ln : (nam to frm x).length = n := by rw [nam_len, lf]
    rw [m13_L2, toNatN n]
    by_cases h : j < n
    · have h1 := ext_ltn hf h
      have h2 := ext_ltn hx h1
      have ih := row_L2 N n hn to frm x ht hf hx wd cn cc a b c i ca cb cd (f - 1) (j + 1) fuel (by omega) (by omega) (by omega)
      have e : (nam to frm x).take (j + 1) = (nam to frm x).take j ++ [gn to (gn x (gn frm j))] := by
        rw [List.take_succ_eq_append_getElem (by omega), ← nam_gn (to := to) (x := x) (by omega)]
        simp [gn, List.getD, ln, h]
      rw [e, show nL ((nam to frm x).take j ++ [gn to (gn x (gn frm j))]) = nL ((nam to frm x).take j) ++ [(gn to (gn x (gn frm j)) : Int)] by simp [nL], ← iL_app] at ih
      rw [brn_dt (by omega), grd_t ⟨by omega, by omega⟩, toNatN j, grd_t (by rw [nlen]; omega), ngp (by omega), getI_t, grd_t ⟨by omega, by omega⟩, toNatN, grd_t (by rw [List.length_drop, nlen]; omega), ngp (by omega), getI_t, grd_t ⟨by omega, by omega⟩, toNatN, grd_t (by rw [nlen]; omega), ngp (by omega), getI_t, grd_t (by omega), grd_t (by rw [nlen, List.length_take, ln]; omega), wrapN (by omega)]
      exact ih
    · rw [brn_df (by omega), List.take_of_length_le (by omega), show j = n by omega]
theorem rows_L1 (N n w wd : Nat) (hN : 5000 ≤ N) (hn : n ≤ 5) (hwd : wd < 256) (ew : w = wd % (n + 1)) (to frm : List Nat) (ht : to ∈ ext n n []) (hf : frm ∈ ext n n []) (X : List (List Nat)) (hX : ∀ x ∈ X, x ∈ ext n n []) (hl : X.length ≤ 5) : ∀ (f i fuel : Nat), X.length - i = f → f < fuel → i ≤ X.length →
    m13_L1 N (wd : Int) (n : Int) X.length (rwsP (X.map nL)) (iL (nL to)) (iL (nL frm)) fuel i i i (i : Int) (rwsP (((X.take i).map (nam to frm)).map nL)) (rwsP ((cutC w (X.take i)).map nL)) (rwsP ((cutC w ((X.take i).map (nam to frm))).map nL)) = some (X.length, X.length, X.length, rwsP ((X.map (nam to frm)).map nL), rwsP ((cutC w X).map nL), rwsP ((cutC w (X.map (nam to frm))).map nL))
  | f, i, 0, _, _, _ => by omega
  | f, i, fuel + 1, hf', hfu, hi => by
    have hw : w ≤ n := by rw [ew]; have := Nat.mod_lt wd (show 0 < n + 1 by omega); omega
    rw [m13_L1, wr9 n (by omega) wd hwd, ← ew]
    by_cases h : i < X.length
    · have hx := hX _ (List.getElem_mem h)
      have lx := ext_len hx
      have hro : ro (X.map nL) i = nL X[i] := by
        unfold ro
        rw [List.getD, List.getElem?_map, List.getElem?_eq_getElem h]; rfl
      have ln : (nam to frm X[i]).length = n := by rw [nam_len, ext_len hf]
      have h2 := row_L2 N n hn to frm X[i] ht hf hx (wd : Int) X.length (rwsP (X.map nL)) i i i (i : Int) (rwsP (((X.take i).map (nam to frm)).map nL)) (rwsP ((cutC w (X.take i)).map nL)) (rwsP ((cutC w ((X.take i).map (nam to frm))).map nL)) n 0 N (by omega) (by omega) (by omega)
      have ih := rows_L1 N n w wd hN hn hwd ew to frm ht hf X hX hl (f - 1) (i + 1) fuel (by omega) (by omega) (by omega)
      have et : X.take (i + 1) = X.take i ++ [X[i]] := List.take_succ_eq_append_getElem h
      have c1 : PV.lst false n (iL (nL (nam to frm X[i]))) = rwP (nL (nam to frm X[i])) := by unfold rwP; rw [nL_len, ln]
      have c2 : ∀ y : List Nat, y.length = n → PV.lst false w (List.take w (iL (nL y))) = rwP (nL (y.take w)) := fun y hy => by
        unfold rwP
        rw [nL_len, List.length_take, hy, show min w n = w by omega, iL_take]
        congr 2; simp [nL, List.map_take]
      rw [et, List.map_append, List.map_append, List.map_singleton, List.map_singleton, ← rws_app] at ih
      rw [show cutC w (X.take i ++ [X[i]]) = cutC w (X.take i) ++ [(X[i]).take w] by unfold cutC; rw [List.map_append, List.map_singleton], List.map_append, List.map_singleton, ← rws_app] at ih
      rw [show cutC w ((X.take i).map (nam to frm) ++ [nam to frm X[i]]) = cutC w ((X.take i).map (nam to frm)) ++ [(nam to frm X[i]).take w] by unfold cutC; rw [List.map_append, List.map_singleton], List.map_append, List.map_singleton, ← rws_app] at ih
      have hmin : min i X.length = i := by omega
      rw [brn_dt (by omega), grd_t ⟨by omega, by omega⟩, toNatN i, grd_t (by rw [List.length_drop, rws_len, List.length_map]; omega), rws_gp (by rw [List.length_map]; exact h), getL_t, hro, nL_len, lx, show m13_L2 N (wd : Int) (n : Int) X.length (rwsP (X.map nL)) (iL (nL to)) (iL (nL frm)) i i i (i : Int) (rwsP (((X.take i).map (nam to frm)).map nL)) (rwsP ((cutC w (X.take i)).map nL)) (rwsP ((cutC w ((X.take i).map (nam to frm))).map nL)) n (iL (nL X[i])) N 0 0 [] = _ from h2, bnd_t]
      dsimp only
      rw [grd_t (by omega), grd_t (by rw [rws_len]; simp [hmin]), grd_t (by rw [nlen, ln]), grd_t ⟨by omega, by omega⟩, grd_t (by rw [nlen, lx]), grd_t (by omega), grd_t (by rw [rws_len]; simp [cutC, hmin]), grd_t (by omega), grd_t (by omega), grd_t (by rw [rws_len]; simp [cutC, hmin]), wrapN (by omega), toNatN w, c1, c2 _ lx, c2 _ ln]
      exact ih
    · rw [brn_df (by omega), List.take_of_length_le (by omega), show i = X.length by omega]
theorem rev_ok : ∀ (L : List (List Int)), L.length ≤ 5 → m55 5000 L.length (rwsP L) = some (.tup [], rwsP L.reverse)
  | [], _ => rfl
  | [a], _ => rfl
  | [a, b], _ => rfl
  | [a, b, c], _ => rfl
  | [a, b, c, d], _ => rfl
  | [a, b, c, d, e], _ => rfl
  | _ :: _ :: _ :: _ :: _ :: _ :: _, h => by simp at h
theorem getA5_t {α : Type} {a b c d e : PV} {k : PV → PV → PV → PV → PV → Option α} : getA5 (.agg [a, b, c, d, e]) k = k a b c d e := rfl
theorem getA7_n {α : Type} {a b c d e f g : PV} {k : PV → PV → PV → PV → PV → PV → PV → Option α} : getA7 (.agg [a, b, c, d, e, f, g]) k = k a b c d e f g := rfl
theorem fil_zero {n w : Nat} (hn1 : 1 ≤ n) (hn : n ≤ 5) (hw : w ≤ n) {X : List (List Nat)} (hX : Pl n X) (hl : X.length ≤ n) : (filE n ((cutC w X).map nL)).2 = 0 := by
  have h := cut_fil hn hw hX X.length 0 (by omega)
  rw [List.drop_zero, List.take_zero] at h
  unfold filE
  rw [if_neg (by rw [cut_chk hn1 hn hw hX hl]; simp), toC_nL, toNatN]
  cases e : fil n (cutC w X) [] with
  | none => exact absurd e h
  | some B => rfl
theorem cut_rev {w : Nat} {X : List (List Nat)} : ((cutC w X).map nL).reverse = (cutC w X.reverse).map nL := by
  unfold cutC; rw [← List.map_reverse, ← List.map_reverse]
theorem law13 (a b c0 c1 c2 c3 c4 : Nat) (ha : a < 256) (hb : b < 256) (h0 : c0 < 256) (h1 : c1 < 256) (h2 : c2 < 256) (h3 : c3 < 256) (h4 : c4 < 256) (a0 a1 a2 a3 a4 b0 b1 b2 b3 b4 : Nat) (hA : ∀ j, j < 5 → gn [a0, a1, a2, a3, a4] j < 256) (hB : ∀ j, j < 5 → gn [b0, b1, b2, b3, b4] j < 256) (wd : Nat) (hwd : wd < 256) :
    m13 5000 (.agg [.int .u8 (a : Int), .int .u8 (b : Int), .int .u8 (c0 : Int), .int .u8 (c1 : Int), .int .u8 (c2 : Int), .int .u8 (c3 : Int), .int .u8 (c4 : Int)]) (.agg [.int .u8 (a0 : Int), .int .u8 (a1 : Int), .int .u8 (a2 : Int), .int .u8 (a3 : Int), .int .u8 (a4 : Int)]) (.agg [.int .u8 (b0 : Int), .int .u8 (b1 : Int), .int .u8 (b2 : Int), .int .u8 (b3 : Int), .int .u8 (b4 : Int)]) (wd : Int) = some (.bool true) := by
  obtain ⟨n, X, D, hn1, hn, hV, hX, e37⟩ := made_ok 5000 (by omega) a b c0 c1 c2 c3 c4 ha hb h0 h1 h2 h3 h4
  have hP := hV.pl
  obtain ⟨w, ew⟩ : ∃ w, w = wd % (n + 1) := ⟨_, rfl⟩
  have hw : w ≤ n := by rw [ew]; have := Nat.mod_lt wd (show 0 < n + 1 by omega); omega
  obtain ⟨to, frm, eN, ht, hf, hq⟩ := names_L 5000 n w wd hn hwd ew a0 a1 a2 a3 a4 b0 b1 b2 b3 b4 hA hB X.length (rwsP (X.map nL)) n 0 5000 [] [] (by omega) (by omega) (by omega) (.head _) (.head _) (fun j h => by omega)
  have hrep : List.replicate n (PV.int .i64 0) = iL (nL ([] ++ List.replicate (n - 0) 0)) := by simp [iL, nL]
  have e1 := rows_L1 5000 n w wd (by omega) hn hwd ew to frm ht hf X hP.row (by omega) X.length 0 5000 (by omega) (by omega) (by omega)
  have hP1 := nam_pl (by omega) ht hf hP
  have hP2 := hP1.rev
  obtain ⟨D2, hV2⟩ := hP2.vp'
  have hl1 : (X.map (nam to frm)).length = X.length := List.length_map ..
  have hl2 : (X.map (nam to frm)).reverse.length = X.length := by rw [List.length_reverse, hl1]
  have hlen : (X.map nL).length = X.length := List.length_map ..
  have hlen2 : ((X.map (nam to frm)).reverse.map nL).length = X.length := by rw [List.length_map, hl2]
  have hc1 : ∀ Y : List (List Nat), ((cutC w Y).map nL).length = Y.length := fun Y => by simp [cutC]
  have r1 := rev_ok ((X.map (nam to frm)).map nL) (by rw [List.length_map, hl1]; omega)
  rw [List.length_map, hl1, ← List.map_reverse] at r1
  have r2 := rev_ok ((cutC w (X.map (nam to frm))).map nL) (by rw [hc1, hl1]; omega)
  rw [hc1, hl1, cut_rev] at r2
  have hr : ∀ r ∈ X.map nL, r.length ≤ 1000 := fun r hr => by rw [vp_len hV r hr]; omega
  have hr2 : ∀ r ∈ (X.map (nam to frm)).reverse.map nL, r.length ≤ 1000 := fun r hr => by rw [vp_len hV2 r hr]; omega
  have hr3 : ∀ Y : List (List Nat), Pl n Y → ∀ r ∈ (cutC w Y).map nL, r.length ≤ 1000 := fun Y hY r hr => by
    obtain ⟨x, hx, rfl⟩ := List.mem_map.1 hr
    obtain ⟨y, hy, rfl⟩ := List.mem_map.1 hx
    rw [nL_len, List.length_take, ext_len (hY.row y hy)]; omega
  have e25 := (count_ok 5000 (by omega) (n : Int) (X.map nL) (by omega) hr).1
  have e25' := count2_ok 5000 (by omega) (n : Int) ((X.map (nam to frm)).reverse.map nL) (by omega) hr2
  have hcn : cntE n ((X.map (nam to frm)).reverse.map nL) = cntE n (X.map nL) := by
    unfold cntE
    rw [vp_chk hn1 hn hV hX, vp_chk hn1 hn hV2 (by omega), hlen, hlen2, toNatN, nam_eq (by omega) ht hf hP.row fun y => List.mem_reverse]
  have f1 := fill3_ok 5000 (by omega) (n : Int) ((cutC w X).map nL) (by rw [hc1]; omega) (hr3 X hP)
  have f2 := fill3_ok 5000 (by omega) (n : Int) ((cutC w (X.map (nam to frm)).reverse).map nL) (by rw [hc1, hl2]; omega) (hr3 _ hP2)
  have z1 := fil_zero hn1 hn hw hP hX
  have z2 := fil_zero hn1 hn hw hP2 (by omega)
  have g1 := why_ok 5000 (by omega) (n : Int) ((cutC w (X.map (nam to frm)).reverse).map nL) (by rw [hc1, hl2]; omega) (hr3 _ hP2)
  have hwhy : whyE n ((cutC w (X.map (nam to frm)).reverse).map nL) = (0, 13) := by
    unfold whyE
    rw [if_neg (by rw [cut_chk hn1 hn hw hP2 (by omega)]; simp), toNatN, cut_bars hn hw hP2]
  have m16t : m16 5000 = some (.bool true) := rfl
  rw [hlen] at e25
  rw [hlen2, hcn] at e25'
  rw [hc1, z1] at f1
  rw [hc1, hl2, z2] at f2
  rw [hc1, hl2, hwhy] at g1
  rw [m13, getA7_n, getA5_t, getA5_t, e37, bnd_t, getT2_t, getI_t, getL_t, grd_t (by rw [wrapN (by omega)]; omega), grd_t ⟨by omega, by omega, by omega⟩, toNatN, hrep, show m13_L0 5000 (wd : Int) (.int .u8 (a0 : Int)) (.int .u8 (a1 : Int)) (.int .u8 (a2 : Int)) (.int .u8 (a3 : Int)) (.int .u8 (a4 : Int)) (.int .u8 (b0 : Int)) (.int .u8 (b1 : Int)) (.int .u8 (b2 : Int)) (.int .u8 (b3 : Int)) (.int .u8 (b4 : Int)) (n : Int) X.length (rwsP (X.map nL)) 5000 0 (iL (nL ([] ++ List.replicate (n - 0) 0))) (iL (nL ([] ++ List.replicate (n - 0) 0))) = _ from eN, bnd_t]
  dsimp only
  rw [show m13_L1 5000 (wd : Int) (n : Int) X.length (rwsP (X.map nL)) (iL (nL to)) (iL (nL frm)) 5000 0 0 0 0 [] [] [] = _ from e1, bnd_t]
  dsimp only
  rw [r1, bnd_t]
  dsimp only
  rw [getT0_t, r2, bnd_t]
  dsimp only
  rw [getT0_t, e25, bnd_t, getT2_t, getI_t, getI_t, e25', bnd_t]
  dsimp only
  rw [getT2_t, getI_t, getI_t, brn_nf rfl, brn_nf rfl, f1, bnd_t]
  dsimp only
  rw [getT2_t, getL_t, getI_t, f2, bnd_t]
  dsimp only
  rw [getT2_t, getL_t, getI_t, grd_t (by rw [rws_len, hc1, hl2]), g1, bnd_t, getT2_t, getI_t, getI_t, brn_et rfl, brn_et rfl, brn_et rfl, m16t, bnd_t, getB_t]
end Go.Proofs.YtcaecfofgdogbaaDoor
namespace Go.Proofs.YtcaecfofgdogbaaDoor
open Go.V
theorem oct_of {x : List PV} (h : PT tab 5 x) : ∃ n : Nat, n < 256 ∧ x = [.int .u8 (n : Int)] := by
  obtain ⟨a, e, h1, h2⟩ := h.int' tl5 rfl
  have h1' : (0 : Int) ≤ a := h1
  have h2' : a ≤ 255 := h2
  exact ⟨a.toNat, by omega, by rw [e]; congr 2; omega⟩
theorem rota_of {qs : List PV} (h : PT tab 40 qs) : ∃ a b c0 c1 c2 c3 c4 : Nat, (a < 256 ∧ b < 256 ∧ c0 < 256 ∧ c1 < 256 ∧ c2 < 256 ∧ c3 < 256 ∧ c4 < 256) ∧ qs = [.int .u8 (a : Int), .int .u8 (b : Int), .int .u8 (c0 : Int), .int .u8 (c1 : Int), .int .u8 (c2 : Int), .int .u8 (c3 : Int), .int .u8 (c4 : Int)] := by
  obtain ⟨x, rs, rfl, hx, h⟩ := (h.structs tl40 rfl).cons'
  obtain ⟨y, rs, rfl, hy, h⟩ := h.cons'
  obtain ⟨z, rs, rfl, hz, h⟩ := h.cons'
  obtain rfl := h.nil'
  obtain ⟨a, ha, rfl⟩ := oct_of hx
  obtain ⟨b, hb, rfl⟩ := oct_of hy
  obtain ⟨xs, rfl, hl, hxs⟩ := hz.arr' tl38 rfl
  match xs, hl with
  | [p, q, r, s, t], _ =>
    obtain ⟨c0, h0, rfl⟩ := oct_of (hxs p (by simp))
    obtain ⟨c1, h1, rfl⟩ := oct_of (hxs q (by simp))
    obtain ⟨c2, h2, rfl⟩ := oct_of (hxs r (by simp))
    obtain ⟨c3, h3, rfl⟩ := oct_of (hxs s (by simp))
    obtain ⟨c4, h4, rfl⟩ := oct_of (hxs t (by simp))
    exact ⟨a, b, c0, c1, c2, c3, c4, ⟨ha, hb, h0, h1, h2, h3, h4⟩, rfl⟩
theorem five_of {x : List PV} (h : PT tab 38 x) : ∃ a b c d e : Nat, (∀ j, j < 5 → gn [a, b, c, d, e] j < 256) ∧ x = [.int .u8 (a : Int), .int .u8 (b : Int), .int .u8 (c : Int), .int .u8 (d : Int), .int .u8 (e : Int)] := by
  obtain ⟨xs, rfl, hl, hxs⟩ := h.arr' tl38 rfl
  match xs, hl with
  | [p, q, r, s, t], _ =>
    obtain ⟨c0, h0, rfl⟩ := oct_of (hxs p (by simp))
    obtain ⟨c1, h1, rfl⟩ := oct_of (hxs q (by simp))
    obtain ⟨c2, h2, rfl⟩ := oct_of (hxs r (by simp))
    obtain ⟨c3, h3, rfl⟩ := oct_of (hxs s (by simp))
    obtain ⟨c4, h4, rfl⟩ := oct_of (hxs t (by simp))
    refine ⟨c0, c1, c2, c3, c4, fun j hj => ?_, rfl⟩
    match j, hj with
    | 0, _ => exact h0
    | 1, _ => exact h1
    | 2, _ => exact h2
    | 3, _ => exact h3
    | 4, _ => exact h4
theorem con13 (x0 : List PV) (hx : PT tab 40 x0) (x1 : List PV) (hy : PT tab 38 x1) (x2 : List PV) (hz : PT tab 38 x2) (x3 : PV) (hw : PT tab 5 [x3]) : FnP Tryd.prog 13 [.agg x0, .agg x1, .agg x2, x3] (.bool true) := by
  obtain ⟨a, b, c0, c1, c2, c3, c4, ⟨ha, hb, h0, h1, h2, h3, h4⟩, rfl⟩ := rota_of hx
  obtain ⟨a0, a1, a2, a3, a4, hA, rfl⟩ := five_of hy
  obtain ⟨b0, b1, b2, b3, b4, hB, rfl⟩ := five_of hz
  obtain ⟨w, hwd, e⟩ := oct_of hw
  cases e
  exact FnP_le (c13 5000 _ _ _ _ _ (law13 a b c0 c1 c2 c3 c4 ha hb h0 h1 h2 h3 h4 a0 a1 a2 a3 a4 b0 b1 b2 b3 b4 hA hB w hwd)) (.cons _ _ _ _ (.refl _) (.cons _ _ _ _ (.refl _) (.cons _ _ _ _ (.refl _) (.cons _ _ _ _ (.refl _) .nil)))) (.refl _)
end Go.Proofs.YtcaecfofgdogbaaDoor
namespace Go.Proofs.YtcaecfofgdogbaaDoor.weekNamed
open Go.ChangeShapes Go.WideShapes Go.ChangeAt Go.RowKit Go.V
theorem own : ownKnob Tryd.prog.godebug = none := by kernel_rfl
theorem laid : laidOutB Tryd.prog = true := by kernel_rfl
set_option maxRecDepth 100000 in
theorem lifted (os : Os) (started : os.Started) (H : Type) (enc : TypeId × Value → H) :
    ReturnsInHanded {} Tryd.checked os 13 .any (fun w args => (Rows.weekNamedSpec.pre enc Tryd.prog Tryd.f13 [] false w args ∧ laidMetH Tryd.prog [("math/bits.deBruijn32tab", Rows.laid_math_bits_deBruijn32tab), ("math/bits.deBruijn64tab", Rows.laid_math_bits_deBruijn64tab)] w) ∧ sizedMet enc Tryd.prog Tryd.f13 (OpenSpec.ofChange Rows.weekNamedSpec) false w args)
      (Rows.weekNamedSpec.post enc Tryd.prog Tryd.f13 false true false false) := by
  refine returnsInHanded_of_change_and (C := Tryd.checked) (X := fun w _ => laidMetH Tryd.prog [("math/bits.deBruijn32tab", Rows.laid_math_bits_deBruijn32tab), ("math/bits.deBruijn64tab", Rows.laid_math_bits_deBruijn64tab)] w) (fun _ _ _ hh h => h.of_heap hh) own started (by kernel_rfl) Tryd.func13
    (ChangeSpec.witness_shaped (enc := enc) (C := Tryd.checked) (os := os) (X := fun w _ => laidMetH Tryd.prog [("math/bits.deBruijn32tab", Rows.laid_math_bits_deBruijn32tab), ("math/bits.deBruijn64tab", Rows.laid_math_bits_deBruijn64tab)] w) false (World.laidAll Tryd.prog os [("math/bits.deBruijn32tab", Rows.laid_math_bits_deBruijn32tab), ("math/bits.deBruijn64tab", Rows.laid_math_bits_deBruijn64tab)]) #[.agg #[.int .u8 0, .int .u8 0, .int .u8 0, .int .u8 0, .int .u8 0, .int .u8 0, .int .u8 0], .agg #[.int .u8 0, .int .u8 0, .int .u8 0, .int .u8 0, .int .u8 0], .agg #[.int .u8 0, .int .u8 0, .int .u8 0, .int .u8 0, .int .u8 0], .int .u8 0] 8 (World.laidAll_os _ _ _)
      (World.shaped_of_ZipB (by kernel_rfl) (by kernel_rfl)) (by kernel_rfl) (by kernel_rfl) (by kernel_rfl)
      (by rw [MakeChecks.laidMetH_plain _ _ _ (by kernel_rfl)]; exact laidMet_laidAll _ (by kernel_rfl) (by kernel_rfl))) ?_
  intro W base args ds gs before hval0 hW _ _ hL _
  have hW' := hW
  obtain ⟨p, q, hA0, hV, rfl, hfz, hnd⟩ := hW
  have hA : DataW.TrodAll enc Tryd.prog W 0 (fun _ => true) true Tryd.f13.params.toList args.toList ds p := hA0
  rw [Tryd.params13] at hA
  obtain ⟨v0, vs0, d0, ds0, p0, q0, e0, rfl, rfl, h0, hr0⟩ := trodAll_cons hA
  obtain ⟨v1, vs1, d1, ds1, p1, q1, e1, rfl, rfl, h1, hr1⟩ := trodAll_cons hr0
  obtain ⟨v2, vs2, d2, ds2, p2, q2, e2, rfl, rfl, h2, hr2⟩ := trodAll_cons hr1
  obtain ⟨v3, vs3, d3, ds3, p3, q3, e3, rfl, rfl, h3, hr3⟩ := trodAll_cons hr2
  obtain ⟨rfl, rfl, rfl⟩ := trodAll_nil hr3
  subst e3
  subst e2
  subst e1
  obtain rfl : args = #[v0, v1, v2, v3] := by cases args; simp_all
  obtain ⟨x0, k0, t0⟩ := arg_agg (n := 8) tab_ok (hval0 0 40 v0 rfl rfl) h0 (by kernel_rfl) (by kernel_rfl)
  obtain ⟨x1, k1, t1⟩ := arg_agg (n := 8) tab_ok (hval0 1 38 v1 rfl rfl) h1 (by kernel_rfl) (by kernel_rfl)
  obtain ⟨x2, k2, t2⟩ := arg_agg (n := 8) tab_ok (hval0 2 38 v2 rfl rfl) h2 (by kernel_rfl) (by kernel_rfl)
  obtain ⟨x3, k3, t3⟩ := arg_one (n := 8) tab_ok (hval0 3 5 v3 rfl rfl) h3 (by kernel_rfl) (by kernel_rfl)
  obtain ⟨rfl, rfl⟩ := trodVars_none hV
  clear hA0 hval0
  simp only [List.append_nil] at hW'
  refine (FnP.calls (W := W) (vals := #[v0, v1, v2, v3]) (con13 x0 t0 x1 t1 x2 t2 x3 t3) (.cons _ _ _ _ k0 (.cons _ _ _ _ k1 (.cons _ _ _ _ k2 (.cons _ _ _ _ k3 .nil)))) (laidG hL)).mono fun e W' ⟨he, hg⟩ => ?_
  subst he
  exact ⟨_, rfl, post_of_kept (pv := []) hW' (fun _ _ _ => trodAll_cons_mk (shut_bool Tryd.underlying4 _) trodAll_mk0) (fun sp hsp => trodAll_cons_mk (Kept.trod hg laid (by kernel_rfl) (of_decide_eq_true (by kernel_rfl)) h0 (fun y hy => hsp y (by simp [hy]))) (trodAll_cons_mk (Kept.trod hg laid (by kernel_rfl) (of_decide_eq_true (by kernel_rfl)) h1 (fun y hy => hsp y (by simp [hy]))) (trodAll_cons_mk (Kept.trod hg laid (by kernel_rfl) (of_decide_eq_true (by kernel_rfl)) h2 (fun y hy => hsp y (by simp [hy]))) (trodAll_cons_mk (Kept.trod hg laid (by kernel_rfl) (of_decide_eq_true (by kernel_rfl)) h3 (fun y hy => hsp y (by simp [hy]))) (trodAll_mk0))))) (fun _ _ => rfl) (by simp)
    hg (ok_one (by kernel_rfl) rfl (okWide_bool_mk Tryd.underlying4 _))⟩
theorem over : Rows.weekNamedRow.holds Tryd.pinned (OpenSpec.ofChange Rows.weekNamedSpec) :=
  OpenClaim.holds_of_wide 13 Tryd.f13 rfl rfl rfl rfl rfl rfl rfl ⟨rfl, rfl, rfl, rfl, rfl⟩ rfl rfl rfl rfl rfl (by kernel_rfl) Tryd.func13 (by kernel_rfl)
    (of_decide_eq_true (by kernel_rfl)) (by unfold Func.isWrapper; first | (rw [if_pos (by decide +kernel)]; kernel_rfl) | (rw [if_neg (by decide +kernel)]; exact ⟨rfl, rfl⟩))
    (fun os started H enc _ => lifted os started H enc)
theorem card : Rows.WeekNamedCardSaid :=
  Claim7.holds_tied_plain_at .later [] [.data, .data] true (true, "b10945a5c0c6bbe518806a5b2982a3effa3ad2c65afd0553d66b8bf8a483c2f3") true (over) (fun _ h => by cases h) (by kernel_rfl) (fun _ h => by cases h) weekNamed_row_tie rfl ⟨rfl, rfl⟩ (by kernel_rfl) rfl
    (fun f fn hf hfn => by
      obtain rfl : f = 13 := Option.some.inj ((show Tryd.prog.funcNamed "breeze/breezelaw03.WeekNamed" = some 13 by kernel_rfl).symm.trans hf) |>.symm
      obtain rfl : fn = Tryd.f13 := (Option.some.inj (Tryd.func13.symm.trans hfn)).symm
      exact ⟨by kernel_rfl, fun j t ht => by
        rw [Tryd.params13] at ht
        rcases j with _ | _ | _ | _ | j
        · obtain rfl : t = 40 := by simpa using ht.symm
          exact (show Tryd.prog.wantsStandIn 40 = false by kernel_rfl)
        · obtain rfl : t = 38 := by simpa using ht.symm
          exact (show Tryd.prog.wantsStandIn 38 = false by kernel_rfl)
        · obtain rfl : t = 38 := by simpa using ht.symm
          exact (show Tryd.prog.wantsStandIn 38 = false by kernel_rfl)
        · obtain rfl : t = 5 := by simpa using ht.symm
          exact (show Tryd.prog.wantsStandIn 5 = false by kernel_rfl)
        · simp at ht⟩)
    (by kernel_rfl)
end Go.Proofs.YtcaecfofgdogbaaDoor.weekNamed
namespace Go.Proofs.YtcaecfofgdogbaaDoor
/-- the statement -/
theorem weekNamed_holds : Rows.WeekNamedCardSaid := weekNamed.card
#print axioms weekNamed_holds
end Go.Proofs.YtcaecfofgdogbaaDoor
