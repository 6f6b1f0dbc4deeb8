/-
  CrewRings: the law returns true.
-/
import Derived.Test.YtnponojgpkbagaaDoorQCring2
import Derived.Test.YtnponojgpkbagaaDoorQMostA
import Derived.Test.YtnponojgpkbagaaDoorQV32
import Derived.Test.YtnponojgpkbagaaDoorRows
import Derived.Test.YtnponojgpkbagaaDoorCards
import Derived.Test.YtnponojgpkbagaaDoorTie
import Derived.Test.YtnponojgpkbagaaDoorQV31
import Derived.WalkKit
import Derived.ProofKit
import Derived.OpenShut
import Derived.Lay
import Derived.SevenTiedAt
import Derived.MakeChecks
namespace Go.Proofs.YtnponojgpkbagaaDoor
open Go.V Go.Crew
set_option linter.unusedSectionVars false
set_option linter.unnecessarySimpa false
def rwN (l : List Nat) : PV := .lst false l.length (nL l)
def sel (D : List (Nat × Nat)) (l : List Nat) : List (Nat × Nat) := l.map (pN D)
theorem sel_len (D : List (Nat × Nat)) (l : List Nat) : (sel D l).length = l.length := by simp [sel]
theorem sel_lt {D : List (Nat × Nat)} {m : Nat} (hD : ∀ p ∈ D, p.1 < m ∧ p.2 < m) {l : List Nat} (hl : ∀ k ∈ l, k < D.length) : ∀ p ∈ sel D l, p.1 < m ∧ p.2 < m := fun p hp => by
  obtain ⟨k, hk, rfl⟩ := List.mem_map.1 hp
  exact hD _ (pN_mem (hl k hk))
theorem sel_L (N : Nat) (D : List (Nat × Nat)) (l : List Nat) (hl : ∀ k ∈ l, k < D.length) (h5 : l.length ≤ 100) : ∀ (r i fuel : Nat), l.length - i = r → i ≤ l.length → r < fuel →
    m69_L0 N l.length (nL l) D.length (prsI (cL D)) fuel i (i : Int) (prsI (cL (sel D (l.take i)))) = some (l.length, prsI (cL (sel D l)))
  | r, i, 0, _, _, h => by omega
  | r, i, f + 1, hr, hi, hf => by
    have hnl := nL_len l
    rw [m69_L0]
    by_cases h : i < l.length
    · have ih := sel_L N D l hl h5 (r - 1) (i + 1) f (by omega) (by omega) (by omega)
      have hx := hl _ (nn_mem h)
      have hx' : nn l i < (cL D).length := by rw [cL_len]; exact hx
      have hlen : (prsI (cL (sel D (l.take i)))).length = i * 2 := by rw [prsI_len, cL_len, sel_len, List.length_take, Nat.min_eq_left (by omega)]
      rw [brn_t (decide_eq_true (by omega)), toNatN, grd_t ⟨by omega, by omega⟩, grd_t (by simp only [List.length_drop]; omega), nL_gp h, getI_t, toNatN, grd_t ⟨by omega, by omega⟩, grd_t (prsI_two' hx'), prsI_two hx', cL_pI hx, getA2_t, grd_t (by omega), grd_t hlen, wrapN (by omega)]
      have e : prsI (cL (sel D (l.take i))) ++ [PV.int .i64 (cI (pN D (nn l i))).1, PV.int .i64 (cI (pN D (nn l i))).2] = prsI (cL (sel D (l.take (i + 1)))) := by
        rw [List.take_add_one]
        have : l[i]? = some (nn l i) := by simp [nn, List.getD, h]
        rw [this]
        simp [sel, cL, prsI, prI]
      rw [e]; exact ih
    · rw [brn_f (decide_eq_false (by omega)), List.take_of_length_le (by omega), show i = l.length by omega]
def ring (D : List (Nat × Nat)) (l : List Nat) : Bool := decide (rk (sel D l) < l.length)
theorem ring1_ok (D : List (Nat × Nat)) (hD : Ok D) (l : List Nat) (hl : ∀ k ∈ l, k < D.length) (h5 : l.length ≤ 100) : m69 2000 (.lst false l.length (nL l)) (.lst false D.length (prsI (cL D))) = some (.bool (ring D l)) := by
  have e := sel_L 2000 D l hl h5 l.length 0 2000 (by omega) (by omega) (by omega)
  have hs : Ok (sel D l) := sel_lt (m := 5) hD hl
  have c := count_ok (sel D l) hs (by rw [sel_len]; omega)
  rw [sel_len] at c
  rw [m69, getL_t, getL_t, show m69_L0 2000 l.length (nL l) D.length (prsI (cL D)) 2000 0 0 [] = _ from e, bnd_t]
  simp only []
  rw [grd_t (by rw [prsI_len, cL_len, sel_len]), c, bnd_t, getI_t]
  unfold ring
  congr 2
  rw [Bool.eq_iff_iff]; simp
section
end
theorem memb_lt_all : ((List.range 6).all fun m => (List.range (2 ^ m)).all fun s => (memb s).all fun k => decide (k < m)) = true := by decide +kernel
theorem memb_lt {s m : Nat} (hm : m ≤ 5) (hs : s < 2 ^ m) : ∀ k ∈ memb s, k < m := fun k hk => by
  have := List.all_eq_true.1 (List.all_eq_true.1 (List.all_eq_true.1 memb_lt_all m (List.mem_range.2 (by omega))) s (List.mem_range.2 hs)) k hk
  simpa using this
theorem same_L (N : Nat) (X : List Nat) (hX : X.length ≤ 1000) : ∀ (r i fuel : Nat), X.length - i = r → r < fuel → m21_L0 N X.length (nL X) X.length (nL X) fuel (i : Int) = some (.inr ())
  | r, i, 0, _, h => by omega
  | r, i, f + 1, hr, hf => by
    have hl := nL_len X
    rw [m21_L0]
    by_cases h : i < X.length
    · rw [brn_t (decide_eq_true (by omega)), toNatN, grd_t ⟨by omega, by omega⟩, grd_t (by simp only [List.length_drop]; omega), nL_gp h, getI_t, grd_t (by omega), grd_t (by simp only [List.length_drop]; omega), getI_t, brn_f (by simp), wrapN (by omega)]
      exact same_L N X hX (r - 1) (i + 1) f (by omega) (by omega)
    · rw [brn_f (decide_eq_false (by omega))]
theorem same_ok (X : List Nat) (hX : X.length ≤ 1000) : m21 2000 (.lst false X.length (nL X)) (.lst false X.length (nL X)) = some (.bool true) := by
  have := same_L 2000 X hX X.length 0 2000 (by omega) (by omega)
  rw [m21, getL_t, getL_t, brn_f (by simp), show m21_L0 2000 X.length (nL X) X.length (nL X) 2000 0 = _ from this, bnd_t]
section
end
theorem nL_snoc (c : List Nat) (i : Nat) : nL c ++ [PV.int .i64 (i : Int)] = nL (c ++ [i]) := by simp [nL]
theorem cL_pk {L : List (Nat × Nat)} {i : Nat} (h : i < L.length) : pI (cL L) i = cI (pk L i) := cL_pI h
theorem pk_mem {L : List (Nat × Nat)} {i : Nat} (h : i < L.length) : pk L i ∈ L := pN_mem h
section
end
section
end
theorem prs_snoc (P : List (Nat × Nat)) (p : Nat × Nat) : prsI (cL P) ++ [PV.int .i64 (p.1 : Int), .int .i64 (p.2 : Int)] = prsI (cL (P ++ [p])) := by simp [prsI, cL, prI, cI]
section
end
section
end
section
end
theorem mem_ls {n : Nat} : ∀ (m k : Nat) (l : List Nat), l ∈ ls n m k ↔ l.length = m ∧ l.Pairwise (· < ·) ∧ ∀ x ∈ l, k ≤ x ∧ x < n
  | 0, k, l => by
    simp only [ls, List.mem_singleton]
    constructor
    · rintro rfl; simp
    · intro h; exact List.eq_nil_of_length_eq_zero h.1
  | m + 1, k, [] => by simp [ls]
  | m + 1, k, x :: l => by
    simp only [ls, List.mem_flatMap, List.mem_map, List.mem_range', List.cons.injEq]
    constructor
    · rintro ⟨y, ⟨i, hi, rfl⟩, l', h, h1, rfl⟩
      obtain ⟨a, b, c⟩ := (mem_ls m (k + 1 * i + 1) l').1 h
      subst h1
      refine ⟨by simp [a], List.pairwise_cons.2 ⟨fun z hz => by have := c z hz; omega, b⟩, fun z hz => ?_⟩
      rcases List.mem_cons.1 hz with rfl | hz
      · omega
      · have := c z hz; omega
    · rintro ⟨a, b, c⟩
      obtain ⟨b1, b2⟩ := List.pairwise_cons.1 b
      have hx := c x (.head _)
      exact ⟨x, ⟨x - k, by omega, by omega⟩, l, (mem_ls m (x + 1) l).2 ⟨by simpa using a, b2, fun z hz => ⟨b1 z hz, (c z (.tail _ hz)).2⟩⟩, rfl, rfl⟩
theorem mem_upT {n : Nat} {l : List Nat} : l ∈ upT n ↔ l.length ≤ n ∧ l.Pairwise (· < ·) ∧ ∀ x ∈ l, x < n := by
  simp only [upT, List.mem_flatMap, List.mem_range, mem_ls]
  constructor
  · rintro ⟨m, hm, rfl, b, c⟩; exact ⟨by omega, b, fun x hx => (c x hx).2⟩
  · rintro ⟨a, b, c⟩; exact ⟨_, by omega, rfl, b, fun x hx => ⟨Nat.zero_le _, c x hx⟩⟩
theorem sorted_ext : ∀ {a b : List Nat}, a.Pairwise (· < ·) → b.Pairwise (· < ·) → (∀ x, x ∈ a ↔ x ∈ b) → a = b
  | [], [], _, _, _ => rfl
  | [], y :: b, _, _, h => by have := (h y).2 (.head _); cases this
  | x :: a, [], _, _, h => by have := (h x).1 (.head _); cases this
  | x :: a, y :: b, ha, hb, h => by
    obtain ⟨a1, a2⟩ := List.pairwise_cons.1 ha
    obtain ⟨b1, b2⟩ := List.pairwise_cons.1 hb
    have e : x = y := by
      rcases List.mem_cons.1 ((h x).1 (.head _)) with h1 | h1
      · exact h1
      · rcases List.mem_cons.1 ((h y).2 (.head _)) with h2 | h2
        · exact h2.symm
        · have := b1 _ h1; have := a1 _ h2; omega
    subst e
    congr 1
    refine sorted_ext a2 b2 fun z => ⟨fun hz => ?_, fun hz => ?_⟩
    · rcases List.mem_cons.1 ((h z).1 (.tail _ hz)) with rfl | h1
      · have := a1 _ hz; omega
      · exact h1
    · rcases List.mem_cons.1 ((h z).2 (.tail _ hz)) with rfl | h1
      · have := b1 _ hz; omega
      · exact h1
theorem upT_filt {n : Nat} {l : List Nat} (h : l ∈ upT n) : (List.range n).filter (fun x => l.contains x) = l := by
  obtain ⟨_, b, c⟩ := mem_upT.1 h
  refine sorted_ext (List.Pairwise.filter _ List.pairwise_lt_range) b fun x => ?_
  simp only [List.mem_filter, List.mem_range, List.contains_iff_mem]
  exact ⟨fun h => h.2, fun h => ⟨c x h, h⟩⟩
theorem memb_up {d s : Nat} (hd : d ≤ 5) (hs : s < 2 ^ d) : memb s ∈ upT d := by
  rw [← (sorted_n hd).2.2.1]
  exact List.mem_map.2 ⟨s, List.mem_range.2 hs, rfl⟩
structure Sd (n c : Nat) (l : List (Nat × Nat)) : Prop where
  lt : ∀ p ∈ l, p.1 < p.2 ∧ p.2 < n ∧ p.1 * 5 + p.2 < c
  inc : l.Pairwise fun p q => p.1 * 5 + p.2 < q.1 * 5 + q.2
theorem Sd.mono {n c c' : Nat} {l : List (Nat × Nat)} (h : Sd n c l) (hc : c ≤ c') : Sd n c' l := ⟨fun p hp => by have := h.lt p hp; omega, h.inc⟩
theorem Sd.snoc {n c : Nat} {l : List (Nat × Nat)} (h : Sd n c l) {a b : Nat} (h1 : a < b) (h2 : b < n) (hc : c ≤ a * 5 + b) : Sd n (a * 5 + b + 1) (l ++ [(a, b)]) := by
  refine ⟨fun p hp => ?_, List.pairwise_append.2 ⟨h.inc, List.pairwise_singleton _ _, fun p hp q hq => ?_⟩⟩
  · rcases List.mem_append.1 hp with hp | hp
    · have := h.lt p hp; omega
    · simp only [List.mem_singleton] at hp; subst hp; simp only []; omega
  · simp only [List.mem_singleton] at hq; subst hq
    have := h.lt p hp
    simp only []; omega
theorem prsI_snoc (l : List (Nat × Nat)) (a b : Nat) : prsI (cL l) ++ [.int .i64 (a : Int), .int .i64 (b : Int)] = prsI (cL (l ++ [(a, b)])) := by simp [prsI, cL, cI, prI]
section
variable (N : Nat) (hN : 2000 ≤ N) (S Km M : Nat) (hM : M ≤ 6) (x y : Int) (X0 X1 X2 X3 X4 : Int) (n : Nat) (hn : n ≤ 5) (hB : IntKind.i64.wrap (1 + (Int.tmod (IntKind.i64.wrap x) (S : Int))) = (n : Int))
include hN hM hn hB
theorem made_L2 (p0 p1 p2 p3 p4 : PV) (z : Int) (nk : Nat) (ck : List PV) (set : Int) (a : Nat) : ∀ (r b fuel k : Nat) (l : List (Nat × Nat)), n - b = r → a < b → b ≤ n → l.length ≤ M → k + r ≤ 100 → r < fuel → Sd n (a * 5 + b) l →
    ∃ (l' : List (Nat × Nat)) (k' : Nat), m40_L2 N (S : Int) (Km : Int) (M : Int) p0 p1 p2 p3 p4 x y z nk ck set (a : Int) fuel l.length (k : Int) (b : Int) (prsI (cL l)) = some (l'.length, (k' : Int), prsI (cL l')) ∧ l'.length ≤ M ∧ k' = k + (n - b) ∧ Sd n (a * 5 + n) l'
  | r, b, 0, _, _, _, _, _, _, _, h, _ => by omega
  | r, b, f + 1, k, l, hr, hab, hb, hl, hk, hf, hs => by
    rw [m40_L2, hB]
    by_cases h : b < n
    · rw [brn_t (by simp; omega), grd_t (by omega)]
      have skip : ∃ (l' : List (Nat × Nat)) (k' : Nat), m40_L2 N (S : Int) (Km : Int) (M : Int) p0 p1 p2 p3 p4 x y z nk ck set (a : Int) f l.length (IntKind.i64.wrap ((k : Int) + 1)) (IntKind.i64.wrap ((b : Int) + 1)) (prsI (cL l)) = some (l'.length, (k' : Int), prsI (cL l')) ∧ l'.length ≤ M ∧ k' = k + (n - b) ∧ Sd n (a * 5 + n) l' := by
        obtain ⟨l', k', e1, e2, e3, e4⟩ := made_L2 p0 p1 p2 p3 p4 z nk ck set a (r - 1) (b + 1) f (k + 1) l (by omega) (by omega) (by omega) hl (by omega) (by omega) (hs.mono (by omega))
        rw [wrapN (by omega), wrapN (by omega)]
        exact ⟨l', k', e1, e2, by omega, e4⟩
      generalize hc : (bitsI .and .u16 (Int.fdiv set (2 ^ (min (Int.toNat (k : Int)) 16))) 1 == 1) = c
      cases c with
      | false => rw [brn_f rfl]; exact skip
      | true =>
        rw [brn_t rfl]
        by_cases hm : l.length < M
        · obtain ⟨l', k', e1, e2, e3, e4⟩ := made_L2 p0 p1 p2 p3 p4 z nk ck set a (r - 1) (b + 1) f (k + 1) (l ++ [(a, b)]) (by omega) (by omega) (by omega) (by simp; omega) (by omega) (by omega) (hs.snoc hab h (by omega))
          rw [brn_t (by simp; omega), grd_t (by omega), grd_t (by rw [prsI_len, cL_len]), wrapN (by omega), wrapN (by omega), prsI_snoc]
          rw [List.length_append] at e1
          exact ⟨l', k', e1, e2, by omega, e4⟩
        · rw [brn_f (by simp; omega)]; exact skip
    · rw [brn_f (by simp; omega)]
      exact ⟨l, k, rfl, hl, by omega, hs.mono (by omega)⟩
theorem made_L1 (p0 p1 p2 p3 p4 : PV) (z : Int) (nk : Nat) (ck : List PV) (set : Int) : ∀ (r a fuel k : Nat) (l : List (Nat × Nat)), n - a = r → a ≤ n → l.length ≤ M → k ≤ a * 5 → r < fuel → Sd n (a * 5) l → 
    ∃ l', m40_L1 N (S : Int) (Km : Int) (M : Int) p0 p1 p2 p3 p4 x y z nk ck set fuel l.length (k : Int) (a : Int) (prsI (cL l)) = some (l'.length, prsI (cL l')) ∧ l'.length ≤ M ∧ Sd n 25 l'
  | r, a, 0, _, _, _, _, _, _, h, _ => by omega
  | r, a, f + 1, k, l, hr, ha, hl, hk, hf, hs => by
    rw [m40_L1, hB]
    by_cases h : a < n
    · obtain ⟨l', k', e1, e2, e3, e4⟩ := made_L2 N hN S Km M hM x y n hn hB p0 p1 p2 p3 p4 z nk ck set a (n - (a + 1)) (a + 1) N k l rfl (by omega) (by omega) hl (by omega) (by omega) (hs.mono (by omega))
      obtain ⟨l2, f1, f2, f3⟩ := made_L1 p0 p1 p2 p3 p4 z nk ck set (r - 1) (a + 1) f k' l' (by omega) (by omega) e2 (by omega) (by omega) (e4.mono (by omega))
      rw [brn_t (by simp; omega), wrapN (by omega), e1]
      simp only [bnd']
      exact ⟨l2, f1, f2, f3⟩
    · rw [brn_f (by simp; omega)]
      exact ⟨l, rfl, hl, hs.mono (by omega)⟩
theorem made_L0 (m : Nat) (hm : (((Int.toNat (Int.tmod (IntKind.i64.wrap y) (IntKind.i64.wrap ((Km : Int) + 1)))) : Nat) : Int) = (m : Int)) (hm5 : m ≤ 5) : ∀ (r i fuel : Nat) (K : List (List (Nat × Nat))), m - i = r → i ≤ m → K.length = i → r < fuel → (∀ l ∈ K, l.length ≤ M ∧ Sd n 25 l) →
    ∃ K', m40_L0 N (S : Int) (Km : Int) (M : Int) (.int .u16 X0) (.int .u16 X1) (.int .u16 X2) (.int .u16 X3) (.int .u16 X4) x y fuel (i : Int) K.length (knsI (cK K)) = some (K'.length, knsI (cK K')) ∧ K'.length = m ∧ ∀ l ∈ K', l.length ≤ M ∧ Sd n 25 l
  | r, i, 0, _, _, _, _, h, _ => by omega
  | r, i, f + 1, K, hr, hi, hK, hf, hs => by
    have hkl : (knsI (cK K)).length = K.length := by rw [knsI_len, cK_len]
    rw [m40_L0, hm]
    by_cases h : i < m
    · rw [brn_t (by simp; omega), toNatN, grd_t ⟨by omega, by omega⟩, grd_t (by omega)]
      have go : ∀ set : Int, ∃ K', (bnd' (m40_L1 N (S : Int) (Km : Int) (M : Int) (.int .u16 X0) (.int .u16 X1) (.int .u16 X2) (.int .u16 X3) (.int .u16 X4) x y (i : Int) K.length (knsI (cK K)) set N 0 0 0 []) fun o =>
          match o with
          | (n693, c694) =>
            grd ((K.length + 1) ≤ 1099511627776) <|
            grd (List.length (knsI (cK K)) = K.length) <|
            grd (List.length c694 = (n693 * 2)) <|
            m40_L0 N (S : Int) (Km : Int) (M : Int) (.int .u16 X0) (.int .u16 X1) (.int .u16 X2) (.int .u16 X3) (.int .u16 X4) x y f (IntKind.i64.wrap ((i : Int) + 1)) (K.length + 1) (knsI (cK K) ++ [(.lst false n693 c694)])) = some (K'.length, knsI (cK K')) ∧ K'.length = m ∧ ∀ l ∈ K', l.length ≤ M ∧ Sd n 25 l := by
        intro set
        obtain ⟨l, e1, e2, e3⟩ := made_L1 N hN S Km M hM x y n hn hB (.int .u16 X0) (.int .u16 X1) (.int .u16 X2) (.int .u16 X3) (.int .u16 X4) (i : Int) K.length (knsI (cK K)) set n 0 N 0 [] (by omega) (by omega) (by simp) (by omega) (by omega) ⟨fun p hp => by simp at hp, .nil⟩
        obtain ⟨K', f1, f2, f3⟩ := made_L0 m hm hm5 (r - 1) (i + 1) f (K ++ [l]) (by omega) (by omega) (by simp; omega) (by omega) (fun q hq => by
          rcases List.mem_append.1 hq with hq | hq
          · exact hs q hq
          · simp only [List.mem_singleton] at hq; subst hq; exact ⟨e2, e3⟩)
        rw [show m40_L1 N (S : Int) (Km : Int) (M : Int) (.int .u16 X0) (.int .u16 X1) (.int .u16 X2) (.int .u16 X3) (.int .u16 X4) x y (i : Int) K.length (knsI (cK K)) set N 0 0 0 [] = _ from e1]
        simp only [bnd']
        rw [grd_t (by omega), grd_t hkl, grd_t (by rw [prsI_len, cL_len]), wrapN (by omega)]
        have e : knsI (cK K) ++ [PV.lst false l.length (prsI (cL l))] = knsI (cK (K ++ [l])) := by simp [knsI, cK, knI, cL_len]
        rw [e]
        rw [List.length_append] at f1
        exact ⟨K', f1, f2, f3⟩
      have : i = 0 ∨ i = 1 ∨ i = 2 ∨ i = 3 ∨ i = 4 := by omega
      rcases this with rfl | rfl | rfl | rfl | rfl
      · exact go X0
      · exact go X1
      · exact go X2
      · exact go X3
      · exact go X4
    · rw [brn_f (by simp; omega)]
      exact ⟨K, rfl, by omega, hs⟩
end
theorem Sd_fit {n : Nat} {K : List (List (Nat × Nat))} {M : Nat} (h1 : 1 ≤ n) (h5 : n ≤ 5) (hM : M ≤ 6) (hK : K.length ≤ 5) (h : ∀ l ∈ K, l.length ≤ M ∧ Sd n 25 l) : Fit n K :=
  ⟨h1, h5, hK, fun l hl => by have := (h l hl).1; omega, fun l hl p hp => by have := (h l hl).2.lt p hp; omega, fun l hl => (h l hl).2.inc.imp fun {p q} hpq e => by subst e; omega⟩
theorem made_ok (x y : Nat) (hx : x ≤ 255) (hy : y ≤ 255) (X0 X1 X2 X3 X4 : Int) (S Km M : Nat) (hS : 1 ≤ S) (hS5 : S ≤ 5) (hK : Km ≤ 5) (hM : M ≤ 6) :
    ∃ n K, m40 2000 (.agg [.int .u8 (x : Int), .int .u8 (y : Int), .int .u16 X0, .int .u16 X1, .int .u16 X2, .int .u16 X3, .int .u16 X4]) (S : Int) (Km : Int) (M : Int) = some (crw n K) ∧ Fit n K ∧ n ≤ S ∧ K.length ≤ Km ∧ ∀ l ∈ K, l.length ≤ M := by
  have w1 : IntKind.i64.wrap (x : Int) = (x : Int) := wrap64 (by omega) (by omega)
  have w2 : IntKind.i64.wrap (y : Int) = (y : Int) := wrap64 (by omega) (by omega)
  have w3 : IntKind.i64.wrap ((Km : Int) + 1) = ((Km + 1 : Nat) : Int) := wrapN (by omega)
  have t1 : Int.tmod (x : Int) (S : Int) = ((x % S : Nat) : Int) := by rw [Int.tmod_eq_emod_of_nonneg (by omega)]; omega
  have t2 : Int.tmod (y : Int) ((Km + 1 : Nat) : Int) = ((y % (Km + 1) : Nat) : Int) := by rw [Int.tmod_eq_emod_of_nonneg (by omega)]; omega
  have m1 : x % S < S := Nat.mod_lt _ (by omega)
  have m2 : y % (Km + 1) < Km + 1 := Nat.mod_lt _ (by omega)
  have hB : IntKind.i64.wrap (1 + (Int.tmod (IntKind.i64.wrap (x : Int)) (S : Int))) = ((1 + x % S : Nat) : Int) := by
    rw [w1, t1, wrap64 (by omega) (by omega)]; omega
  have hm : (((Int.toNat (Int.tmod (IntKind.i64.wrap (y : Int)) (IntKind.i64.wrap ((Km : Int) + 1)))) : Nat) : Int) = ((y % (Km + 1) : Nat) : Int) := by
    rw [w2, w3, t2, toNatN]
  obtain ⟨K, k1, k2, k3⟩ := made_L0 2000 (by omega) S Km M hM (x : Int) (y : Int) X0 X1 X2 X3 X4 (1 + x % S) (by omega) hB (y % (Km + 1)) hm (by omega) (y % (Km + 1)) 0 2000 [] (by omega) (by omega) rfl (by omega) (fun l hl => by cases hl)
  have hkl : (knsI (cK K)).length = K.length := by rw [knsI_len, cK_len]
  refine ⟨1 + x % S, K, ?_, Sd_fit (by omega) (by omega) hM (by omega) k3, by omega, by omega, fun l hl => (k3 l hl).1⟩
  simp only [m40, getA7, getI, if_true]
  rw [grd_t (by omega), grd_t (by rw [w3]; omega), grd_t (by rw [w2, w3, t2]; omega), show m40_L0 2000 (S : Int) (Km : Int) (M : Int) (.int .u16 X0) (.int .u16 X1) (.int .u16 X2) (.int .u16 X3) (.int .u16 X4) (x : Int) (y : Int) 2000 0 0 [] = _ from k1]
  simp only [bnd']
  rw [grd_t hkl, hB]
  rfl
def lb5 (lab : List Nat) (a b s : Nat) : List Nat := (List.range 5).map fun t => if t < s then (if ja lab t = a then b else ja lab t) else ja lab t
theorem lb5_len (lab : List Nat) (a b s : Nat) : (lb5 lab a b s).length = 5 := by simp [lb5]
theorem lb5_at (lab : List Nat) (a b s : Nat) {t : Nat} (ht : t < 5) : ja (lb5 lab a b s) t = if t < s then (if ja lab t = a then b else ja lab t) else ja lab t := by
  have : (lb5 lab a b s)[t]? = some (if t < s then (if ja lab t = a then b else ja lab t) else ja lab t) := by
    unfold lb5; rw [List.getElem?_map, List.getElem?_range ht]; rfl
  show ((lb5 lab a b s)[t]?).getD 0 = _
  rw [this]; rfl
theorem lb5_set {lab : List Nat} {a b s : Nat} (hs : s < 5) (h : ja lab s = a) : (lb5 lab a b s).set s b = lb5 lab a b (s + 1) := by
  apply List.ext_getElem (by simp [lb5])
  intro i h1 h2
  have hi : i < 5 := by simpa [lb5] using h2
  simp only [lb5, List.getElem_set, List.getElem_map, List.getElem_range]
  by_cases e : s = i
  · subst e; rw [if_pos rfl, if_pos (by omega), if_pos h]
  · rw [if_neg e]
    by_cases q : i < s
    · have q' : i < s + 1 := by omega
      simp only [q, q', if_true]
    · have q' : ¬ i < s + 1 := by omega
      simp only [q, q', if_false]
theorem lb5_not {lab : List Nat} {a b s : Nat} (hs : s < 5) (h : ja lab s ≠ a) : lb5 lab a b s = lb5 lab a b (s + 1) := by
  unfold lb5
  apply List.map_congr_left
  intro i hi
  by_cases e : i = s
  · subst e; rw [if_neg (by omega), if_pos (by omega), if_neg h]
  · by_cases q : i < s
    · have q' : i < s + 1 := by omega
      simp only [q, q', if_true]
    · have q' : ¬ i < s + 1 := by omega
      simp only [q, q', if_false]
theorem nL_set (X : List Nat) (i v : Nat) : List.set (nL X) i (PV.int .i64 (v : Int)) = nL (X.set i v) := by simp [nL, List.map_set]
theorem lab_L1 (n : Nat) (c : List PV) (x : Int) (lab : List Nat) (a b : Nat) : ∀ (r s fuel : Nat), 5 - s = r → s ≤ 5 → r < fuel →
    m49_L1 2000 n c x (a : Int) (b : Int) fuel (s : Int) (nL (lb5 lab a b s)) = some (nL (lb5 lab a b 5))
  | r, s, 0, _, _, h => by omega
  | r, s, f + 1, hr, hs, hf => by
    rw [m49_L1]
    have hl := nL_len (lb5 lab a b s)
    have h5 := lb5_len lab a b s
    by_cases h : s < 5
    · have ih := lab_L1 n c x lab a b (r - 1) (s + 1) f (by omega) (by omega) (by omega)
      have e : nn (lb5 lab a b s) s = ja lab s := by
        have := lb5_at lab a b s h
        rw [if_neg (by omega)] at this; exact this
      rw [brn_t (decide_eq_true (by omega)), grd_t ⟨by omega, by omega⟩, toNatN, grd_t (by omega), nL_gp (by omega), getI_t, e, wrapN (by omega)]
      by_cases q : ja lab s = a
      · rw [brn_t (by simp; omega), grd_t (by omega), nL_set, lb5_set h q]; exact ih
      · rw [brn_f (by simp; omega), lb5_not h q]; exact ih
    · rw [brn_f (decide_eq_false (by omega)), show s = 5 by omega]
def Lab (lab j : List Nat) : Prop := lab.length = 5 ∧ ∀ s t, s < 5 → t < 5 → (ja lab s = ja lab t ↔ ja j s = ja j t)
theorem lab_step {lab j : List Nat} (h : Lab lab j) (hj : j.length = 5) {p : Nat × Nat} (hp : p.1 < 5 ∧ p.2 < 5) (hn : ja j p.1 ≠ ja j p.2) : Lab (lb5 lab (ja lab p.1) (ja lab p.2) 5) (wth j p) := by
  refine ⟨lb5_len _ _ _ _, fun s t hs ht => ?_⟩
  rw [lb5_at _ _ _ _ hs, lb5_at _ _ _ _ ht, if_pos hs, if_pos ht, wth_at hj p hs, wth_at hj p ht]
  have a1 := h.2 s t hs ht
  have a2 := h.2 s p.1 hs hp.1
  have a3 := h.2 t p.1 ht hp.1
  have a4 := h.2 s p.2 hs hp.2
  have a5 := h.2 t p.2 ht hp.2
  unfold hi lo
  by_cases q1 : ja j s = ja j p.1
  · rw [if_pos (a2.2 q1)]
    by_cases q2 : ja j t = ja j p.1
    · rw [if_pos (a3.2 q2), q1, q2]; simp
    · rw [if_neg fun h => q2 (a3.1 h)]
      have : ja lab p.2 = ja lab t ↔ ja j t = ja j p.2 := ⟨fun h => a5.1 h.symm, fun h => (a5.2 h).symm⟩
      rw [this]; split <;> split <;> omega
  · rw [if_neg fun h => q1 (a2.1 h)]
    by_cases q2 : ja j t = ja j p.1
    · rw [if_pos (a3.2 q2), a4]; split <;> split <;> omega
    · rw [if_neg fun h => q2 (a3.1 h), a1]; split <;> split <;> omega
def frJ (j : List Nat) (L : List (Nat × Nat)) : Bool := cntJ j L == L.length
theorem frJ_cons (j : List Nat) (p : Nat × Nat) (L : List (Nat × Nat)) : frJ j (p :: L) = (!jnd j p && frJ (wth j p) L) := by
  unfold frJ
  have := cntJ_le L j
  simp only [cntJ, List.length_cons]
  by_cases q : jnd j p = true
  · rw [if_pos q, q]; simp; omega
  · rw [if_neg q, Bool.not_eq_true] at *
    rw [q, Bool.eq_iff_iff]; simp
theorem lab_L0 (L : List (Nat × Nat)) (hL : Ok L) (hl : L.length ≤ 1000) : ∀ (r i fuel : Nat) (lab j : List Nat), L.length - i = r → r < fuel → Lab lab j → j.length = 5 →
    m49_L0 2000 L.length (prsI (cL L)) fuel (i : Int) (nL lab) = some (if frJ j (L.drop i) then .inr () else .inl (.bool false))
  | r, i, 0, _, _, _, h, _, _ => by omega
  | r, i, f + 1, lab, j, hr, hf, hb, hj => by
    rw [m49_L0]
    by_cases h : i < L.length
    · have h' : i < (cL L).length := by rw [cL_len]; exact h
      have hp := hL _ (pk_mem h)
      have hll := nL_len lab
      have h5 := hb.1
      have eq := hb.2 _ _ hp.1 hp.2
      have e0 : List.take 2 (List.drop (i * 2) (prsI (cL L))) = [PV.int .i64 ((pk L i).1 : Int), .int .i64 ((pk L i).2 : Int)] := by rw [prsI_two h', cL_pk h]; rfl
      have ed : L.drop i = pk L i :: L.drop (i + 1) := drop_pN h
      have lx : ∀ t, nn lab t = ja lab t := fun _ => rfl
      rw [brn_t (decide_eq_true (by omega)), toNatN, grd_t ⟨by omega, by omega⟩, grd_t (prsI_two' h'), e0, getA2_t, getI_t, grd_t ⟨by omega, by omega⟩, toNatN, grd_t (by omega), nL_gp (by omega), getI_t, getI_t, grd_t ⟨by omega, by omega⟩, toNatN, grd_t (by omega), nL_gp (by omega), getI_t, ed, lx, lx]
      rw [frJ_cons]
      by_cases q : jnd j (pk L i) = true
      · rw [brn_t (by have := eq.2 (jnd_iff.1 q); simp; omega), q]; rfl
      · have hne : ja j (pk L i).1 ≠ ja j (pk L i).2 := fun e => q (jnd_iff.2 e)
        have ih := lab_L0 L hL hl (r - 1) (i + 1) f _ _ (by omega) (by omega) (lab_step hb hj hp hne) (wth_len hj)
        have z : lb5 lab (ja lab (pk L i).1) (ja lab (pk L i).2) 0 = lab := by
          apply List.ext_getElem (by rw [lb5_len]; omega)
          intro k h1 h2
          simp [lb5, ja, List.getD, h2]
        have e := lab_L1 L.length (prsI (cL L)) (i : Int) lab (ja lab (pk L i).1) (ja lab (pk L i).2) 5 0 2000 (by omega) (by omega) (by omega)
        rw [z] at e
        rw [brn_f (by have : ¬ ja lab (pk L i).1 = ja lab (pk L i).2 := fun e => hne (eq.1 e)
                      simp; omega), show m49_L1 2000 L.length (prsI (cL L)) (i : Int) _ _ 2000 0 (nL lab) = _ from e, bnd_t, wrapN (by omega), ih]
        rw [Bool.not_eq_true] at q
        rw [q]; rfl
    · rw [brn_f (decide_eq_false (by omega)), List.drop_eq_nil_of_le (by omega)]; rfl
theorem lab_apt : Lab [0, 1, 2, 3, 4] apt := ⟨rfl, fun _ _ _ _ => Iff.rfl⟩
theorem lring_ok (L : List (Nat × Nat)) (hL : Ok L) (hl : L.length ≤ 1000) : m49 2000 (.lst false L.length (prsI (cL L))) = some (.bool (decide (rk L = L.length))) := by
  have e := lab_L0 L hL hl L.length 0 2000 [0, 1, 2, 3, 4] apt (by omega) (by omega) lab_apt rfl
  rw [List.drop_zero] at e
  rw [m49, getL_t, show m49_L0 2000 L.length (prsI (cL L)) 2000 0 [PV.int .i64 0, .int .i64 1, .int .i64 2, .int .i64 3, .int .i64 4] = _ from e, bnd_t]
  unfold frJ rk
  by_cases h : cntJ apt L = L.length
  · rw [if_pos (by simpa using h), decide_eq_true h]
  · rw [if_neg (by simpa using h), decide_eq_false h]
def mem6 (s : Nat) : List Nat := (List.range 6).filter fun k => s.testBit k
theorem members6 : ∀ (s : Nat), s < 64 → m45 2000 (s : Int) = some (.lst false (mem6 s).length (nL (mem6 s)))
  | 0, _ => by kernel_rfl
  | 1, _ => by kernel_rfl
  | 2, _ => by kernel_rfl
  | 3, _ => by kernel_rfl
  | 4, _ => by kernel_rfl
  | 5, _ => by kernel_rfl
  | 6, _ => by kernel_rfl
  | 7, _ => by kernel_rfl
  | 8, _ => by kernel_rfl
  | 9, _ => by kernel_rfl
  | 10, _ => by kernel_rfl
  | 11, _ => by kernel_rfl
  | 12, _ => by kernel_rfl
  | 13, _ => by kernel_rfl
  | 14, _ => by kernel_rfl
  | 15, _ => by kernel_rfl
  | 16, _ => by kernel_rfl
  | 17, _ => by kernel_rfl
  | 18, _ => by kernel_rfl
  | 19, _ => by kernel_rfl
  | 20, _ => by kernel_rfl
  | 21, _ => by kernel_rfl
  | 22, _ => by kernel_rfl
  | 23, _ => by kernel_rfl
  | 24, _ => by kernel_rfl
  | 25, _ => by kernel_rfl
  | 26, _ => by kernel_rfl
  | 27, _ => by kernel_rfl
  | 28, _ => by kernel_rfl
  | 29, _ => by kernel_rfl
  | 30, _ => by kernel_rfl
  | 31, _ => by kernel_rfl
  | 32, _ => by kernel_rfl
  | 33, _ => by kernel_rfl
  | 34, _ => by kernel_rfl
  | 35, _ => by kernel_rfl
  | 36, _ => by kernel_rfl
  | 37, _ => by kernel_rfl
  | 38, _ => by kernel_rfl
  | 39, _ => by kernel_rfl
  | 40, _ => by kernel_rfl
  | 41, _ => by kernel_rfl
  | 42, _ => by kernel_rfl
  | 43, _ => by kernel_rfl
  | 44, _ => by kernel_rfl
  | 45, _ => by kernel_rfl
  | 46, _ => by kernel_rfl
  | 47, _ => by kernel_rfl
  | 48, _ => by kernel_rfl
  | 49, _ => by kernel_rfl
  | 50, _ => by kernel_rfl
  | 51, _ => by kernel_rfl
  | 52, _ => by kernel_rfl
  | 53, _ => by kernel_rfl
  | 54, _ => by kernel_rfl
  | 55, _ => by kernel_rfl
  | 56, _ => by kernel_rfl
  | 57, _ => by kernel_rfl
  | 58, _ => by kernel_rfl
  | 59, _ => by kernel_rfl
  | 60, _ => by kernel_rfl
  | 61, _ => by kernel_rfl
  | 62, _ => by kernel_rfl
  | 63, _ => by kernel_rfl
  | n + 64, h => by omega
theorem mem6_memb_all : ((List.range 32).all fun s => mem6 s == memb s) = true := by decide +kernel
theorem members_ok (s : Nat) (h : s < 32) : m45 2000 (s : Int) = some (.lst false (memb s).length (nL (memb s))) := by
  have := List.all_eq_true.1 mem6_memb_all s (List.mem_range.2 h)
  rw [beq_iff_eq] at this
  rw [members6 s (by omega), this]
theorem lfull_ok (N m : Nat) (p : PV) (c : List PV) (h : m ≤ 5) : m42 N (.agg [p, .lst false m c]) = some (.int .u64 ((2 ^ m - 1 : Nat) : Int)) := by
  have : m = 0 ∨ m = 1 ∨ m = 2 ∨ m = 3 ∨ m = 4 ∨ m = 5 := by omega
  rcases this with rfl | rfl | rfl | rfl | rfl | rfl <;> rfl
theorem getA7_v {α : Type} {a b c d e g h : PV} {f : PV → PV → PV → PV → PV → PV → PV → Option α} : getA7 (.agg [a, b, c, d, e, g, h]) f = f a b c d e g h := rfl
theorem getA5_v {α : Type} {a b c d e : PV} {f : PV → PV → PV → PV → PV → Option α} : getA5 (.agg [a, b, c, d, e]) f = f a b c d e := rfl
theorem chL_fits : ∀ {K : List (List (Nat × Nat))} {C : List Nat}, Fits K C → chL (cK K) (cS C) = some (cL (picks K C))
  | [], [], _ => rfl
  | l :: K, i :: C, h => by
    have ih := chL_fits h.2
    have h1 := h.1
    show chL (cL l :: cK K) ((i : Int) :: cS C) = some (cL (pk l i :: picks K C))
    rw [chL, if_pos ⟨by omega, by rw [cL_len]; omega⟩, ih]
    rw [toNatN, Option.map_some, cL_pk h1]; rfl
theorem chL_none : ∀ {K : List (List (Nat × Nat))}, [] ∈ K → chL (cK K) (List.replicate K.length 0) = none
  | l :: K, h => by
    show chL (cL l :: cK K) (0 :: List.replicate K.length 0) = none
    rw [chL]
    rcases List.mem_cons.1 h with h | h
    · subst h; rw [if_neg (by simp [cL])]
    · rw [chL_none h]; split <;> rfl
theorem fits_get : ∀ {K : List (List (Nat × Nat))} {C : List Nat}, Fits K C → ∀ i, i < K.length → nn C i < (kN K i).length ∧ (picks K C)[i]? = some (pk (kN K i) (nn C i))
  | l :: K, k :: C, h, 0, _ => ⟨h.1, rfl⟩
  | l :: K, k :: C, h, i + 1, hi => by
    have := fits_get h.2 i (by simpa using hi)
    simpa [nn, kN, picks] using this
theorem fits_of : ∀ {K : List (List (Nat × Nat))} {C : List Nat}, C.length = K.length → (∀ i, i < K.length → nn C i < (kN K i).length) → Fits K C
  | [], [], _, _ => trivial
  | l :: K, k :: C, h, hi => ⟨hi 0 (by simp), fits_of (by simpa using h) fun i h => by simpa [nn, kN] using hi (i + 1) (by simpa using h)⟩
theorem chE_fits {n : Nat} {K : List (List (Nat × Nat))} (hK : Fit n K) {C : List Nat} (h : Fits K C) : chE (n : Int) (cK K) (cS C) = 0 ∧ chP (cK K) (cS C) = cL (picks K C) := by
  have hl := (fits_len h).1
  unfold chE chP
  rw [chk_fit hK, if_neg (by simp), if_neg (by rw [cS_len, cK_len]; simp [hl]), chL_fits h]
  exact ⟨rfl, rfl⟩
theorem picks_ok {n : Nat} {K : List (List (Nat × Nat))} (hK : Fit n K) : ∀ {C : List Nat}, Fits K C → ∀ p ∈ picks K C, p.1 < p.2 ∧ p.2 < 5 := by
  intro C h p hp
  obtain ⟨i, hi, rfl⟩ := List.getElem_of_mem hp
  have hi' : i < K.length := by rw [(fits_len h).2] at hi; exact hi
  obtain ⟨a, b⟩ := fits_get h i hi'
  rw [List.getElem?_eq_getElem hi] at b
  rw [Option.some.inj b]
  have := hK.lt _ (kN_mem hi') _ (pk_mem a)
  have := hK.n5
  omega
theorem cK_six' {n : Nat} {K : List (List (Nat × Nat))} (hK : Fit n K) : ∀ l ∈ cK K, l.length ≤ 1000 := fun l hl => by
  obtain ⟨l', h1, rfl⟩ := List.mem_map.1 hl
  have := hK.len _ h1
  rw [cL_len]; omega
theorem Valid_fits (n : Nat) (K : List (List (Nat × Nat))) (hK : Fit n K) {C : List Nat} (h : Fits K C) : m24 2000 (crw n K) (.lst false C.length (nL C)) = some (.int .i64 (if rk (picks K C) < (picks K C).length then 13 else 0)) := by
  have h5 := hK.many
  have hl := (fits_len h).1
  have hl2 := (fits_len h).2
  have c1 := chosen_ok 2000 (by omega) (n : Int) (cK K) (by rw [cK_len]; omega) (cK_six' hK) (cS C) (by rw [cS_len]; omega)
  obtain ⟨e1, e2⟩ := chE_fits hK h
  have hO : Ok (picks K C) := fun p hp => by have := picks_ok hK h p hp; omega
  rw [if_pos e1, e1, e2, cL_len, cS_len, ← nL_iL, cK_len] at c1
  unfold crw
  rw [m24, getA2_t, getL_t, c1, bnd_t, getT2_t, getL_t, getI_t, brn_f (b := ((0 : Int) != 0)) rfl, count_ok _ hO (by omega), bnd_t, getI_t]
  by_cases hr : rk (picks K C) < (picks K C).length
  · rw [brn_t (decide_eq_true (by omega)), if_pos hr]
  · rw [brn_f (decide_eq_false (by omega)), if_neg hr]
theorem Valid_zero (n : Nat) (K : List (List (Nat × Nat))) (hK : Fit n K) (h : [] ∈ K) : m24 2000 (crw n K) (.lst false K.length (List.replicate K.length (.int .i64 0))) = some (.int .i64 2) := by
  have h5 := hK.many
  have c1 := chosen_ok 2000 (by omega) (n : Int) (cK K) (by rw [cK_len]; omega) (cK_six' hK) (List.replicate K.length 0) (by simp; omega)
  have e1 : chE (n : Int) (cK K) (List.replicate K.length 0) = 2 := by
    unfold chE
    rw [chk_fit hK, if_neg (by simp), if_neg (by rw [cK_len]; simp), chL_none h]
  have e2 : iL (List.replicate K.length 0) = List.replicate K.length (PV.int .i64 0) := by simp [iL]
  rw [e1, if_neg (by decide), e2, List.length_replicate, cK_len] at c1
  unfold crw
  rw [m24, getA2_t, getL_t, c1, bnd_t, getT2_t, getL_t, getI_t, brn_t (b := ((2 : Int) != 0)) rfl]
section
variable (n : Nat) (K : List (List (Nat × Nat))) (hK : Fit n K)
include hK
theorem chosen2_L (p : PV) (C : List Nat) (h : Fits K C) : ∀ (r i fuel : Nat), C.length - i = r → i ≤ C.length → r < fuel →
    m67_2_L0 2000 C.length (nL C) p K.length (knsI (cK K)) fuel i (i : Int) (prsI (cL ((picks K C).take i))) = some (.inr (C.length, prsI (cL (picks K C))))
  | r, i, 0, _, _, h => by omega
  | r, i, f + 1, hr, hi, hf => by
    have h5 := hK.many
    have hl := (fits_len h).1
    have hl2 := (fits_len h).2
    have hnl := nL_len C
    have hkl : (knsI (cK K)).length = K.length := by rw [knsI_len, cK_len]
    rw [m67_2_L0]
    by_cases hlt : i < C.length
    · have ih := chosen2_L p C h (r - 1) (i + 1) f (by omega) (by omega) (by omega)
      obtain ⟨g1, g2⟩ := fits_get h i (by omega)
      have pl : (prsI (cL ((picks K C).take i))).length = i * 2 := by rw [prsI_len, cL_len, List.length_take]; omega
      have e0 : List.take 2 (List.drop (nn C i * 2) (prsI (cL (kN K i)))) = [PV.int .i64 ((pk (kN K i) (nn C i)).1 : Int), .int .i64 ((pk (kN K i) (nn C i)).2 : Int)] := by
        rw [prsI_two (by rw [cL_len]; exact g1), cL_pk g1]; rfl
      have e : (picks K C).take i ++ [pk (kN K i) (nn C i)] = (picks K C).take (i + 1) := by rw [List.take_add_one, g2]; rfl
      rw [brn_t (decide_eq_true (by omega)), toNatN, grd_t ⟨by omega, by omega⟩, grd_t (by omega), nL_gp hlt, getI_t, brn_f (decide_eq_false (by omega)), grd_t (by omega), grd_t (by simp only [List.length_drop]; omega), knsI_gp (by rw [cK_len]; omega), cK_kI (by omega), cL_len, getL_t, brn_f (decide_eq_false (by omega)), grd_t ⟨by omega, by omega⟩, toNatN, grd_t (prsI_two' (by rw [cL_len]; exact g1)), e0, getA2_t, grd_t (by omega), grd_t pl, prs_snoc, e, wrapN (by omega)]
      exact ih
    · rw [brn_f (decide_eq_false (by omega)), show i = C.length by omega, List.take_of_length_le (by omega)]
theorem Ring_fits (C : List Nat) (h : Fits K C) : m19_2 2000 (crw n K) C.length (nL C) = some (match (upT K.length).find? (ring (picks K C)) with | some l => .tup [rwN l, .int .i64 0] | none => .tup [rwN [], .int .i64 13]) := by
  have h5 := hK.many
  have hl := (fits_len h).1
  have hl2 := (fits_len h).2
  have hO : Ok (picks K C) := fun p hp => by have := picks_ok hK h p hp; omega
  have c1 := check_ok 2000 (by omega) n (cK K) (by rw [cK_len]; omega) (cK_six' hK)
  rw [chk_fit hK, cK_len] at c1
  have L := chosen2_L n K hK (.int .i64 (n : Int)) C h C.length 0 2000 (by omega) (by omega) (by omega)
  rw [List.take_zero] at L
  have b := best_ok (picks K C).length (by omega) (.lst false (picks K C).length (prsI (cL (picks K C)))) (ring (picks K C)) (fun s hs => ring1_ok (picks K C) hO (memb s) (memb_lt (by omega) hs) (by have := memb_len s; omega))
  rw [hl2] at b
  unfold crw
  rw [m19_2, getA2_t, m67_2, getA2_t, c1, bnd_t, getI_t, brn_f (b := ((0 : Int) != 0)) rfl, getL_t, brn_f (by simp; omega), show m67_2_L0 2000 C.length (nL C) _ _ _ 2000 0 0 [] = _ from L, bnd_t]
  simp only []
  rw [grd_t (by rw [prsI_len, cL_len]; omega), bnd_t, getT2_t, getL_t, getI_t, brn_f (b := ((0 : Int) != 0)) rfl, hl, show ((K.length : Nat) : Int) = ((K.length : Nat) : Int) from rfl, b, bnd_t]
  cases (upT K.length).find? (ring (picks K C)) <;> rfl
def byC (b0 b1 b2 b3 b4 : Nat) (K : List (List (Nat × Nat))) : List Nat := (List.range K.length).map fun i => nn [b0, b1, b2, b3, b4] i % (kN K i).length
variable (b0 b1 b2 b3 b4 : Nat) (h0 : b0 ≤ 255) (h1 : b1 ≤ 255) (h2 : b2 ≤ 255) (h3 : b3 ≤ 255) (h4 : b4 ≤ 255)
theorem byC_get {i : Nat} (h : i < K.length) : nn (byC b0 b1 b2 b3 b4 K) i = nn [b0, b1, b2, b3, b4] i % (kN K i).length := by
  simp [nn, byC, List.getD, h]
theorem byC_fits (h : [] ∉ K) : Fits K (byC b0 b1 b2 b3 b4 K) := fits_of (by simp [byC]) fun i hi => by
  rw [byC_get n K hK b0 b1 b2 b3 b4 hi]
  refine Nat.mod_lt _ ?_
  have : kN K i ≠ [] := fun e => h (e ▸ kN_mem hi)
  exact List.length_pos_iff.2 this
def pbL (K : List (List (Nat × Nat))) (C : List Nat) : List (Nat × Nat) := (List.range K.length).map fun i => pk (kN K i) (nn C i)
theorem pbL_len (C : List Nat) : (pbL K C).length = K.length := by simp [pbL]
theorem pbL_get (C : List Nat) {i : Nat} (h : i < K.length) : (pbL K C)[i]? = some (pk (kN K i) (nn C i)) := by simp [pbL, h]
theorem pbL_picks {C : List Nat} (h : Fits K C) : pbL K C = picks K C := by
  apply List.ext_getElem?
  intro i
  by_cases hi : i < K.length
  · rw [pbL_get n K hK C hi, (fits_get h i hi).2]
  · rw [List.getElem?_eq_none (by rw [pbL_len n K hK]; omega), List.getElem?_eq_none (by rw [(fits_len h).2]; omega)]
include h0 h1 h2 h3 h4
theorem by_L (g0 g1 g2 g3 g4 : PV) (hg : [g0, g1, g2, g3, g4] = [.int .u8 (b0 : Int), .int .u8 (b1 : Int), .int .u8 (b2 : Int), .int .u8 (b3 : Int), .int .u8 (b4 : Int)]) : ∀ (r i fuel : Nat), K.length - i = r → i ≤ K.length → r < fuel → (∀ k, k < i → kN K k ≠ []) →
    m9_L0 2000 g0 g1 g2 g3 g4 (n : Int) K.length (knsI (cK K)) fuel i i (i : Int) (nL ((byC b0 b1 b2 b3 b4 K).take i)) (prsI (cL ((pbL K (byC b0 b1 b2 b3 b4 K)).take i))) =
      some (if [] ∈ K then .inl (.bool true) else .inr (K.length, K.length, nL (byC b0 b1 b2 b3 b4 K), prsI (cL (pbL K (byC b0 b1 b2 b3 b4 K)))))
  | r, i, 0, _, _, h, _ => by omega
  | r, i, f + 1, hr, hi, hf, hne => by
    have h5 := hK.many
    have w : m16 2000 = some (.bool true) := rfl
    have hkl : (knsI (cK K)).length = K.length := by rw [knsI_len, cK_len]
    rw [m9_L0]
    by_cases hlt : i < K.length
    · rw [brn_t (decide_eq_true (by omega)), toNatN, grd_t ⟨by omega, by omega⟩, grd_t (by simp only [List.length_drop]; omega), knsI_gp (by rw [cK_len]; omega), cK_kI hlt, cL_len, getL_t]
      by_cases hz : (kN K i).length = 0
      · have hm : [] ∈ K := by
          have : kN K i = [] := List.length_eq_zero_iff.1 hz
          rw [← this]; exact kN_mem hlt
        have V := Valid_zero n K hK hm
        unfold crw at V
        rw [brn_t (beq_iff_eq.2 (by omega)), grd_t ⟨by omega, by omega, by omega⟩, V, bnd_t, getI_t, brn_t (b := ((2 : Int) == 2)) rfl, w, bnd_t, getB_t, if_pos hm]
      · have ih := by_L g0 g1 g2 g3 g4 hg (r - 1) (i + 1) f (by omega) (by omega) (by omega) (fun k hk => by
          by_cases e : k = i
          · subst e; intro q; rw [q] at hz; exact hz rfl
          · exact hne k (by omega))
        have hbl : (byC b0 b1 b2 b3 b4 K).length = K.length := by simp [byC]
        have gb : gp [g0, g1, g2, g3, g4] i = .int .u8 (nn [b0, b1, b2, b3, b4] i : Int) := by
          rw [hg]
          have : i = 0 ∨ i = 1 ∨ i = 2 ∨ i = 3 ∨ i = 4 := by omega
          rcases this with rfl | rfl | rfl | rfl | rfl <;> rfl
        have hb : nn [b0, b1, b2, b3, b4] i ≤ 255 := by
          have : i = 0 ∨ i = 1 ∨ i = 2 ∨ i = 3 ∨ i = 4 := by omega
          rcases this with rfl | rfl | rfl | rfl | rfl <;> simpa [nn]
        have tm : Int.tmod (IntKind.i64.wrap (nn [b0, b1, b2, b3, b4] i : Int)) ((kN K i).length : Int) = ((nn (byC b0 b1 b2 b3 b4 K) i : Nat) : Int) := by
          rw [wrap64 (by omega) (by omega), Int.tmod_eq_emod_of_nonneg (by omega), byC_get n K hK b0 b1 b2 b3 b4 hlt]; omega
        have lt : nn (byC b0 b1 b2 b3 b4 K) i < (kN K i).length := by
          rw [byC_get n K hK b0 b1 b2 b3 b4 hlt]; exact Nat.mod_lt _ (by omega)
        have tl : (nL ((byC b0 b1 b2 b3 b4 K).take i)).length = i := by rw [nL_len, List.length_take]; omega
        have es : (byC b0 b1 b2 b3 b4 K).take i ++ [nn (byC b0 b1 b2 b3 b4 K) i] = (byC b0 b1 b2 b3 b4 K).take (i + 1) := by
          have : (byC b0 b1 b2 b3 b4 K)[i]? = some (nn (byC b0 b1 b2 b3 b4 K) i) := by simp [nn, List.getD, hbl, hlt]
          rw [List.take_add_one, this]; rfl
        have gx : gp (nL ((byC b0 b1 b2 b3 b4 K).take (i + 1))) i = .int .i64 (nn (byC b0 b1 b2 b3 b4 K) i : Int) := by
          rw [nL_gp (by rw [List.length_take]; omega)]
          congr 2
          simp [nn, List.getD, List.getElem?_take]
        have e0 : List.take 2 (List.drop (nn (byC b0 b1 b2 b3 b4 K) i * 2) (prsI (cL (kN K i)))) = [PV.int .i64 ((pk (kN K i) (nn (byC b0 b1 b2 b3 b4 K) i)).1 : Int), .int .i64 ((pk (kN K i) (nn (byC b0 b1 b2 b3 b4 K) i)).2 : Int)] := by
          rw [prsI_two (by rw [cL_len]; exact lt), cL_pk lt]; rfl
        have e : (pbL K (byC b0 b1 b2 b3 b4 K)).take i ++ [pk (kN K i) (nn (byC b0 b1 b2 b3 b4 K) i)] = (pbL K (byC b0 b1 b2 b3 b4 K)).take (i + 1) := by rw [List.take_add_one, pbL_get n K hK _ hlt]; rfl
        have pl : (prsI (cL ((pbL K (byC b0 b1 b2 b3 b4 K)).take i))).length = i * 2 := by rw [prsI_len, cL_len, List.length_take, pbL_len n K hK]; omega
        rw [brn_f (beq_false_of_ne (by omega)), grd_t (by omega), grd_t (by omega), gb, getI_t, grd_t (by omega), grd_t (by omega), grd_t tl, grd_t (by omega), grd_t (by omega), tm, nL_snoc, es, gx, getI_t, grd_t ⟨by omega, by omega⟩, toNatN, grd_t (prsI_two' (by rw [cL_len]; exact lt)), e0, getA2_t, grd_t (by omega), grd_t pl, prs_snoc, e, wrapN (by omega)]
        exact ih
    · have hbl : (byC b0 b1 b2 b3 b4 K).length = K.length := by simp [byC]
      rw [brn_f (decide_eq_false (by omega)), if_neg (fun hm => by
        obtain ⟨k, hk, e⟩ := List.getElem_of_mem hm
        exact hne k (by omega) (by simp [kN, List.getD, hk, e])), show i = K.length by omega, List.take_of_length_le (by omega), List.take_of_length_le (by rw [pbL_len n K hK]; omega)]
end
def wantN : Option (List Nat) → PV
  | none => .nl
  | some l => rwN l
theorem getN_n {α : Type} {k1 : Option α} {k2 : Nat → List PV → Option α} : getN .nl k1 k2 = k1 := rfl
theorem getN_l {α : Type} {n : Nat} {c : List PV} {k1 : Option α} {k2 : Nat → List PV → Option α} : getN (.lst false n c) k1 k2 = k2 n c := rfl
theorem set_nn_le (X : List Nat) (i v j : Nat) : nn (X.set i v) j ≤ max v (nn X j) := by
  unfold nn
  rw [List.getD_eq_getElem?_getD, List.getElem?_set, List.getD_eq_getElem?_getD]
  by_cases e : i = j
  · rw [if_pos e]
    split
    · simp only [Option.getD_some]; omega
    · simp
  · rw [if_neg e]; omega
section
variable (D : List (Nat × Nat)) (hD : Ok D) (d5 : D.length ≤ 5)
include hD d5
theorem some9_L (n : Int) (m : Nat) (c1 : List PV) (c2 : List PV) (x : Int) (p : PV) (y : Int) (L : List Nat) (hL : ∀ k ∈ L, k < D.length) (hl : L.length ≤ 5) : ∀ (r i fuel : Nat), L.length - i = r → i ≤ L.length → r < fuel →
    m9_L2 2000 n m c1 m D.length c2 (prsI (cL D)) x p y L.length (nL L) fuel i (i : Int) (prsI (cL ((L.take i).map (pk D)))) = some (L.length, prsI (cL (L.map (pk D))))
  | r, i, 0, _, _, h => by omega
  | r, i, f + 1, hr, hi, hf => by
    rw [m9_L2]
    have hnl := nL_len L
    have pl : (prsI (cL D)).length = D.length * 2 := by rw [prsI_len, cL_len]
    by_cases h : i < L.length
    · have ih := some9_L n m c1 c2 x p y L hL hl (r - 1) (i + 1) f (by omega) (by omega) (by omega)
      have hx := hL _ (nn_mem h)
      have hle : (prsI (cL ((L.take i).map (pk D)))).length = i * 2 := by rw [prsI_len, cL_len, List.length_map, List.length_take]; omega
      have e0 : List.take 2 (List.drop (nn L i * 2) (prsI (cL D))) = [PV.int .i64 ((pk D (nn L i)).1 : Int), .int .i64 ((pk D (nn L i)).2 : Int)] := by
        rw [prsI_two (by rw [cL_len]; exact hx), cL_pk hx]; rfl
      have e : (L.take i).map (pk D) ++ [pk D (nn L i)] = (L.take (i + 1)).map (pk D) := by
        have : L[i]? = some (nn L i) := by simp [nn, List.getD, h]
        rw [List.take_add_one, this]; simp
      rw [brn_t (decide_eq_true (by omega)), toNatN, grd_t ⟨by omega, by omega⟩, grd_t (by simp only [List.length_drop]; omega), nL_gp h, getI_t, grd_t ⟨by omega, by omega⟩, toNatN, grd_t (by omega), e0, getA2_t, grd_t (by omega), grd_t hle, prs_snoc, e, wrapN (by omega)]
      exact ih
    · rw [brn_f (decide_eq_false (by omega)), show i = L.length by omega, List.take_of_length_le (Nat.le_refl _)]
theorem sub9_ok {L : List Nat} (hL : ∀ k ∈ L, k < D.length) : Ok (L.map (pk D)) := fun p hp => by
  obtain ⟨k, hk, rfl⟩ := List.mem_map.1 hp
  exact hD _ (pk_mem (hL k hk))
theorem ring_free (L : List Nat) : decide (rk (L.map (pk D)) = (L.map (pk D)).length) = !ring D L := by
  have h := rk_le (L.map (pk D))
  have e : ring D L = decide (rk (L.map (pk D)) < L.length) := rfl
  rw [e, Bool.eq_iff_iff]
  rw [List.length_map] at h ⊢
  simp; omega
theorem want9_L (n : Int) (c1 c2 : List PV) : ∀ (r s fuel : Nat) (acc : Option (List Nat)), 2 ^ D.length - s = r → r < fuel → (∀ l, acc = some l → l ∈ upT D.length ∧ l ≠ []) →
    m9_L1 2000 n D.length c1 D.length D.length c2 (prsI (cL D)) ((2 ^ D.length - 1 : Nat) : Int) fuel (wantN acc) (s : Int) = some (wantN (((List.range' s (2 ^ D.length - s)).map memb).foldl (bstep (ring D) ltS) acc))
  | r, s, 0, _, _, h, _ => by omega
  | r, s, f + 1, acc, hr, hf, ha => by
    have hp : 2 ^ D.length ≤ 32 := Nat.pow_le_pow_right (n := 2) (by omega) d5
    have h1p : 1 ≤ 2 ^ D.length := Nat.pos_of_ne_zero (by simp)
    have hw : IntKind.u64.wrap (((2 ^ D.length - 1 : Nat) : Int) + 1) = ((2 ^ D.length : Nat) : Int) := by
      rw [wrapU _ (by omega)]; omega
    rw [m9_L1]
    by_cases h : s < 2 ^ D.length
    · have hY := memb_up d5 h
      have ml := memb_len s
      have ih := fun acc => want9_L n c1 c2 (r - 1) (s + 1) f acc (by omega) (by omega)
      have e := some9_L D hD d5 n D.length c1 c2 ((2 ^ D.length - 1 : Nat) : Int) (wantN acc) (s : Int) (memb s) (memb_lt d5 h) ml (memb s).length 0 2000 (by omega) (by omega) (by omega)
      have rl := lring_ok ((memb s).map (pk D)) (sub9_ok D hD d5 (memb_lt d5 h)) (by simp; omega)
      rw [ring_free D hD d5, List.length_map] at rl
      rw [hw, brn_t (decide_eq_true (by omega)), members_ok s (by omega), bnd_t, getL_t, show m9_L2 2000 n _ _ _ _ _ _ _ _ _ _ _ 2000 0 0 [] = _ from e, bnd_t, show 2 ^ D.length - s = (2 ^ D.length - (s + 1)) + 1 by omega, List.range'_succ, List.map_cons, List.foldl_cons]
      simp only []
      rw [grd_t (by rw [prsI_len, cL_len, List.length_map]), rl, bnd_t, getB_t, wrapU s (by omega)]
      have take : ring D (memb s) = true → m9_L1 2000 n D.length c1 D.length D.length c2 (prsI (cL D)) ((2 ^ D.length - 1 : Nat) : Int) f (.lst false (memb s).length (nL (memb s))) ((s + 1 : Nat) : Int) = some (wantN (((List.range' (s + 1) (2 ^ D.length - (s + 1))).map memb).foldl (bstep (ring D) ltS) (some (memb s)))) := fun hb => ih (some (memb s)) fun l hl => by
        cases hl
        refine ⟨hY, fun e => ?_⟩
        rw [e] at hb
        have e2 : ring D [] = decide (rk (([] : List Nat).map (pk D)) < 0) := rfl
        rw [e2] at hb; simp at hb
      have keep := ih acc ha
      cases hb : ring D (memb s) with
      | false => rw [brn_t (b := !false) rfl, bs_f hb]; exact keep
      | true =>
        rw [brn_f (b := !true) rfl]
        cases acc with
        | none => rw [show wantN none = .nl from rfl, getN_n, bs_n hb]; exact take hb
        | some o =>
          obtain ⟨ho, hne⟩ := ha o rfl
          have hol := (mem_upT.1 ho).1
          have keep' : m9_L1 2000 n D.length c1 D.length D.length c2 (prsI (cL D)) ((2 ^ D.length - 1 : Nat) : Int) f (.lst false o.length (nL o)) ((s + 1 : Nat) : Int) = _ := keep
          rw [show wantN (some o) = .lst false o.length (nL o) from rfl, getN_l, grd_t (List.length_pos_iff.2 hne)]
          by_cases g : (memb s).length < o.length
          · have hlt : ltS (memb s) o = true := by unfold ltS; rw [if_neg (by omega)]; exact decide_eq_true g
            rw [brn_t (decide_eq_true (by omega)), bs_t hb hlt]; exact take hb
          · rw [brn_f (decide_eq_false (by omega))]
            by_cases q : (memb s).length = o.length
            · have hlt : ltS (memb s) o = lexL (memb s) o := by unfold ltS; rw [if_pos q]
              rw [brn_t (by simp; omega), compare_ok 2000 (by omega) _ _ (by omega), bnd_t, getI_t]
              cases hx : lexL (memb s) o with
              | true =>
                have := (cmpL_lex (memb s) o).2 hx
                rw [brn_t (decide_eq_true this), bs_t hb (hlt.trans hx)]; exact take hb
              | false =>
                have : ¬ cmpL (memb s) o < 0 := fun q => by rw [(cmpL_lex _ _).1 q] at hx; cases hx
                rw [brn_f (decide_eq_false this), bs_k hb (hlt.trans hx)]; exact keep'
            · have hlt : ltS (memb s) o = false := by unfold ltS; rw [if_neg q]; exact decide_eq_false g
              rw [brn_f (by simp; omega), bs_k hb hlt]; exact keep'
    · rw [hw, brn_f (decide_eq_false (by omega)), show 2 ^ D.length - s = 0 by omega]; rfl
def dgs (C : List (Nat × Nat)) : List Nat := [deg 0 C, deg 1 C, deg 2 C, deg 3 C, deg 4 C]
theorem dgs_nn (C : List (Nat × Nat)) {v : Nat} (h : v < 5) : nn (dgs C) v = deg v C := by
  have : v = 0 ∨ v = 1 ∨ v = 2 ∨ v = 3 ∨ v = 4 := by omega
  rcases this with rfl | rfl | rfl | rfl | rfl <;> rfl
theorem dgs_snoc (C : List (Nat × Nat)) (p : Nat × Nat) (hp : p.1 < 5 ∧ p.2 < 5) : ((dgs C).set p.1 (nn (dgs C) p.1 + 1)).set p.2 (nn ((dgs C).set p.1 (nn (dgs C) p.1 + 1)) p.2 + 1) = dgs (C ++ [p]) := by
  obtain ⟨a, b⟩ := p
  simp only [] at hp ⊢
  have ha : a = 0 ∨ a = 1 ∨ a = 2 ∨ a = 3 ∨ a = 4 := by omega
  have hb : b = 0 ∨ b = 1 ∨ b = 2 ∨ b = 3 ∨ b = 4 := by omega
  unfold dgs
  simp only [deg_app, deg]
  rcases ha with rfl | rfl | rfl | rfl | rfl <;> rcases hb with rfl | rfl | rfl | rfl | rfl <;> simp [nn]
theorem deg_le (v : Nat) : ∀ (C : List (Nat × Nat)), deg v C ≤ 2 * C.length
  | [] => by simp [deg]
  | p :: C => by
    have := deg_le v C
    simp only [deg, List.length_cons]
    split <;> split <;> omega
theorem deg9_L (n : Nat) (c : List PV) (x y : Int) (L : List Nat) (hL : ∀ k ∈ L, k < D.length) (hl : L.length ≤ 5) : ∀ (r i fuel : Nat), L.length - i = r → i ≤ L.length → r < fuel →
    m9_L3 2000 D.length (prsI (cL D)) n c x y L.length (nL L) fuel (i : Int) (nL (dgs ((L.take i).map (pk D)))) = some (nL (dgs (L.map (pk D))))
  | r, i, 0, _, _, h => by omega
  | r, i, f + 1, hr, hi, hf => by
    rw [m9_L3]
    have hnl := nL_len L
    have pl : (prsI (cL D)).length = D.length * 2 := by rw [prsI_len, cL_len]
    by_cases h : i < L.length
    · have ih := deg9_L n c x y L hL hl (r - 1) (i + 1) f (by omega) (by omega) (by omega)
      have hx := hL _ (nn_mem h)
      have hp := hD _ (pk_mem hx)
      have ei : (L.take i).map (pk D) ++ [pk D (nn L i)] = (L.take (i + 1)).map (pk D) := by
        have : L[i]? = some (nn L i) := by simp [nn, List.getD, h]
        rw [List.take_add_one, this]; simp
      have tl : ((L.take i).map (pk D)).length ≤ 5 := by rw [List.length_map, List.length_take]; omega
      generalize (L.take i).map (pk D) = C at *
      have g1 : gp (prsI (cL D)) (nn L i * 2) = .int .i64 ((pk D (nn L i)).1 : Int) := by
        have e0 : List.drop (nn L i * 2) (prsI (cL D)) = [PV.int .i64 ((pk D (nn L i)).1 : Int), .int .i64 ((pk D (nn L i)).2 : Int)] ++ prsI (cL (D.drop (nn L i + 1))) := by
          rw [prsI_drop, show (cL D).drop (nn L i) = cI (pk D (nn L i)) :: cL (D.drop (nn L i + 1)) by rw [cL, ← List.map_drop, show D.drop (nn L i) = pk D (nn L i) :: D.drop (nn L i + 1) from drop_pN hx]; rfl]; rfl
        have : (prsI (cL D))[nn L i * 2]? = some (.int .i64 ((pk D (nn L i)).1 : Int)) := by
          have := congrArg (fun l => l[0]?) e0
          simpa [List.getElem?_drop] using this
        show ((prsI (cL D))[nn L i * 2]?).getD _ = _
        rw [this]; rfl
      have g2 : gp (prsI (cL D)) (nn L i * 2 + 1) = .int .i64 ((pk D (nn L i)).2 : Int) := by
        have e0 : List.drop (nn L i * 2) (prsI (cL D)) = [PV.int .i64 ((pk D (nn L i)).1 : Int), .int .i64 ((pk D (nn L i)).2 : Int)] ++ prsI (cL (D.drop (nn L i + 1))) := by
          rw [prsI_drop, show (cL D).drop (nn L i) = cI (pk D (nn L i)) :: cL (D.drop (nn L i + 1)) by rw [cL, ← List.map_drop, show D.drop (nn L i) = pk D (nn L i) :: D.drop (nn L i + 1) from drop_pN hx]; rfl]; rfl
        have : (prsI (cL D))[nn L i * 2 + 1]? = some (.int .i64 ((pk D (nn L i)).2 : Int)) := by
          have := congrArg (fun l => l[1]?) e0
          simpa [List.getElem?_drop] using this
        show ((prsI (cL D))[nn L i * 2 + 1]?).getD _ = _
        rw [this]; rfl
      have dl : (dgs C).length = 5 := rfl
      have dl2 := nL_len (dgs C)
      have d1 := deg_le D hD d5 (pk D (nn L i)).1 C
      have d2 := deg_le D hD d5 (pk D (nn L i)).2 C
      have v2 : nn ((dgs C).set (pk D (nn L i)).1 (nn (dgs C) (pk D (nn L i)).1 + 1)) (pk D (nn L i)).2 ≤ 100 := by
        have := set_nn_le (dgs C) (pk D (nn L i)).1 (nn (dgs C) (pk D (nn L i)).1 + 1) (pk D (nn L i)).2
        have q1 := dgs_nn D hD d5 C hp.1
        have q2 := dgs_nn D hD d5 C hp.2
        omega
      rw [brn_t (decide_eq_true (by omega)), toNatN, grd_t ⟨by omega, by omega⟩, grd_t (by simp only [List.length_drop]; omega), nL_gp h, getI_t, grd_t ⟨by omega, by omega⟩, toNatN, grd_t (by omega), g1, getI_t, grd_t ⟨by omega, by omega⟩, toNatN, grd_t (by omega), nL_gp (by omega), getI_t, grd_t (by omega), grd_t (by omega), g2, getI_t, grd_t ⟨by omega, by omega⟩, toNatN, grd_t (by omega), wrapN (by rw [dgs_nn D hD d5 C hp.1]; omega), nL_set, nL_gp (by rw [List.length_set]; omega), getI_t, grd_t (by omega), wrapN (by omega), wrapN (by omega), nL_set, dgs_snoc D hD d5 C _ hp, ei]
      exact ih
    · rw [brn_f (decide_eq_false (by omega)), show i = L.length by omega, List.take_of_length_le (Nat.le_refl _)]
theorem two9_L (n : Nat) (c : List PV) (x y : Int) (m : Nat) (c2 : List PV) (C : List (Nat × Nat)) (hC : ∀ v, v < 5 → deg v C = 0 ∨ deg v C = 2) : ∀ (r v fuel : Nat), 5 - v = r → r < fuel →
    m9_L4 2000 n c x y m c2 (.int .i64 (deg 0 C : Int)) (.int .i64 (deg 1 C : Int)) (.int .i64 (deg 2 C : Int)) (.int .i64 (deg 3 C : Int)) (.int .i64 (deg 4 C : Int)) fuel (v : Int) = some (.inr ())
  | r, v, 0, _, h => by omega
  | r, v, f + 1, hr, hf => by
    rw [m9_L4]
    by_cases h : v < 5
    · have ih := two9_L n c x y m c2 C hC (r - 1) (v + 1) f (by omega) (by omega)
      have g : gp [.int .i64 (deg 0 C : Int), .int .i64 (deg 1 C : Int), .int .i64 (deg 2 C : Int), .int .i64 (deg 3 C : Int), .int .i64 (deg 4 C : Int)] v = .int .i64 (deg v C : Int) := by
        have : v = 0 ∨ v = 1 ∨ v = 2 ∨ v = 3 ∨ v = 4 := by omega
        rcases this with rfl | rfl | rfl | rfl | rfl <;> rfl
      rw [brn_t (decide_eq_true (by omega)), grd_t ⟨by omega, by omega⟩, toNatN, g, getI_t, wrapN (by omega)]
      rcases hC v h with e | e
      · rw [e, brn_f (by rfl)]; exact ih
      · rw [e, brn_t (by rfl), brn_f (by rfl)]; exact ih
    · rw [brn_f (decide_eq_false (by omega))]
end
theorem ring_iff (D : List (Nat × Nat)) (L : List Nat) : ring D L = decide (rk (L.map (pk D)) < L.length) := rfl
theorem map_pk_range (D : List (Nat × Nat)) : (List.range D.length).map (pk D) = D := by
  apply List.ext_getElem (by simp)
  intro i a b
  simp [pk, b]
theorem up_sub {D : List (Nat × Nat)} {w : List Nat} (h : w ∈ upT D.length) : (w.map (pk D)).Sublist D := by
  have e := upT_filt h
  have s : (((List.range D.length).filter fun x => w.contains x).map (pk D)).Sublist ((List.range D.length).map (pk D)) := List.Sublist.map _ List.filter_sublist
  rw [e, map_pk_range] at s
  exact s
theorem first_min {D : List (Nat × Nat)} (d5 : D.length ≤ 5) {w : List Nat} (h : (upT D.length).find? (ring D) = some w) : w ∈ upT D.length ∧ ring D w = true ∧ ∀ x ∈ upT D.length, x.length < w.length → ring D x = false := by
  refine ⟨List.mem_of_find?_eq_some h, List.find?_some h, fun x hx hl => ?_⟩
  obtain ⟨_, u, v, e, hb⟩ := List.find?_eq_some_iff_append.1 h
  have s := (sorted_n d5).1
  rw [e] at hx s
  rcases List.mem_append.1 hx with q | q
  · have := hb x q; simpa using this
  · rcases List.mem_cons.1 q with rfl | q
    · omega
    · have := (List.pairwise_cons.1 (List.pairwise_append.1 s).2.1).1 x q
      unfold ltS at this
      rw [if_neg (by omega)] at this
      have := of_decide_eq_true this
      omega
theorem ring_degs {D : List (Nat × Nat)} (hD : Ok D) (hne : ∀ p ∈ D, p.1 ≠ p.2) (d5 : D.length ≤ 5) {w : List Nat} (h : (upT D.length).find? (ring D) = some w) : ∀ v, v < 5 → deg v (w.map (pk D)) = 0 ∨ deg v (w.map (pk D)) = 2 := by
  obtain ⟨h1, h2, h3⟩ := first_min d5 h
  obtain ⟨y1, y2, y3⟩ := mem_upT.1 h1
  have mem : ∀ p ∈ w.map (pk D), p ∈ D := fun p hp => by
    obtain ⟨k, hk, rfl⟩ := List.mem_map.1 hp
    exact pk_mem (y3 k hk)
  refine deg_two (fun p hp => hD p (mem p hp)) (fun p hp => hne p (mem p hp)) (by rw [ring_iff] at h2; rw [List.length_map]; exact of_decide_eq_true h2) fun A B p e => ?_
  obtain ⟨a, b', rfl, rfl, e2⟩ := List.map_eq_append_iff.1 e
  obtain ⟨k, b, rfl, rfl, rfl⟩ := List.map_eq_cons_iff.1 e2
  have sb : (a ++ b).Sublist (a ++ k :: b) := List.Sublist.append (List.Sublist.refl _) (List.sublist_cons_self _ _)
  have hm : a ++ b ∈ upT D.length := mem_upT.2 ⟨by simp at y1 ⊢; omega, y2.sublist sb, fun x hx => y3 x (sb.subset hx)⟩
  have := h3 _ hm (by simp)
  rw [ring_iff] at this
  have l := rk_le ((a ++ b).map (pk D))
  have q := of_decide_eq_false this
  rw [← List.map_append, List.length_map] at *
  omega
theorem ring_all {D : List (Nat × Nat)} (hD : Ok D) {w : List Nat} (h1 : w ∈ upT D.length) (h2 : ring D w = true) : rk D < D.length := by
  have le := rk_le D
  apply Classical.byContradiction
  intro h
  have hO : Ok (w.map (pk D)) := fun p hp => hD p ((up_sub h1).subset hp)
  have := rk_free_sub hO (up_sub h1) hD (by omega)
  rw [ring_iff] at h2
  have := of_decide_eq_true h2
  rw [List.length_map] at *
  omega
theorem law9 (x y : Nat) (hx : x ≤ 255) (hy : y ≤ 255) (X0 X1 X2 X3 X4 : Int) (b0 b1 b2 b3 b4 : Nat) (h0 : b0 ≤ 255) (h1 : b1 ≤ 255) (h2 : b2 ≤ 255) (h3 : b3 ≤ 255) (h4 : b4 ≤ 255) :
    m9 2000 (.agg [.int .u8 (x : Int), .int .u8 (y : Int), .int .u16 X0, .int .u16 X1, .int .u16 X2, .int .u16 X3, .int .u16 X4]) (.agg [.int .u8 (b0 : Int), .int .u8 (b1 : Int), .int .u8 (b2 : Int), .int .u8 (b3 : Int), .int .u8 (b4 : Int)]) = some (.bool true) := by
  obtain ⟨n, K, e, hK, _, _, _⟩ := made_ok x y hx hy X0 X1 X2 X3 X4 5 5 6 (by omega) (by omega) (by omega) (by omega)
  have w : m16 2000 = some (.bool true) := rfl
  have hk5 := hK.many
  have B := by_L n K hK b0 b1 b2 b3 b4 h0 h1 h2 h3 h4 _ _ _ _ _ rfl K.length 0 2000 (by omega) (by omega) (by omega) (fun k hk => by omega)
  rw [List.take_zero, List.take_zero] at B
  have e' : m40 2000 (.agg [.int .u8 (x : Int), .int .u8 (y : Int), .int .u16 X0, .int .u16 X1, .int .u16 X2, .int .u16 X3, .int .u16 X4]) 5 5 6 = some (crw n K) := e
  unfold crw at e'
  rw [m9, getA7_v, getA5_v, e', bnd_t, getA2_t, getI_t, getL_t, show m9_L0 2000 _ _ _ _ _ _ _ _ 2000 0 0 0 [] [] = _ from B, bnd_t]
  by_cases hm : [] ∈ K
  · rw [if_pos hm]
  · rw [if_neg hm]
    simp only []
    have hF := byC_fits n K hK b0 b1 b2 b3 b4 hm
    have hl := (fits_len hF).1
    have hl2 := (fits_len hF).2
    have pe := pbL_picks n K hK hF
    have po := picks_ok hK hF
    have V := Valid_fits n K hK hF
    have R := Ring_fits n K hK _ hF
    have f1 := lfull_ok 2000 K.length (.int .i64 (n : Int)) (knsI (cK K)) hk5
    generalize byC b0 b1 b2 b3 b4 K = C at *
    rw [pe]
    have hO : Ok (picks K C) := fun p hp => by have := po p hp; omega
    have hp : 2 ^ K.length ≤ 32 := Nat.pow_le_pow_right (n := 2) (by omega) hk5
    have L := want9_L (picks K C) hO (by omega) (n : Int) (knsI (cK K)) (nL C) (2 ^ (picks K C).length) 0 2000 none (Nat.sub_zero _) (Nat.lt_of_le_of_lt (by rw [hl2]; exact hp) (by decide)) (fun l hl => by cases hl)
    have r := best_up (ring (picks K C)) (n := (picks K C).length) (by omega)
    unfold allS at r
    rw [Nat.sub_zero, ← List.range_eq_range', r, hl2] at L
    unfold crw at V R
    rw [hl] at V R
    have LL : m9_L1 2000 (n : Int) K.length (knsI (cK K)) K.length K.length (nL C) (prsI (cL (picks K C))) ((2 ^ K.length - 1 : Nat) : Int) 2000 .nl 0 = _ := L
    rw [f1, bnd_t, getI_t, LL, bnd_t, R, bnd_t]
    cases hf : (upT K.length).find? (ring (picks K C)) with
    | none =>
      have hr : ¬ rk (picks K C) < (picks K C).length := fun h => by
        have hmem : List.range K.length ∈ upT K.length := mem_upT.2 ⟨by simp, List.pairwise_lt_range, fun x hx => by simpa using hx⟩
        have := List.find?_eq_none.1 hf _ hmem
        rw [ring_iff, ← hl2, map_pk_range, List.length_range] at this
        exact this (decide_eq_true h)
      rw [if_neg hr] at V
      simp only []
      rw [getT2_t, show rwN [] = .lst false 0 [] from rfl, getL_t, getI_t, grd_t (by rw [nL_len]; exact hl), V, bnd_t, getI_t]
      show getN .nl _ _ = _
      rw [getN_n, brn_t (b := ((13 : Int) == 13)) rfl, brn_t (b := ((0 : Int) == 0)) rfl, brn_t (b := (((0 : Nat) : Int) == 0)) rfl, w, bnd_t, getB_t]
    | some l =>
      have hf' : (upT (picks K C).length).find? (ring (picks K C)) = some l := by rw [hl2]; exact hf
      obtain ⟨q1, q2, q3⟩ := first_min (by omega) hf'
      obtain ⟨y1, y2, y3⟩ := mem_upT.1 q1
      have hr := ring_all hO q1 q2
      have dg := ring_degs hO (fun p hp => by have := po p hp; omega) (by omega) hf'
      rw [if_pos hr] at V
      have D := deg9_L (picks K C) hO (by omega) l.length (nL l) 0 13 l (fun k hk => y3 k hk) (by omega) l.length 0 2000 (by omega) (by omega) (by omega)
      rw [List.take_zero, List.map_nil, hl2] at D
      have T := two9_L (picks K C) hO (by omega) l.length (nL l) 0 13 l.length (nL l) (l.map (pk (picks K C))) dg 5 0 2000 (by omega) (by omega)
      have hne : l ≠ [] := fun e => by
        rw [e, ring_iff] at q2
        have := of_decide_eq_true q2
        simp at this
      simp only []
      rw [getT2_t]
      show getL (.lst false l.length (nL l)) _ = _
      rw [getL_t, getI_t, grd_t (by rw [nL_len]; exact hl), V, bnd_t, getI_t]
      show getN (.lst false l.length (nL l)) _ _ = _
      rw [getN_l, grd_t (List.length_pos_iff.2 hne), show m9_L3 2000 _ _ _ _ 0 13 _ _ 2000 0 [PV.int .i64 0, .int .i64 0, .int .i64 0, .int .i64 0, .int .i64 0] = _ from D, bnd_t, grd_t (by rw [nL_len]; exact Nat.le_refl _)]
      show getA5 (.agg [.int .i64 (deg 0 (l.map (pk (picks K C))) : Int), .int .i64 (deg 1 (l.map (pk (picks K C))) : Int), .int .i64 (deg 2 (l.map (pk (picks K C))) : Int), .int .i64 (deg 3 (l.map (pk (picks K C))) : Int), .int .i64 (deg 4 (l.map (pk (picks K C))) : Int)]) _ = _
      rw [getA5_v, show m9_L4 2000 _ _ 0 13 _ _ _ _ _ _ _ 2000 0 = _ from T, bnd_t]
      simp only []
      rw [brn_t (b := ((0 : Int) == 0)) rfl, brn_t (b := ((13 : Int) == 13)) rfl, same_ok l (by omega), bnd_t, getB_t, brn_t rfl, w, bnd_t, getB_t]
end Go.Proofs.YtnponojgpkbagaaDoor
namespace Go.Proofs.YtnponojgpkbagaaDoor
open Go.V
theorem u8_of {x : PV} (h : PT tab 5 [x]) : ∃ n : Nat, x = .int .u8 (n : Int) ∧ n ≤ 255 := by
  obtain ⟨a, e, b1, b2⟩ := h.int' tl5 rfl
  cases e
  simp [IntKind.min, IntKind.max, IntKind.signed, IntKind.bits] at b1 b2
  exact ⟨a.toNat, by congr 1; omega, by omega⟩
theorem u16_of {x : List PV} (h : PT tab 52 x) : ∃ n : Int, x = [.int .u16 n] := by
  obtain ⟨a, e, _⟩ := h.int' tl52 rfl
  exact ⟨a, e⟩
theorem gang_of {qs : List PV} (h : PT tab 55 qs) : ∃ (x y : Nat) (X0 X1 X2 X3 X4 : Int), qs = [.int .u8 (x : Int), .int .u8 (y : Int), .int .u16 X0, .int .u16 X1, .int .u16 X2, .int .u16 X3, .int .u16 X4] ∧ x ≤ 255 ∧ y ≤ 255 := by
  obtain ⟨a, rs, rfl, ha, h⟩ := (h.structs tl55 rfl).cons'
  obtain ⟨b, rs, rfl, hb, h⟩ := h.cons'
  obtain ⟨c, rs, rfl, hc, h⟩ := h.cons'
  obtain rfl := h.nil'
  obtain ⟨a', ea, _⟩ := ha.int' tl5 rfl
  obtain ⟨b', eb, _⟩ := hb.int' tl5 rfl
  subst ea; subst eb
  obtain ⟨x, ex, hx⟩ := u8_of ha
  obtain ⟨y, ey, hy⟩ := u8_of hb
  obtain ⟨xs, rfl, hl, hxs⟩ := hc.arr' tl53 rfl
  match xs, hl with
  | [x0, x1, x2, x3, x4], _ =>
    obtain ⟨X0, rfl⟩ := u16_of (hxs x0 (by simp))
    obtain ⟨X1, rfl⟩ := u16_of (hxs x1 (by simp))
    obtain ⟨X2, rfl⟩ := u16_of (hxs x2 (by simp))
    obtain ⟨X3, rfl⟩ := u16_of (hxs x3 (by simp))
    obtain ⟨X4, rfl⟩ := u16_of (hxs x4 (by simp))
    refine ⟨x, y, X0, X1, X2, X3, X4, ?_, hx, hy⟩
    rw [ex, ey]; rfl
theorem by_of {qs : List PV} (h : PT tab 69 qs) : ∃ b0 b1 b2 b3 b4 : Nat, qs = [.int .u8 (b0 : Int), .int .u8 (b1 : Int), .int .u8 (b2 : Int), .int .u8 (b3 : Int), .int .u8 (b4 : Int)] ∧ b0 ≤ 255 ∧ b1 ≤ 255 ∧ b2 ≤ 255 ∧ b3 ≤ 255 ∧ b4 ≤ 255 := by
  have u8 : ∀ {x : List PV}, PT tab 5 x → ∃ n : Nat, x = [.int .u8 (n : Int)] ∧ n ≤ 255 := fun {x} h => by
    obtain ⟨a, e, b1, b2⟩ := h.int' tl5 rfl
    simp [IntKind.min, IntKind.max, IntKind.signed, IntKind.bits] at b1 b2
    exact ⟨a.toNat, by rw [e]; congr 2; omega, by omega⟩
  obtain ⟨xs, rfl, hl, hxs⟩ := h.arr' tl69 rfl
  match xs, hl with
  | [x0, x1, x2, x3, x4], _ =>
    obtain ⟨b0, rfl, h0⟩ := u8 (hxs x0 (by simp))
    obtain ⟨b1, rfl, h1⟩ := u8 (hxs x1 (by simp))
    obtain ⟨b2, rfl, h2⟩ := u8 (hxs x2 (by simp))
    obtain ⟨b3, rfl, h3⟩ := u8 (hxs x3 (by simp))
    obtain ⟨b4, rfl, h4⟩ := u8 (hxs x4 (by simp))
    exact ⟨b0, b1, b2, b3, b4, rfl, h0, h1, h2, h3, h4⟩
theorem con9 (x0 : List PV) (h0 : PT tab 55 x0) (x1 : List PV) (h1 : PT tab 69 x1) : FnP Tryd.prog 9 [.agg x0, .agg x1] (.bool true) := by
  obtain ⟨x, y, X0, X1, X2, X3, X4, rfl, hx, hy⟩ := gang_of h0
  obtain ⟨b0, b1, b2, b3, b4, rfl, h0, h1, h2, h3, h4⟩ := by_of h1
  exact c9 2000 _ _ _ (law9 x y hx hy X0 X1 X2 X3 X4 b0 b1 b2 b3 b4 h0 h1 h2 h3 h4)
end Go.Proofs.YtnponojgpkbagaaDoor
namespace Go.Proofs.YtnponojgpkbagaaDoor.crewRings
open Go.ChangeShapes Go.WideShapes Go.ChangeAt Go.RowKit Go.V
theorem own : ownKnob Tryd.prog.godebug = none := by kernel_rfl
theorem laid : laidOutB Tryd.prog = true := by kernel_rfl
set_option maxRecDepth 100000 in
theorem lifted (os : Os) (started : os.Started) (H : Type) (enc : TypeId × Value → H) :
    ReturnsInHanded {} Tryd.checked os 9 .any (fun w args => (Rows.crewRingsSpec.pre enc Tryd.prog Tryd.f9 [] false w args ∧ laidMetH Tryd.prog [("math/bits.deBruijn32tab", Rows.laid_math_bits_deBruijn32tab), ("math/bits.deBruijn64tab", Rows.laid_math_bits_deBruijn64tab)] w) ∧ sizedMet enc Tryd.prog Tryd.f9 (OpenSpec.ofChange Rows.crewRingsSpec) false w args)
      (Rows.crewRingsSpec.post enc Tryd.prog Tryd.f9 false true false false) := by
  refine returnsInHanded_of_change_and (C := Tryd.checked) (X := fun w _ => laidMetH Tryd.prog [("math/bits.deBruijn32tab", Rows.laid_math_bits_deBruijn32tab), ("math/bits.deBruijn64tab", Rows.laid_math_bits_deBruijn64tab)] w) (fun _ _ _ hh h => h.of_heap hh) own started (by kernel_rfl) Tryd.func9
    (ChangeSpec.witness_shaped (enc := enc) (C := Tryd.checked) (os := os) (X := fun w _ => laidMetH Tryd.prog [("math/bits.deBruijn32tab", Rows.laid_math_bits_deBruijn32tab), ("math/bits.deBruijn64tab", Rows.laid_math_bits_deBruijn64tab)] w) false (World.laidAll Tryd.prog os [("math/bits.deBruijn32tab", Rows.laid_math_bits_deBruijn32tab), ("math/bits.deBruijn64tab", Rows.laid_math_bits_deBruijn64tab)]) #[.agg #[.int .u8 0, .int .u8 0, .int .u16 0, .int .u16 0, .int .u16 0, .int .u16 0, .int .u16 0], .agg #[.int .u8 0, .int .u8 0, .int .u8 0, .int .u8 0, .int .u8 0]] 8 (World.laidAll_os _ _ _)
      (World.shaped_of_ZipB (by kernel_rfl) (by kernel_rfl)) (by kernel_rfl) (by kernel_rfl) (by kernel_rfl)
      (by rw [MakeChecks.laidMetH_plain _ _ _ (by kernel_rfl)]; exact laidMet_laidAll _ (by kernel_rfl) (by kernel_rfl))) ?_
  intro W base args ds gs before hval0 hW _ _ hL _
  have hW' := hW
  obtain ⟨p, q, hA0, hV, rfl, hfz, hnd⟩ := hW
  have hA : DataW.TrodAll enc Tryd.prog W 0 (fun _ => true) true Tryd.f9.params.toList args.toList ds p := hA0
  rw [Tryd.params9] at hA
  obtain ⟨v0, vs0, d0, ds0, p0, q0, e0, rfl, rfl, h0, hr0⟩ := trodAll_cons hA
  obtain ⟨v1, vs1, d1, ds1, p1, q1, e1, rfl, rfl, h1, hr1⟩ := trodAll_cons hr0
  obtain ⟨rfl, rfl, rfl⟩ := trodAll_nil hr1
  subst e1
  obtain rfl : args = #[v0, v1] := by cases args; simp_all
  obtain ⟨x0, k0, t0⟩ := arg_agg (n := 8) tab_ok (hval0 0 55 v0 rfl rfl) h0 (by kernel_rfl) (by kernel_rfl)
  obtain ⟨x1, k1, t1⟩ := arg_agg (n := 8) tab_ok (hval0 1 69 v1 rfl rfl) h1 (by kernel_rfl) (by kernel_rfl)
  obtain ⟨rfl, rfl⟩ := trodVars_none hV
  clear hA0 hval0
  simp only [List.append_nil] at hW'
  refine (FnP.calls (W := W) (vals := #[v0, v1]) (con9 x0 t0 x1 t1) (.cons _ _ _ _ k0 (.cons _ _ _ _ k1 .nil)) (laidG hL)).mono fun e W' ⟨he, hg⟩ => ?_
  subst he
  exact ⟨_, rfl, post_of_kept (pv := []) hW' (fun _ _ _ => trodAll_cons_mk (shut_bool Tryd.underlying4 _) trodAll_mk0) (fun sp hsp => trodAll_cons_mk (Kept.trod hg laid (by kernel_rfl) (of_decide_eq_true (by kernel_rfl)) h0 (fun y hy => hsp y (by simp [hy]))) (trodAll_cons_mk (Kept.trod hg laid (by kernel_rfl) (of_decide_eq_true (by kernel_rfl)) h1 (fun y hy => hsp y (by simp [hy]))) (trodAll_mk0))) (fun _ _ => rfl) (by simp)
    hg (ok_one (by kernel_rfl) rfl (okWide_bool_mk Tryd.underlying4 _))⟩
theorem over : Rows.crewRingsRow.holds Tryd.pinned (OpenSpec.ofChange Rows.crewRingsSpec) :=
  OpenClaim.holds_of_wide 9 Tryd.f9 rfl rfl rfl rfl rfl rfl rfl ⟨rfl, rfl, rfl, rfl, rfl⟩ rfl rfl rfl rfl rfl (by kernel_rfl) Tryd.func9 (by kernel_rfl)
    (of_decide_eq_true (by kernel_rfl)) (by unfold Func.isWrapper; first | (rw [if_pos (by decide +kernel)]; kernel_rfl) | (rw [if_neg (by decide +kernel)]; exact ⟨rfl, rfl⟩))
    (fun os started H enc _ => lifted os started H enc)
theorem card : Rows.CrewRingsCardSaid :=
  Claim7.holds_tied_plain_at .later [] [.data, .data] true (true, "36f3adb999a13030bb38168af2e88bed1a560d200de820ff25b5e377fa9c04d7") true (over) (fun _ h => by cases h) (by kernel_rfl) (fun _ h => by cases h) crewRings_row_tie rfl ⟨rfl, rfl⟩ (by kernel_rfl) rfl
    (fun f fn hf hfn => by
      obtain rfl : f = 9 := Option.some.inj ((show Tryd.prog.funcNamed "breeze/breezelaw10.CrewRings" = some 9 by kernel_rfl).symm.trans hf) |>.symm
      obtain rfl : fn = Tryd.f9 := (Option.some.inj (Tryd.func9.symm.trans hfn)).symm
      exact ⟨by kernel_rfl, fun j t ht => by
        rw [Tryd.params9] at ht
        rcases j with _ | _ | j
        · obtain rfl : t = 55 := by simpa using ht.symm
          exact (show Tryd.prog.wantsStandIn 55 = false by kernel_rfl)
        · obtain rfl : t = 69 := by simpa using ht.symm
          exact (show Tryd.prog.wantsStandIn 69 = false by kernel_rfl)
        · simp at ht⟩)
    (by kernel_rfl)
end Go.Proofs.YtnponojgpkbagaaDoor.crewRings
namespace Go.Proofs.YtnponojgpkbagaaDoor
/-- the statement -/
theorem crewRings_holds : Rows.CrewRingsCardSaid := crewRings.card
#print axioms crewRings_holds
end Go.Proofs.YtnponojgpkbagaaDoor
