/-
  CrewNamed: the law returns true.
-/
import Derived.Test.YtnponojgpkbagaaDoorSBest
import Derived.Test.YtnponojgpkbagaaDoorSFndA
import Derived.Test.YtnponojgpkbagaaDoorSV32
import Derived.Test.YtnponojgpkbagaaDoorRows
import Derived.Test.YtnponojgpkbagaaDoorCards
import Derived.Test.YtnponojgpkbagaaDoorTie
import Derived.WalkKit
import Derived.ProofKit
import Derived.OpenShut
import Derived.Lay
import Derived.SevenTiedAt
import Derived.MakeChecks
set_option linter.unusedSimpArgs false
set_option linter.unusedVariables false
namespace Go.Proofs.YtnponojgpkbagaaDoor
open Go.V Go.Crew
set_option linter.unusedSectionVars false
set_option linter.unnecessarySimpa false
theorem brn_t {α : Type} {b : Bool} {x y : Option α} (h : b = true) : brn b x y = x := by subst h; rfl
theorem brn_f {α : Type} {b : Bool} {x y : Option α} (h : b = false) : brn b x y = y := by subst h; rfl
theorem grd_t {α : Type} {p : Prop} [Decidable p] {k : Option α} (h : p) : grd p k = k := by simp [grd, h]
theorem wrapN {n : Nat} (h : n ≤ 100000) : IntKind.i64.wrap ((n : Int) + 1) = ((n + 1 : Nat) : Int) := by
  rw [wrap64 (by omega) (by omega)]; omega
theorem toNatN (n : Nat) : Int.toNat (n : Int) = n := by omega
def prI (p : Int × Int) : List PV := [.int .i64 p.1, .int .i64 p.2]
def prsI (l : List (Int × Int)) : List PV := l.flatMap prI
theorem prsI_len : ∀ (l : List (Int × Int)), (prsI l).length = l.length * 2
  | [] => rfl
  | p :: l => by
    have := prsI_len l
    simp only [prsI, List.flatMap_cons, List.length_append, prI, List.length_cons, List.length_nil] at *
    omega
def pI (l : List (Int × Int)) (i : Nat) : Int × Int := l.getD i (0, 0)
theorem prsI_drop : ∀ (l : List (Int × Int)) (i : Nat), (prsI l).drop (i * 2) = prsI (l.drop i)
  | l, 0 => by simp
  | [], i + 1 => by simp [prsI]
  | p :: l, i + 1 => by
    have := prsI_drop l i
    rw [show (i + 1) * 2 = i * 2 + 2 by omega]
    simpa [prsI, prI] using this
theorem prsI_take : ∀ (l : List (Int × Int)) (i : Nat), (prsI l).take (i * 2) = prsI (l.take i)
  | l, 0 => by simp [prsI]
  | [], i + 1 => by simp [prsI]
  | p :: l, i + 1 => by
    have := prsI_take l i
    rw [show (i + 1) * 2 = i * 2 + 2 by omega]
    simpa [prsI, prI] using this
theorem drop_pI {l : List (Int × Int)} {i : Nat} (h : i < l.length) : l.drop i = pI l i :: l.drop (i + 1) := by
  rw [List.drop_eq_getElem_cons h]; simp [pI, List.getD, h]
theorem take_pI {l : List (Int × Int)} {i : Nat} (h : i < l.length) : l.take (i + 1) = l.take i ++ [pI l i] := by
  rw [List.take_add_one]; simp [pI, List.getD, h]
theorem prsI_two {l : List (Int × Int)} {i : Nat} (h : i < l.length) : List.take 2 (List.drop (i * 2) (prsI l)) = [.int .i64 (pI l i).1, .int .i64 (pI l i).2] := by
  rw [prsI_drop, drop_pI h]; simp [prsI, prI]
theorem prsI_two' {l : List (Int × Int)} {i : Nat} (h : i < l.length) : 2 ≤ List.length (List.drop (i * 2) (prsI l)) := by
  rw [prsI_drop, prsI_len, List.length_drop]; omega
theorem prsI_app (l m : List (Int × Int)) : prsI l ++ prsI m = prsI (l ++ m) := by simp [prsI]
def knI (l : List (Int × Int)) : PV := .lst false l.length (prsI l)
def knsI (K : List (List (Int × Int))) : List PV := K.map knI
theorem knsI_len (K : List (List (Int × Int))) : (knsI K).length = K.length := by simp [knsI]
def kI (K : List (List (Int × Int))) (i : Nat) : List (Int × Int) := K.getD i []
theorem knsI_gp {K : List (List (Int × Int))} {i : Nat} (h : i < K.length) : gp (knsI K) i = .lst false (kI K i).length (prsI (kI K i)) := by
  simp [knsI, gp, kI, knI, List.getD, h]
theorem kI_mem {K : List (List (Int × Int))} {i : Nat} (h : i < K.length) : kI K i ∈ K := by simp [kI, List.getD, h]
theorem drop_kI {K : List (List (Int × Int))} {i : Nat} (h : i < K.length) : K.drop i = kI K i :: K.drop (i + 1) := by
  rw [List.drop_eq_getElem_cons h]; simp [kI, List.getD, h]
def jP (j : List Nat) : List PV := [.int .i64 (ja j 0 : Int), .int .i64 (ja j 1 : Int), .int .i64 (ja j 2 : Int), .int .i64 (ja j 3 : Int), .int .i64 (ja j 4 : Int)]
theorem jP_gp {j : List Nat} {s : Nat} (h : s < 5) : gp (jP j) s = .int .i64 (ja j s : Int) := by
  have : s = 0 ∨ s = 1 ∨ s = 2 ∨ s = 3 ∨ s = 4 := by omega
  rcases this with rfl | rfl | rfl | rfl | rfl <;> rfl
def cI (p : Nat × Nat) : Int × Int := ((p.1 : Int), (p.2 : Int))
theorem getA5_jP {α : Type} (j : List Nat) (k : PV → PV → PV → PV → PV → Option α) : getA5 (.agg (jP j)) k = k (.int .i64 (ja j 0 : Int)) (.int .i64 (ja j 1 : Int)) (.int .i64 (ja j 2 : Int)) (.int .i64 (ja j 3 : Int)) (.int .i64 (ja j 4 : Int)) := rfl
theorem joined_ok (N : Nat) (j : List Nat) (p : Nat × Nat) (hp : p.1 < 5 ∧ p.2 < 5) : m71 N (.agg (jP j)) (.agg (prI (cI p))) = some (.bool (jnd j p)) := by
  simp only [m71, prI, cI, getA2, getI, if_true, toNatN]
  have e1 := jP_gp (j := j) hp.1
  have e2 := jP_gp (j := j) hp.2
  unfold jP at e1 e2
  rw [getA5_jP, grd_t ⟨by omega, by omega⟩, grd_t hp.1, e1]
  simp only [if_true]
  rw [grd_t ⟨by omega, by omega⟩, grd_t hp.2, e2]
  simp only [if_true, jnd]
  congr 2
  rw [Bool.eq_iff_iff]; simp; omega
theorem maxI_hi (j : List Nat) (p : Nat × Nat) : maxI (ja j p.1 : Int) (ja j p.2 : Int) = (hi j p : Int) := by
  unfold maxI hi; split <;> omega
theorem minI_lo (j : List Nat) (p : Nat × Nat) : minI (ja j p.1 : Int) (ja j p.2 : Int) = (lo j p : Int) := by
  unfold minI lo; split <;> omega
def hw (j : List Nat) (p : Nat × Nat) (s t : Nat) : PV := .int .i64 ((if t < s then ja (wth j p) t else ja j t : Nat) : Int)
def mid (j : List Nat) (p : Nat × Nat) (s : Nat) : List PV := [hw j p s 0, hw j p s 1, hw j p s 2, hw j p s 3, hw j p s 4]
theorem mid_set {j : List Nat} {p : Nat × Nat} {s : Nat} (hj : j.length = 5) (h : s < 5) (e : ja j s = hi j p) : (mid j p s).set s (.int .i64 (lo j p : Int)) = mid j p (s + 1) := by
  have w := wth_at hj p h
  rw [if_pos e] at w
  have : s = 0 ∨ s = 1 ∨ s = 2 ∨ s = 3 ∨ s = 4 := by omega
  rcases this with rfl | rfl | rfl | rfl | rfl <;> simp [mid, hw, w]
theorem mid_not {j : List Nat} {p : Nat × Nat} {s : Nat} (hj : j.length = 5) (h : s < 5) (e : ja j s ≠ hi j p) : mid j p s = mid j p (s + 1) := by
  have w := wth_at hj p h
  rw [if_neg e] at w
  have : s = 0 ∨ s = 1 ∨ s = 2 ∨ s = 3 ∨ s = 4 := by omega
  rcases this with rfl | rfl | rfl | rfl | rfl <;> simp [mid, hw, w]
theorem with_L (N : Nat) (j : List Nat) (p : Nat × Nat) (hj : j.length = 5) : ∀ (r s fuel : Nat), 5 - s = r → s ≤ 5 → r < fuel →
    m98_L0 N (.int .i64 (ja j 0 : Int)) (.int .i64 (ja j 1 : Int)) (.int .i64 (ja j 2 : Int)) (.int .i64 (ja j 3 : Int)) (.int .i64 (ja j 4 : Int)) (ja j p.1 : Int) (ja j p.2 : Int) fuel (s : Int) (mid j p s) = some (mid j p 5)
  | r, s, 0, _, _, h => by omega
  | r, s, f + 1, hr, hs, hf => by
    rw [m98_L0]
    by_cases h : s < 5
    · have ih := with_L N j p hj (r - 1) (s + 1) f (by omega) (by omega) (by omega)
      have e1 := jP_gp (j := j) h
      unfold jP at e1
      rw [brn_t (by simp; omega), toNatN, grd_t ⟨by omega, by omega⟩, e1, maxI_hi, minI_lo, wrapN (by omega)]
      simp only [getI, if_true]
      by_cases e : ja j s = hi j p
      · rw [brn_t (by simp; omega), grd_t (by simp [mid]; omega), mid_set hj h e]; exact ih
      · rw [brn_f (by simp; omega), mid_not hj h e]; exact ih
    · rw [brn_f (by simp; omega), show s = 5 by omega]
theorem mid_zero (j : List Nat) (p : Nat × Nat) : mid j p 0 = jP j := by simp [mid, hw, jP]
theorem mid_five (j : List Nat) (p : Nat × Nat) : mid j p 5 = jP (wth j p) := by simp [mid, hw, jP]
theorem with_ok (N : Nat) (hN : 2000 ≤ N) (j : List Nat) (hj : j.length = 5) (p : Nat × Nat) (hp : p.1 < 5 ∧ p.2 < 5) : m98 N (.agg (jP j)) (.agg (prI (cI p))) = some (.agg (jP (wth j p))) := by
  simp only [m98, prI, cI, getA2, getI, if_true, toNatN]
  have e1 := jP_gp (j := j) hp.1
  have e2 := jP_gp (j := j) hp.2
  unfold jP at e1 e2
  rw [getA5_jP, grd_t ⟨by omega, by omega⟩, grd_t hp.1, e1]
  simp only [if_true]
  rw [grd_t ⟨by omega, by omega⟩, grd_t hp.2, e2]
  simp only [if_true]
  have := with_L N j p hj 5 0 N (by omega) (by omega) (by omega)
  rw [mid_zero, mid_five] at this
  rw [show m98_L0 N (.int .i64 (ja j 0 : Int)) (.int .i64 (ja j 1 : Int)) (.int .i64 (ja j 2 : Int)) (.int .i64 (ja j 3 : Int)) (.int .i64 (ja j 4 : Int)) (ja j p.1 : Int) (ja j p.2 : Int) N 0 [.int .i64 (ja j 0 : Int), .int .i64 (ja j 1 : Int), .int .i64 (ja j 2 : Int), .int .i64 (ja j 3 : Int), .int .i64 (ja j 4 : Int)] = _ from this]
  rfl
theorem apart_ok : m97 2000 = some (.agg (jP apt)) := by kernel_rfl
theorem wth_len {j : List Nat} {p : Nat × Nat} (h : j.length = 5) : (wth j p).length = 5 := by simp [wth, h]
def cL (L : List (Nat × Nat)) : List (Int × Int) := L.map cI
theorem cL_len (L : List (Nat × Nat)) : (cL L).length = L.length := by simp [cL]
def pN (L : List (Nat × Nat)) (i : Nat) : Nat × Nat := L.getD i (0, 0)
theorem cL_pI {L : List (Nat × Nat)} {i : Nat} (h : i < L.length) : pI (cL L) i = cI (pN L i) := by simp [pI, cL, pN, List.getD, h]
theorem pN_mem {L : List (Nat × Nat)} {i : Nat} (h : i < L.length) : pN L i ∈ L := by simp [pN, List.getD, h]
theorem drop_pN {L : List (Nat × Nat)} {i : Nat} (h : i < L.length) : L.drop i = pN L i :: L.drop (i + 1) := by
  rw [List.drop_eq_getElem_cons h]; simp [pN, List.getD, h]
theorem count_L (N : Nat) (hN : 2000 ≤ N) (L : List (Nat × Nat)) (hL : Ok L) (hl : L.length ≤ 1000) : ∀ (r i fuel a : Nat) (j : List Nat), L.length - i = r → j.length = 5 → a ≤ i → r < fuel →
    m70_L0 N L.length (prsI (cL L)) fuel (a : Int) (i : Int) (.int .i64 (ja j 0 : Int)) (.int .i64 (ja j 1 : Int)) (.int .i64 (ja j 2 : Int)) (.int .i64 (ja j 3 : Int)) (.int .i64 (ja j 4 : Int)) = some ((a + cntJ j (L.drop i) : Nat) : Int)
  | r, i, 0, a, j, _, _, _, h => by omega
  | r, i, f + 1, a, j, hr, hj, ha, hf => by
    rw [m70_L0]
    by_cases h : i < L.length
    · have h' : i < (cL L).length := by rw [cL_len]; exact h
      have hp := hL _ (pN_mem h)
      rw [brn_t (by simp; omega), toNatN, grd_t ⟨by omega, by omega⟩, grd_t (prsI_two' h'), prsI_two h', cL_pI h, drop_pN h]
      have e1 := joined_ok N j (pN L i) hp
      have e2 := with_ok N hN j hj (pN L i) hp
      unfold jP prI at e1
      unfold jP prI at e2
      simp only [getA2, e1, bnd', getB, cntJ]
      cases e : jnd j (pN L i) with
      | true =>
        rw [brn_t rfl, wrapN (by omega), count_L N hN L hL hl (r - 1) (i + 1) f a j (by omega) hj (by omega) (by omega)]
        simp
      | false =>
        rw [brn_f rfl]
        simp only [e2, getA5]
        rw [wrapN (by omega), wrapN (by omega), count_L N hN L hL hl (r - 1) (i + 1) f (a + 1) (wth j (pN L i)) (by omega) (wth_len hj) (by omega) (by omega)]
        simp; omega
    · rw [brn_f (by simp; omega), List.drop_eq_nil_of_le (by omega)]; simp [cntJ]
theorem count_ok (L : List (Nat × Nat)) (hL : Ok L) (hl : L.length ≤ 1000) : m70 2000 (.lst false L.length (prsI (cL L))) = some (.int .i64 (rk L : Int)) := by
  simp only [m70, getL, apart_ok, bnd']
  rw [getA5_jP]
  have := count_L 2000 (by omega) L hL hl L.length 0 2000 0 apt (by omega) rfl (by omega) (by omega)
  rw [show m70_L0 2000 L.length (prsI (cL L)) 2000 0 0 _ _ _ _ _ = _ from this]
  simp [rk]
def cK (K : List (List (Nat × Nat))) : List (List (Int × Int)) := K.map cL
theorem cK_len (K : List (List (Nat × Nat))) : (cK K).length = K.length := by simp [cK]
def kN (K : List (List (Nat × Nat))) (i : Nat) : List (Nat × Nat) := K.getD i []
theorem cK_kI {K : List (List (Nat × Nat))} {i : Nat} (h : i < K.length) : kI (cK K) i = cL (kN K i) := by simp [kI, cK, kN, List.getD, h]
theorem kN_mem {K : List (List (Nat × Nat))} {i : Nat} (h : i < K.length) : kN K i ∈ K := by simp [kN, List.getD, h]
def crw (n : Nat) (K : List (List (Nat × Nat))) : PV := .agg [.int .i64 (n : Int), .lst false K.length (knsI (cK K))]
def nL (X : List Nat) : List PV := X.map fun (k : Nat) => PV.int .i64 (k : Int)
theorem nL_len (X : List Nat) : (nL X).length = X.length := by simp [nL]
def nn (X : List Nat) (i : Nat) : Nat := X.getD i 0
theorem nL_gp {X : List Nat} {i : Nat} (h : i < X.length) : gp (nL X) i = .int .i64 (nn X i : Int) := by
  simp [nL, gp, nn, List.getD, h]
theorem nn_mem {X : List Nat} {i : Nat} (h : i < X.length) : nn X i ∈ X := by
  simp [nn, List.getD, h]
theorem drop_nn {X : List Nat} {i : Nat} (h : i < X.length) : X.drop i = nn X i :: X.drop (i + 1) := by
  rw [List.drop_eq_getElem_cons h]; simp [nn, List.getD, h]
def pairsOf (K : List (List (Nat × Nat))) (ks : List Nat) : List (Nat × Nat) := ks.flatMap (kN K)
structure Fit (n : Nat) (K : List (List (Nat × Nat))) : Prop where
  n1 : 1 ≤ n
  n5 : n ≤ 5
  many : K.length ≤ 5
  len : ∀ l ∈ K, l.length ≤ 6
  lt : ∀ l ∈ K, ∀ p ∈ l, p.1 < p.2 ∧ p.2 < n
  one : ∀ l ∈ K, l.Nodup
theorem kN_lt {n : Nat} {K : List (List (Nat × Nat))} (h : Fit n K) {k : Nat} : ∀ p ∈ kN K k, p.1 < n ∧ p.2 < n := fun p hp => by
  by_cases hk : k < K.length
  · have := h.lt _ (kN_mem hk) p hp; omega
  · simp [kN, List.getD, hk] at hp
theorem kN_len {n : Nat} {K : List (List (Nat × Nat))} (h : Fit n K) {k : Nat} : (kN K k).length ≤ 6 := by
  by_cases hk : k < K.length
  · exact h.len _ (kN_mem hk)
  · simp [kN, List.getD, hk]
theorem pairsOf_lt {n : Nat} {K : List (List (Nat × Nat))} (h : Fit n K) {ks : List Nat} : ∀ p ∈ pairsOf K ks, p.1 < n ∧ p.2 < n := fun p hp => by
  obtain ⟨k, _, hp⟩ := List.mem_flatMap.1 hp
  exact kN_lt h p hp
theorem pairsOf_ok {n : Nat} {K : List (List (Nat × Nat))} (h : Fit n K) {ks : List Nat} : Ok (pairsOf K ks) := fun p hp => by
  have := pairsOf_lt h p hp
  have := h.n5
  omega
theorem pairsOf_len {n : Nat} {K : List (List (Nat × Nat))} (h : Fit n K) : ∀ (ks : List Nat), (pairsOf K ks).length ≤ ks.length * 6
  | [] => by simp [pairsOf]
  | k :: ks => by
    have := pairsOf_len h ks
    have := kN_len h (k := k)
    simp only [pairsOf, List.flatMap_cons, List.length_append, List.length_cons] at *
    omega
theorem cL_app (L M : List (Nat × Nat)) : cL L ++ cL M = cL (L ++ M) := by simp [cL]
theorem rank_L (N : Nat) (n : Nat) (K : List (List (Nat × Nat))) (hK : Fit n K) (p : PV) (ks : List Nat) (hk : ∀ k ∈ ks, k < K.length) (hl : ks.length ≤ 100) : ∀ (r i fuel : Nat), ks.length - i = r → i ≤ ks.length → r < fuel →
    m64_L0 N p ks.length (nL ks) fuel (pairsOf K (ks.take i)).length (i : Int) (.lst false K.length (knsI (cK K))) (prsI (cL (pairsOf K (ks.take i)))) = some ((pairsOf K ks).length, prsI (cL (pairsOf K ks)))
  | r, i, 0, _, _, h => by omega
  | r, i, f + 1, hr, hi, hf => by
    have hnl := nL_len ks
    have hkl : (knsI (cK K)).length = K.length := by rw [knsI_len, cK_len]
    rw [m64_L0]
    by_cases h : i < ks.length
    · have ih := rank_L N n K hK p ks hk hl (r - 1) (i + 1) f (by omega) (by omega) (by omega)
      have hx := hk _ (nn_mem h)
      have h6 := kN_len hK (k := nn ks i)
      have h7 := pairsOf_len hK (ks.take i)
      rw [List.length_take] at h7
      rw [brn_t (by simp; omega), toNatN, grd_t ⟨by omega, by omega⟩, grd_t (by simp only [List.length_drop]; omega), nL_gp h]
      simp only [getI, if_true, getL, toNatN]
      rw [grd_t ⟨by omega, by omega⟩, grd_t (by simp only [List.length_drop]; omega), knsI_gp (by rw [cK_len]; exact hx), cK_kI hx]
      simp only [cL_len]
      rw [grd_t (by rw [prsI_len, cL_len]), grd_t (by omega), grd_t (by rw [prsI_len, cL_len]), wrapN (by omega), prsI_app, cL_app]
      have e : pairsOf K (ks.take i) ++ kN K (nn ks i) = pairsOf K (ks.take (i + 1)) := by
        rw [List.take_add_one]
        have : ks[i]? = some (nn ks i) := by simp [nn, List.getD, h]
        rw [this]
        simp [pairsOf]
      rw [e, show (pairsOf K (ks.take i)).length + (kN K (nn ks i)).length = (pairsOf K (ks.take (i + 1))).length by rw [← e, List.length_append]]
      exact ih
    · rw [brn_f (by simp; omega), List.take_of_length_le (by omega)]
theorem rank_ok (n : Nat) (K : List (List (Nat × Nat))) (hK : Fit n K) (ks : List Nat) (hk : ∀ k ∈ ks, k < K.length) (hl : ks.length ≤ 100) : m64 2000 (crw n K) (.lst false ks.length (nL ks)) = some (.int .i64 (rk (pairsOf K ks) : Int)) := by
  have h := rank_L 2000 n K hK (.int .i64 (n : Int)) ks hk hl ks.length 0 2000 (by omega) (by omega) (by omega)
  have hp := pairsOf_len hK ks
  simp only [m64, crw, getA2, getL]
  rw [show m64_L0 2000 (.int .i64 (n : Int)) ks.length (nL ks) 2000 0 0 (.lst false K.length (knsI (cK K))) [] = _ from h]
  simp only [bnd']
  rw [grd_t (by rw [prsI_len, cL_len])]
  simp only [count_ok (pairsOf K ks) (pairsOf_ok hK) (by omega), getI, if_true]
theorem idx_L (N : Nat) (p : Int × Int) (l : List (Int × Int)) (hl : l.length ≤ 1000) : ∀ (r i fuel : Nat), l.length - i = r → r < fuel →
    ∃ o, m93_L0 N l.length (prsI l) fuel (i : Int) (.int .i64 p.1) (.int .i64 p.2) = some o ∧ ((l.drop i).contains p = true → ∃ k : Nat, o = .inl (.int .i64 (k : Int))) ∧ ((l.drop i).contains p = false → o = .inr ())
  | r, i, 0, _, h => by omega
  | r, i, f + 1, hr, hf => by
    rw [m93_L0]
    by_cases h : i < l.length
    · obtain ⟨o, o1, o2, o3⟩ := idx_L N p l hl (r - 1) (i + 1) f (by omega) (by omega)
      rw [brn_t (by simp; omega), toNatN, grd_t ⟨by omega, by omega⟩, grd_t (prsI_two' h), prsI_two h, drop_pI h]
      simp only [getA2, getI, if_true, List.contains_cons]
      by_cases e : p = pI l i
      · have e1 : (p == pI l i) = true := by simpa using e
        rw [brn_t (by rw [← e]; simp), e1]
        exact ⟨_, rfl, fun _ => ⟨i, rfl⟩, fun h => by simp at h⟩
      · have e1 : (p == pI l i) = false := by simpa using e
        rw [brn_f (by
          rw [Bool.and_eq_false_iff]
          by_cases a : p.1 = (pI l i).1
          · right; have : p.2 ≠ (pI l i).2 := fun b => e (Prod.ext a b)
            simpa using this
          · left; simpa using a), wrapN (by omega), e1]
        exact ⟨o, o1, fun h => o2 (by simpa using h), fun h => o3 (by simpa using h)⟩
    · rw [brn_f (by simp; omega), List.drop_eq_nil_of_le (by omega)]
      exact ⟨_, rfl, fun h => by simp at h, fun _ => rfl⟩
theorem has_ok (N : Nat) (hN : 2000 ≤ N) (p : Int × Int) (l : List (Int × Int)) (hl : l.length ≤ 1000) : m51 N (.lst false l.length (prsI l)) (.agg [.int .i64 p.1, .int .i64 p.2]) = some (.bool (l.contains p)) := by
  obtain ⟨o, o1, o2, o3⟩ := idx_L N p l hl l.length 0 N (by omega) (by omega)
  rw [List.drop_zero] at o2 o3
  simp only [m51, getL, getA2, m93]
  rw [show m93_L0 N l.length (prsI l) N 0 (.int .i64 p.1) (.int .i64 p.2) = some o from o1]
  cases h : l.contains p with
  | true =>
    obtain ⟨k, rfl⟩ := o2 h
    simp [bnd', getI]
  | false => rw [o3 h]; simp [bnd', getI]
def chkL (n : Int) : List (Int × Int) → List (Int × Int) → Int
  | _, [] => 0
  | d, p :: r => if minI p.1 p.2 < 0 then 2 else if maxI p.1 p.2 ≥ n then 2 else if p.1 ≥ p.2 then 7 else if d.contains p then 6 else chkL n (d ++ [p]) r
def chkK (n : Int) : List (List (Int × Int)) → Int
  | [] => 0
  | l :: ls => if 6 < l.length then 3 else if chkL n [] l ≠ 0 then chkL n [] l else chkK n ls
def chk (n : Int) (K : List (List (Int × Int))) : Int := if n < 1 then 1 else if n > 5 then 1 else if 5 < K.length then 3 else chkK n K
def outE (e : Int) : PV ⊕ Unit := if e = 0 then .inr () else .inl (.int .i64 e)
theorem chk_L1 (N : Nat) (hN : 2000 ≤ N) (n : Int) (m : Nat) (c : List PV) (x : Int) (l : List (Int × Int)) (hl : l.length ≤ 1000) : ∀ (r i fuel : Nat), l.length - i = r → r < fuel →
    m22_L1 N n m c x l.length (prsI l) fuel (i : Int) = some (outE (chkL n (l.take i) (l.drop i)))
  | r, i, 0, _, h => by omega
  | r, i, f + 1, hr, hf => by
    rw [m22_L1]
    by_cases h : i < l.length
    · have ih := chk_L1 N hN n m c x l hl (r - 1) (i + 1) f (by omega) (by omega)
      rw [brn_t (by simp; omega), toNatN, grd_t ⟨by omega, by omega⟩, grd_t (prsI_two' h), prsI_two h, drop_pI h]
      simp only [getA2, getI, if_true, chkL]
      by_cases h1 : minI (pI l i).1 (pI l i).2 < 0
      · rw [brn_t (by simpa using h1), if_pos h1]; rfl
      · rw [brn_f (by simpa using h1), if_neg h1]
        by_cases h2 : maxI (pI l i).1 (pI l i).2 ≥ n
        · rw [brn_t (by simpa using h2), if_pos h2]; rfl
        · rw [brn_f (by simpa using h2), if_neg h2]
          by_cases h3 : (pI l i).1 ≥ (pI l i).2
          · rw [brn_t (by simpa using h3), if_pos h3]; rfl
          · have e := has_ok N hN (pI l i) (l.take i) (by rw [List.length_take]; omega)
            rw [show (l.take i).length = i by rw [List.length_take]; omega] at e
            rw [brn_f (by simpa using h3), if_neg h3, grd_t (by omega), grd_t (prsI_len l), prsI_take, e]
            simp only [bnd', getB]
            cases hc : (l.take i).contains (pI l i) with
            | true => rw [brn_t rfl, if_pos rfl]; rfl
            | false => rw [brn_f rfl, if_neg (by simp), wrapN (by omega), ih, take_pI h]
    · rw [brn_f (by simp; omega), List.drop_eq_nil_of_le (by omega)]; rfl
theorem chk_L0 (N : Nat) (hN : 2000 ≤ N) (n : Int) (K : List (List (Int × Int))) (hK : K.length ≤ 1000) (hl : ∀ l ∈ K, l.length ≤ 1000) : ∀ (r i fuel : Nat), K.length - i = r → r < fuel →
    m22_L0 N n K.length (knsI K) fuel (i : Int) = some (outE (chkK n (K.drop i)))
  | r, i, 0, _, h => by omega
  | r, i, f + 1, hr, hf => by
    have hk := knsI_len K
    rw [m22_L0]
    by_cases h : i < K.length
    · have ih := chk_L0 N hN n K hK hl (r - 1) (i + 1) f (by omega) (by omega)
      have h1 := hl _ (kI_mem h)
      rw [brn_t (by simp; omega), toNatN, grd_t ⟨by omega, by omega⟩, grd_t (by simp only [List.length_drop]; omega), knsI_gp h, drop_kI h]
      simp only [getL, chkK]
      by_cases h2 : 6 < (kI K i).length
      · rw [brn_t (by simp; omega), if_pos h2]; rfl
      · have e := chk_L1 N hN n K.length (knsI K) (i : Int) (kI K i) h1 (kI K i).length 0 N (by omega) (by omega)
        rw [List.take_zero, List.drop_zero] at e
        rw [brn_f (by simp; omega), if_neg h2, show m22_L1 N n K.length (knsI K) (i : Int) (kI K i).length (prsI (kI K i)) N 0 = _ from e]
        by_cases h3 : chkL n [] (kI K i) = 0
        · rw [if_neg (by simpa using h3), outE, if_pos h3]
          simp only [bnd']
          rw [wrapN (by omega)]; exact ih
        · rw [if_pos h3, outE, if_neg h3]; simp [bnd', outE, h3]
    · rw [brn_f (by simp; omega), List.drop_eq_nil_of_le (by omega)]; rfl
theorem outE_end {x : Int} : (match outE x with | .inl p => some p | .inr () => some (PV.int .i64 0)) = some (.int .i64 x) := by
  unfold outE
  by_cases h : x = 0
  · rw [if_pos h, h]
  · rw [if_neg h]
theorem check_ok (N : Nat) (hN : 2000 ≤ N) (n : Int) (K : List (List (Int × Int))) (hK : K.length ≤ 1000) (hl : ∀ l ∈ K, l.length ≤ 1000) : m22 N (.agg [.int .i64 n, .lst false K.length (knsI K)]) = some (.int .i64 (chk n K)) := by
  simp only [m22, getA2, getI, if_true, getL]
  unfold chk
  by_cases h1 : n < 1
  · rw [brn_t (by simpa using h1), if_pos h1]
  · rw [brn_f (by simpa using h1), if_neg h1]
    by_cases h2 : n > 5
    · rw [brn_t (by simpa using h2), if_pos h2]
    · rw [brn_f (by simpa using h2), if_neg h2]
      by_cases h3 : 5 < K.length
      · rw [brn_t (by simp; omega), if_pos h3]
      · have e := chk_L0 N hN n K hK hl K.length 0 N (by omega) (by omega)
        rw [List.drop_zero] at e
        rw [brn_f (by simp; omega), if_neg h3, show m22_L0 N n K.length (knsI K) N 0 = _ from e]
        exact outE_end
theorem minI_min (a b : Int) : minI a b = min a b := by unfold minI; split <;> omega
theorem maxI_max (a b : Int) : maxI a b = max a b := by unfold maxI; split <;> omega
theorem chkL_fit {n : Nat} : ∀ (l d : List (Nat × Nat)), (∀ p ∈ l, p.1 < p.2 ∧ p.2 < n) → (d ++ l).Nodup → chkL (n : Int) (cL d) (cL l) = 0
  | [], _, _, _ => rfl
  | p :: l, d, h, hn => by
    have hp := h p (.head _)
    have e := chkL_fit l (d ++ [p]) (fun q hq => h q (.tail _ hq)) (by simpa using hn)
    have hc : (cL d).contains (cI p) = false := by
      rw [Bool.eq_false_iff]
      intro hc
      have hm : cI p ∈ cL d := by simpa using hc
      obtain ⟨q, hq, e⟩ := List.mem_map.1 hm
      have : q = p := by
        have e1 := congrArg Prod.fst e
        have e2 := congrArg Prod.snd e
        simp only [cI] at e1 e2
        exact Prod.ext (by omega) (by omega)
      subst this
      have := List.nodup_append.1 hn
      exact this.2.2 _ hq _ (.head _) rfl
    show chkL (n : Int) (cL d) (cI p :: cL l) = 0
    have m1 : ¬ minI (cI p).1 (cI p).2 < 0 := by rw [minI_min]; simp only [cI]; omega
    have m2 : ¬ maxI (cI p).1 (cI p).2 ≥ (n : Int) := by rw [maxI_max]; simp only [cI]; omega
    have m3 : ¬ (cI p).1 ≥ (cI p).2 := by simp only [cI]; omega
    rw [chkL, if_neg m1, if_neg m2, if_neg m3, hc, if_neg (by simp)]
    have e2 : cL d ++ [cI p] = cL (d ++ [p]) := by simp [cL]
    rw [e2]; exact e
theorem chkK_fit {n : Nat} : ∀ (K : List (List (Nat × Nat))), (∀ l ∈ K, l.length ≤ 6) → (∀ l ∈ K, ∀ p ∈ l, p.1 < p.2 ∧ p.2 < n) → (∀ l ∈ K, l.Nodup) → chkK (n : Int) (cK K) = 0
  | [], _, _, _ => rfl
  | l :: K, h1, h2, h3 => by
    have e := chkL_fit (n := n) l [] (h2 l (.head _)) (by simpa using h3 l (.head _))
    have := h1 l (.head _)
    show chkK (n : Int) (cL l :: cK K) = 0
    rw [chkK, if_neg (by rw [cL_len]; omega), if_neg (by simpa [cL] using e)]
    exact chkK_fit K (fun x hx => h1 x (.tail _ hx)) (fun x hx => h2 x (.tail _ hx)) (fun x hx => h3 x (.tail _ hx))
theorem chk_fit {n : Nat} {K : List (List (Nat × Nat))} (h : Fit n K) : chk (n : Int) (cK K) = 0 := by
  have := h.n1
  have := h.n5
  have := h.many
  unfold chk
  rw [if_neg (by omega), if_neg (by omega), if_neg (by rw [cK_len]; omega)]
  exact chkK_fit K h.len h.lt h.one
theorem bnd_t {α β : Type} {x : α} {f : α → Option β} : bnd' (some x) f = f x := rfl
theorem getI_t {α : Type} {k : IntKind} {x : Int} {f : Int → Option α} : getI k (.int k x) f = f x := by simp [getI]
theorem getB_t {α : Type} {x : Bool} {f : Bool → Option α} : getB (.bool x) f = f x := rfl
theorem getL_t {α : Type} {n : Nat} {c : List PV} {f : Nat → List PV → Option α} : getL (.lst false n c) f = f n c := rfl
theorem getA2_t {α : Type} {a b : PV} {f : PV → PV → Option α} : getA2 (.agg [a, b]) f = f a b := rfl
theorem getT2_t {α : Type} {a b : PV} {f : PV → PV → Option α} : getT2 (.tup [a, b]) f = f a b := rfl
theorem mems_ok : ∀ (s : Nat), s < 32 → m77 2000 (s : Int) = some (.lst false (memb s).length (nL (memb s)))
  | 0, _ => by kernel_rfl
  | 1, _ => by kernel_rfl
  | 2, _ => by kernel_rfl
  | 3, _ => by kernel_rfl
  | 4, _ => by kernel_rfl
  | 5, _ => by kernel_rfl
  | 6, _ => by kernel_rfl
  | 7, _ => by kernel_rfl
  | 8, _ => by kernel_rfl
  | 9, _ => by kernel_rfl
  | 10, _ => by kernel_rfl
  | 11, _ => by kernel_rfl
  | 12, _ => by kernel_rfl
  | 13, _ => by kernel_rfl
  | 14, _ => by kernel_rfl
  | 15, _ => by kernel_rfl
  | 16, _ => by kernel_rfl
  | 17, _ => by kernel_rfl
  | 18, _ => by kernel_rfl
  | 19, _ => by kernel_rfl
  | 20, _ => by kernel_rfl
  | 21, _ => by kernel_rfl
  | 22, _ => by kernel_rfl
  | 23, _ => by kernel_rfl
  | 24, _ => by kernel_rfl
  | 25, _ => by kernel_rfl
  | 26, _ => by kernel_rfl
  | 27, _ => by kernel_rfl
  | 28, _ => by kernel_rfl
  | 29, _ => by kernel_rfl
  | 30, _ => by kernel_rfl
  | 31, _ => by kernel_rfl
  | n + 32, h => by omega
def cmpI (x y : Int) : Int := if x < y then -1 else if x > y then 1 else 0
theorem cmp_ok (N : Nat) (x y : Int) : m91 N x y = some (.int .i64 (cmpI x y)) := by
  have h1 : (x != x) = false := by simp
  have h2 : (y != y) = false := by simp
  unfold cmpI
  rw [m91, m104, bnd_t, getB_t, m104, bnd_t, getB_t, h1, h2, brn_f rfl, brn_f rfl]
  by_cases a : x < y
  · rw [brn_t (decide_eq_true a), if_pos a]
  · rw [brn_f (decide_eq_false a), if_neg a]
    by_cases b : x > y
    · rw [brn_t (decide_eq_true b), if_pos b]
    · rw [brn_f (decide_eq_false b), if_neg b]
def cmpL : List Nat → List Nat → Int
  | [], [] => 0
  | [], _ :: _ => -1
  | _ :: _, [] => 1
  | a :: x, b :: y => if a < b then -1 else if b < a then 1 else cmpL x y
theorem cmpL_lex : ∀ x y, (cmpL x y < 0) ↔ lexL x y = true
  | [], [] => by simp [cmpL, lexL]
  | [], _ :: _ => by simp [cmpL, lexL]
  | _ :: _, [] => by simp [cmpL, lexL]
  | a :: x, b :: y => by
    have ih := cmpL_lex x y
    unfold cmpL lexL
    by_cases h1 : a < b
    · simp [h1]
    · rw [if_neg h1, if_neg h1]
      by_cases h2 : b < a
      · simp [h2]
      · rw [if_neg h2, if_neg h2]; exact ih
def cmO (n m : Nat) (e : Int) : PV ⊕ Unit → Option PV
  | .inl p => some p
  | .inr () => brn (decide ((n : Int) < (m : Int))) (some (.int .i64 (-1))) (some (.int .i64 0))
theorem compare_L (N : Nat) (x y : List Nat) (hx : x.length ≤ 1000) : ∀ (r i fuel : Nat), x.length - i = r → r < fuel → i ≤ x.length → i ≤ y.length →
    ∃ o, m47_L0 N x.length (nL x) y.length (nL y) fuel (i : Int) = some o ∧ cmO x.length y.length 0 o = some (.int .i64 (cmpL (x.drop i) (y.drop i)))
  | r, i, 0, _, h, _, _ => by omega
  | r, i, f + 1, hr, hf, hi, hy => by
    have lx := nL_len x
    have ly := nL_len y
    rw [m47_L0]
    by_cases h : i < x.length
    · rw [brn_t (by simp; omega), toNatN, grd_t ⟨by omega, by omega⟩, grd_t (by simp only [List.length_drop]; omega), nL_gp h, getI_t, drop_nn h]
      by_cases h2 : i < y.length
      · rw [brn_f (by simp; omega), grd_t (by omega), grd_t (by simp only [List.length_drop]; omega), nL_gp h2, getI_t, cmp_ok, bnd_t, getI_t, drop_nn h2, cmpL]
        unfold cmpI
        by_cases a : nn x i < nn y i
        · have a' : ((nn x i : Nat) : Int) < (nn y i : Int) := by omega
          rw [if_pos a', if_pos a, brn_t (by decide)]
          exact ⟨_, rfl, rfl⟩
        · have a' : ¬ ((nn x i : Nat) : Int) < (nn y i : Int) := by omega
          rw [if_neg a', if_neg a]
          by_cases b : nn y i < nn x i
          · have b' : ((nn x i : Nat) : Int) > (nn y i : Int) := by omega
            rw [if_pos b', if_pos b, brn_t (by decide)]
            exact ⟨_, rfl, rfl⟩
          · have b' : ¬ ((nn x i : Nat) : Int) > (nn y i : Int) := by omega
            rw [if_neg b', if_neg b, brn_f (by rfl), wrapN (by omega)]
            exact compare_L N x y hx (r - 1) (i + 1) f (by omega) (by omega) (by omega) (by omega)
      · rw [brn_t (by simp; omega), show y.drop i = [] from List.drop_eq_nil_of_le (by omega)]
        exact ⟨_, rfl, rfl⟩
    · rw [brn_f (by simp; omega), show x.drop i = [] from List.drop_eq_nil_of_le (by omega)]
      refine ⟨_, rfl, ?_⟩
      by_cases h2 : i < y.length
      · rw [drop_nn h2, cmO, brn_t (by simp; omega)]; rfl
      · rw [show y.drop i = [] from List.drop_eq_nil_of_le (by omega), cmO, brn_f (by simp; omega)]; rfl
theorem compare_ok (N : Nat) (hN : 2000 ≤ N) (x y : List Nat) (hx : x.length ≤ 1000) : m47 N (.lst false x.length (nL x)) (.lst false y.length (nL y)) = some (.int .i64 (cmpL x y)) := by
  obtain ⟨o, o1, o2⟩ := compare_L N x y hx x.length 0 N (by omega) (by omega) (by omega) (by omega)
  rw [List.drop_zero, List.drop_zero] at o2
  rw [m47, getL_t, getL_t, show m47_L0 N x.length (nL x) y.length (nL y) N 0 = some o from o1, bnd_t, ← o2]
  cases o with
  | inl p => rfl
  | inr u => rfl
def fnd : Option (List Nat) → PV
  | none => .fn 999999 []
  | some l => .fn 1000025 [.lst false l.length (nL l)]
theorem getIf_n {α : Type} {f : Nat} {k1 : Option α} {k2 : PV → Option α} : getIf f (fnd none) k1 k2 = k1 := by simp [getIf, fnd]
theorem getIf_s {α : Type} {l : List Nat} {k1 : Option α} {k2 : PV → Option α} : getIf 1000025 (fnd (some l)) k1 k2 = k2 (.lst false l.length (nL l)) := by simp [getIf, fnd]
theorem memb_len (s : Nat) : (memb s).length ≤ 5 := by
  have := List.length_filter_le (fun k => s.testBit k) (List.range 5)
  simpa [memb] using this
theorem wrapU (s : Nat) (h : s ≤ 32) : IntKind.u64.wrap ((s : Int) + 1) = ((s + 1 : Nat) : Int) := by
  have : ((List.range 33).all fun s => IntKind.u64.wrap ((s : Int) + 1) == ((s + 1 : Nat) : Int)) = true := by kernel_rfl
  simpa using List.all_eq_true.1 this s (List.mem_range.2 (by omega))
theorem pow_U (n : Nat) (h : n ≤ 5) : IntKind.u64.wrap (1 * 2 ^ (min (Int.toNat (n : Int)) 64)) = ((2 ^ n : Nat) : Int) := by
  have : n = 0 ∨ n = 1 ∨ n = 2 ∨ n = 3 ∨ n = 4 ∨ n = 5 := by omega
  rcases this with rfl | rfl | rfl | rfl | rfl | rfl <;> rfl
theorem bs_f {is : List Nat → Bool} {lt : List Nat → List Nat → Bool} {acc : Option (List Nat)} {l : List Nat} (h : is l = false) : bstep is lt acc l = acc := by simp [bstep, h]
theorem bs_n {is : List Nat → Bool} {lt : List Nat → List Nat → Bool} {l : List Nat} (h : is l = true) : bstep is lt none l = some l := by simp [bstep, h]
theorem bs_t {is : List Nat → Bool} {lt : List Nat → List Nat → Bool} {o l : List Nat} (h : is l = true) (h2 : lt l o = true) : bstep is lt (some o) l = some l := by simp [bstep, h, h2]
theorem bs_k {is : List Nat → Bool} {lt : List Nat → List Nat → Bool} {o l : List Nat} (h : is l = true) (h2 : lt l o = false) : bstep is lt (some o) l = some o := by simp [bstep, h, h2]
section
end
def rwN (l : List Nat) : PV := .lst false l.length (nL l)
def sel (D : List (Nat × Nat)) (l : List Nat) : List (Nat × Nat) := l.map (pN D)
section
end
theorem memb_lt_all : ((List.range 6).all fun m => (List.range (2 ^ m)).all fun s => (memb s).all fun k => decide (k < m)) = true := by decide +kernel
theorem memb_lt {s m : Nat} (hm : m ≤ 5) (hs : s < 2 ^ m) : ∀ k ∈ memb s, k < m := fun k hk => by
  have := List.all_eq_true.1 (List.all_eq_true.1 (List.all_eq_true.1 memb_lt_all m (List.mem_range.2 (by omega))) s (List.mem_range.2 hs)) k hk
  simpa using this
section
variable (n : Nat) (hn : n ≤ 5) (p : PV) (is : List Nat → Bool) (his : ∀ s, s < 2 ^ n → m86 2000 p (.lst false (memb s).length (nL (memb s))) = some (.bool (is (memb s))))
include hn his
theorem bestw_L : ∀ (r s fuel : Nat) (acc : Option (List Nat)), 2 ^ n - s = r → r < fuel → (∀ l, acc = some l → l.length ≤ 5) →
    m68_2_L0 2000 (n : Int) false p fuel (fnd acc) (s : Int) = some (fnd (((List.range' s (2 ^ n - s)).map memb).foldl (bstep is ltS) acc))
  | r, s, 0, acc, _, h, _ => by omega
  | r, s, f + 1, acc, hr, hf, ha => by
    have hp : 2 ^ n ≤ 32 := Nat.pow_le_pow_right (n := 2) (by omega) hn
    have hm := memb_len s
    rw [m68_2_L0, pow_U n hn]
    by_cases h : s < 2 ^ n
    · have ih := fun acc => bestw_L (r - 1) (s + 1) f acc (by omega) (by omega)
      rw [brn_t (decide_eq_true (by omega)), mems_ok s (by omega), bnd_t, getL_t, his s h, bnd_t, getB_t, show 2 ^ n - s = (2 ^ n - (s + 1)) + 1 by omega, List.range'_succ, List.map_cons, List.foldl_cons, wrapU s (by omega)]
      have take : m68_2_L0 2000 (n : Int) false p f (.fn 1000025 [.lst false (memb s).length (nL (memb s))]) ((s + 1 : Nat) : Int) = some (fnd (((List.range' (s + 1) (2 ^ n - (s + 1))).map memb).foldl (bstep is ltS) (some (memb s)))) := ih (some (memb s)) (fun l hl => by cases hl; exact hm)
      cases hi : is (memb s) with
      | false => rw [brn_f rfl, bs_f hi]; exact ih acc ha
      | true =>
        rw [brn_t rfl]
        cases acc with
        | none => rw [getIf_n, bs_n hi]; exact take
        | some o =>
          have ho := ha o rfl
          have keep : m68_2_L0 2000 (n : Int) false p f (.fn 1000025 [.lst false o.length (nL o)]) ((s + 1 : Nat) : Int) = some (fnd (((List.range' (s + 1) (2 ^ n - (s + 1))).map memb).foldl (bstep is ltS) (some o))) := ih (some o) ha
          rw [getIf_s, getL_t]
          by_cases e : (memb s).length = o.length
          · have hlt : ltS (memb s) o = lexL (memb s) o := by unfold ltS; rw [if_pos e]
            rw [brn_t (by simp; omega), compare_ok 2000 (by omega) _ _ (by omega), bnd_t, getI_t]
            cases hx : lexL (memb s) o with
            | true =>
              have := (cmpL_lex (memb s) o).2 hx
              rw [brn_t (decide_eq_true this), bs_t hi (hlt.trans hx)]; exact take
            | false =>
              have : ¬ cmpL (memb s) o < 0 := fun q => by rw [(cmpL_lex _ _).1 q] at hx; cases hx
              rw [brn_f (decide_eq_false this), brn_f (by simp; omega), bs_k hi (hlt.trans hx)]; exact keep
          · have hlt : ltS (memb s) o = decide ((memb s).length < o.length) := by unfold ltS; rw [if_neg e]
            rw [brn_f (by simp; omega), brn_t (by simp; omega)]
            by_cases g : (memb s).length < o.length
            · rw [brn_t (by simp; omega), bs_t hi (by rw [hlt]; exact decide_eq_true g)]; exact take
            · rw [brn_f (by simp; omega), bs_k hi (by rw [hlt]; exact decide_eq_false g)]; exact keep
    · rw [brn_f (decide_eq_false (by omega)), show 2 ^ n - s = 0 by omega]; rfl
theorem bestw_ok : m68_2 2000 (n : Int) false p = some (match (upT n).find? is with | some l => .tup [.lst false l.length (nL l), .bool true] | none => .tup [.lst false 0 [], .bool false]) := by
  have hp : 2 ^ n ≤ 32 := Nat.pow_le_pow_right (n := 2) (by omega) hn
  have e := bestw_L n hn p is his (2 ^ n) 0 2000 none (Nat.sub_zero _) (Nat.lt_of_le_of_lt hp (by decide)) (fun l hl => by cases hl)
  have r := best_up is hn
  unfold allS at r
  rw [Nat.sub_zero, ← List.range_eq_range', r] at e
  rw [m68_2, grd_t (by omega), show m68_2_L0 2000 (n : Int) false p 2000 (.fn 999999 []) 0 = _ from e, bnd_t]
  cases (upT n).find? is with
  | none => rw [getIf_n]
  | some l => rw [getIf_s, getL_t]
end
def blk (K : List (List (Nat × Nat))) (l : List Nat) : Bool := decide (rk (pairsOf K l) < l.length)
theorem blocks_ok (n : Nat) (K : List (List (Nat × Nat))) (hK : Fit n K) (l : List Nat) (hl : ∀ k ∈ l, k < K.length) (h : l.length ≤ 80) : m86 2000 (crw n K) (.lst false l.length (nL l)) = some (.bool (blk K l)) := by
  have r := rank_ok n K hK l hl (by omega)
  unfold crw at *
  rw [m86, getA2_t, getL_t, r, bnd_t, getI_t]
  unfold blk
  congr 2
  rw [Bool.eq_iff_iff]; simp
def ksP (ks : List Nat) : PV := .lst false ks.length (nL ks)
def kiP (K : List (List (Nat × Nat))) : PV := .lst false K.length (knsI (cK K))
theorem nL_snoc (c : List Nat) (i : Nat) : nL c ++ [PV.int .i64 (i : Int)] = nL (c ++ [i]) := by simp [nL]
theorem cL_pk {L : List (Nat × Nat)} {i : Nat} (h : i < L.length) : pI (cL L) i = cI (pk L i) := cL_pI h
theorem pk_mem {L : List (Nat × Nat)} {i : Nat} (h : i < L.length) : pk L i ∈ L := pN_mem h
section
end
def sets (K : List (List (Nat × Nat))) (ks : List Nat) : List (List (Nat × Nat)) := ks.map (kN K)
theorem sets_drop {K : List (List (Nat × Nat))} {ks : List Nat} {n : Nat} (h : n < ks.length) : sets K (ks.drop n) = kN K (nn ks n) :: sets K (ks.drop (n + 1)) := by
  unfold sets; rw [drop_nn h, List.map_cons]
theorem kN_ok {n : Nat} {K : List (List (Nat × Nat))} (h : Fit n K) {k : Nat} : Ok (kN K k) := fun p hp => by
  have := kN_lt h p hp; have := h.n5; omega
theorem sets_six {n : Nat} {K : List (List (Nat × Nat))} (h : Fit n K) (ks : List Nat) : ∀ l ∈ sets K ks, l.length ≤ 6 := fun l hl => by
  obtain ⟨k, _, rfl⟩ := List.mem_map.1 hl
  exact kN_len h
theorem memb_full : ∀ d, d ≤ 5 → memb (2 ^ d - 1) = List.range d := by decide
theorem full_U (d : Nat) (h : d ≤ 5) : IntKind.u64.wrap ((IntKind.u64.wrap (1 * 2 ^ (min d 64))) - 1) = ((2 ^ d - 1 : Nat) : Int) := by
  have : d = 0 ∨ d = 1 ∨ d = 2 ∨ d = 3 ∨ d = 4 ∨ d = 5 := by omega
  rcases this with rfl | rfl | rfl | rfl | rfl | rfl <;> rfl
theorem full_ok (d : Nat) (h : d ≤ 5) : m77 2000 (IntKind.u64.wrap ((IntKind.u64.wrap (1 * 2 ^ (min d 64))) - 1)) = some (.lst false (List.range d).length (nL (List.range d))) := by
  have : 2 ^ d ≤ 32 := Nat.pow_le_pow_right (n := 2) (by omega) h
  rw [full_U d h, mems_ok _ (by omega), memb_full d h]
theorem sets_all (K : List (List (Nat × Nat))) : sets K (List.range K.length) = K := by
  apply List.ext_getElem (by simp [sets])
  intro i h1 h2
  simp [sets, kN, h2]
section
variable (ks : List Nat) (K : List (List (Nat × Nat))) (sf : PV) (c : List Nat) (hc : c.length ≤ 100) (j : List Nat) (hj : j.length = 5) (l : List (Nat × Nat)) (hl : l.length ≤ 6) (hO : Ok l) (S : List (List (Nat × Nat)))
include hc hj hl hO
theorem n5_L (rec : PV → PV → PV → Int → PV → PV → Option ((PV × PV × Int × PV)))
    (hrec : ∀ i, i < l.length → jnd j (pk l i) = false → ∀ a : Nat, a + (chs S (wth j (pk l i))).length ≤ 90000 → rec (.lst false (c.length + 1) (nL c ++ [.int .i64 (i : Int)])) (.agg (jP (wth j (pk l i)))) (ksP ks) (a : Int) sf (kiP K) = some (.bool true, ksP ks, ((a + (chs S (wth j (pk l i))).length : Nat) : Int), kiP K)) :
    ∀ (r i fuel a : Nat), l.length - i = r → r < fuel → a + (chsF l S j i).length ≤ 90000 →
    m99_4_L0 2000 rec sf c.length (nL c) (.int .i64 (ja j 0 : Int)) (.int .i64 (ja j 1 : Int)) (.int .i64 (ja j 2 : Int)) (.int .i64 (ja j 3 : Int)) (.int .i64 (ja j 4 : Int)) l.length (prsI (cL l)) fuel (i : Int) (ksP ks) (a : Int) (kiP K) = some (.inr (ksP ks, ((a + (chsF l S j i).length : Nat) : Int), kiP K))
  | r, i, 0, _, _, h, _ => by omega
  | r, i, f + 1, a, hr, hf, ha => by
    rw [m99_4_L0]
    by_cases h : i < l.length
    · have ih := n5_L rec hrec (r - 1) (i + 1) f
      have h' : i < (cL l).length := by rw [cL_len]; exact h
      have hp := hO _ (pk_mem h)
      have e1 := joined_ok 2000 j (pk l i) hp
      have e2 := with_ok 2000 (by omega) j hj (pk l i) hp
      unfold jP prI at e1
      conv at e2 => lhs; unfold jP prI
      rw [chsF_step h] at ha ⊢
      rw [brn_t (decide_eq_true (by omega)), toNatN, grd_t ⟨by omega, by omega⟩, grd_t (prsI_two' h'), prsI_two h', cL_pk h, getA2_t, e1, bnd_t, getB_t, wrapN (by omega)]
      cases hq : jnd j (pk l i) with
      | true =>
        rw [hq, if_pos rfl, List.nil_append] at ha
        rw [brn_t rfl, ih a (by omega) (by omega) ha]; rfl
      | false =>
        rw [hq, if_neg (by simp), List.length_append, List.length_map] at ha
        rw [if_neg (by simp), List.length_append, List.length_map]
        rw [brn_f rfl, grd_t (by omega), grd_t (nL_len c), grd_t (by omega), e2, bnd_t, getA5_jP]
        have hr := hrec i h hq a (by omega)
        conv at hr => lhs; unfold jP
        rw [hr, bnd_t]
        simp only []
        rw [getB_t, brn_t rfl, ih _ (by omega) (by omega) (by omega), Nat.add_assoc]
    · rw [brn_f (decide_eq_false (by omega)), chsF_end (by omega)]; rfl
end
theorem n5_ok (n : Nat) (K : List (List (Nat × Nat))) (hK : Fit n K) (ks : List Nat) (hk : ∀ k ∈ ks, k < K.length) (hkl : ks.length ≤ 100) (sf : PV) : ∀ (fu : Nat) (c j : List Nat) (a : Nat), ks.length - c.length < fu → c.length ≤ ks.length → j.length = 5 → a + (chs (sets K (ks.drop c.length)) j).length ≤ 90000 →
    m99_4 2000 fu (.lst false c.length (nL c)) (.agg (jP j)) (ksP ks) (a : Int) sf (kiP K) = some (.bool true, ksP ks, ((a + (chs (sets K (ks.drop c.length)) j).length : Nat) : Int), kiP K)
  | 0, _, _, _, h, _, _, _ => by omega
  | fu + 1, c, j, a, h, hc, hj, ha => by
    unfold ksP kiP
    rw [m99_4, getL_t, getA5_jP, getL_t]
    by_cases e : c.length = ks.length
    · rw [List.drop_eq_nil_of_le (by omega)] at ha
      have ha' : a + 1 ≤ 90000 := ha
      rw [brn_t (by simp; omega), m81_2, getL_t, wrapN (by omega), List.drop_eq_nil_of_le (by omega)]
      rfl
    · have hlt : c.length < ks.length := by omega
      have hx := hk _ (nn_mem hlt)
      have hkl' := knsI_len (cK K)
      have hck := cK_len K
      have hnl := nL_len ks
      rw [sets_drop hlt, chs_cons] at ha ⊢
      rw [brn_f (by simp; omega), getL_t, grd_t ⟨by omega, by omega⟩, grd_t (by simp only [List.length_drop]; omega), nL_gp hlt, getI_t, grd_t ⟨by omega, by omega⟩, toNatN, grd_t (by simp only [List.length_drop]; omega), knsI_gp (by rw [cK_len]; exact hx), cK_kI hx, cL_len, getL_t]
      have L := n5_L ks K sf c (by omega) j hj (kN K (nn ks c.length)) (kN_len hK) (kN_ok hK) (sets K (ks.drop (c.length + 1))) (m99_4 2000 fu) (fun i hi hji a ha => by
        have hcl : (c ++ [i]).length = c.length + 1 := by simp
        have := n5_ok n K hK ks hk hkl sf fu (c ++ [i]) (wth j (pk (kN K (nn ks c.length)) i)) a (by simp; omega) (by simp; omega) (wth_len hj) (by rw [hcl]; exact ha)
        rw [hcl, ← nL_snoc] at this
        exact this) _ 0 2000 a rfl (by have := kN_len hK (k := nn ks c.length); omega) ha
      unfold ksP kiP at L
      rw [show ((0 : Nat) : Int) = 0 from rfl] at L
      rw [L, bnd_t]
theorem n4_L (ks : List Nat) (K : List (List (Nat × Nat))) (sf : PV) (j : List Nat) (hj : j.length = 5) (l : List (Nat × Nat)) (hl : l.length ≤ 6) (hO : Ok l) (S : List (List (Nat × Nat)))
    (hrec : ∀ i, i < l.length → jnd j (pk l i) = false → ∀ a : Nat, a + (chs S (wth j (pk l i))).length ≤ 90000 → m99_4 2000 2000 (.lst false 1 [.int .i64 (i : Int)]) (.agg (jP (wth j (pk l i)))) (ksP ks) (a : Int) sf (kiP K) = some (.bool true, ksP ks, ((a + (chs S (wth j (pk l i))).length : Nat) : Int), kiP K)) :
    ∀ (r i fuel a : Nat), l.length - i = r → r < fuel → a + (chsF l S j i).length ≤ 90000 →
    m99_3_L0 2000 sf (.int .i64 (ja j 0 : Int)) (.int .i64 (ja j 1 : Int)) (.int .i64 (ja j 2 : Int)) (.int .i64 (ja j 3 : Int)) (.int .i64 (ja j 4 : Int)) l.length (prsI (cL l)) fuel (i : Int) (ksP ks) (a : Int) (kiP K) = some (.inr (ksP ks, ((a + (chsF l S j i).length : Nat) : Int), kiP K))
  | r, i, 0, _, _, h, _ => by omega
  | r, i, f + 1, a, hr, hf, ha => by
    rw [m99_3_L0]
    by_cases h : i < l.length
    · have ih := n4_L ks K sf j hj l hl hO S hrec (r - 1) (i + 1) f
      have h' : i < (cL l).length := by rw [cL_len]; exact h
      have hp := hO _ (pk_mem h)
      have e1 := joined_ok 2000 j (pk l i) hp
      have e2 := with_ok 2000 (by omega) j hj (pk l i) hp
      unfold jP prI at e1
      conv at e2 => lhs; unfold jP prI
      rw [chsF_step h] at ha ⊢
      rw [brn_t (decide_eq_true (by omega)), toNatN, grd_t ⟨by omega, by omega⟩, grd_t (prsI_two' h'), prsI_two h', cL_pk h, getA2_t, e1, bnd_t, getB_t, wrapN (by omega)]
      cases hq : jnd j (pk l i) with
      | true =>
        rw [hq, if_pos rfl, List.nil_append] at ha
        rw [brn_t rfl, ih a (by omega) (by omega) ha]; rfl
      | false =>
        rw [hq, if_neg (by simp), List.length_append, List.length_map] at ha
        rw [if_neg (by simp), List.length_append, List.length_map]
        rw [brn_f rfl, e2, bnd_t, getA5_jP]
        have hr := hrec i h hq a (by omega)
        conv at hr => lhs; unfold jP
        rw [hr, bnd_t]
        simp only []
        rw [getB_t, brn_t rfl, ih _ (by omega) (by omega) (by omega), Nat.add_assoc]
    · rw [brn_f (decide_eq_false (by omega)), chsF_end (by omega)]; rfl
theorem n4_ok (n : Nat) (K : List (List (Nat × Nat))) (hK : Fit n K) (ks : List Nat) (hk : ∀ k ∈ ks, k < K.length) (hkl : ks.length ≤ 100) (sf : PV) (ha : (chs (sets K ks) apt).length ≤ 90000) :
    m99_3 2000 (.agg (jP apt)) (ksP ks) 0 sf (kiP K) = some (.bool true, ksP ks, ((chs (sets K ks) apt).length : Int), kiP K) := by
  unfold ksP kiP
  rw [m99_3, getA5_jP, getL_t]
  by_cases e : ks.length = 0
  · have : ks = [] := List.length_eq_zero_iff.1 e
    subst this
    rw [brn_t (by simp)]
    rfl
  · have hlt : 0 < ks.length := by omega
    have hx := hk _ (nn_mem hlt)
    have hkl' := knsI_len (cK K)
    have hck := cK_len K
    have hnl := nL_len ks
    have sd : sets K ks = kN K (nn ks 0) :: sets K (ks.drop 1) := sets_drop (K := K) hlt
    rw [sd, chs_cons] at ha ⊢
    rw [brn_f (by simp; omega), getL_t, grd_t (by omega), grd_t (by omega), nL_gp hlt, getI_t, grd_t ⟨by omega, by omega⟩, toNatN, grd_t (by simp only [List.length_drop]; omega), knsI_gp (by rw [cK_len]; exact hx), cK_kI hx, cL_len, getL_t]
    have L := n4_L ks K sf apt rfl (kN K (nn ks 0)) (kN_len hK) (kN_ok hK) (sets K (ks.drop 1)) (fun i hi hji a ha =>
        n5_ok n K hK ks hk hkl sf 2000 [i] (wth apt (pk (kN K (nn ks 0)) i)) a (by simp; omega) (by simp; omega) (wth_len rfl) ha) _ 0 2000 0 rfl (by have := kN_len hK (k := nn ks 0); omega) (by omega)
    unfold ksP kiP at L
    rw [show ((0 : Nat) : Int) = 0 from rfl] at L
    rw [L, bnd_t, Nat.zero_add]
theorem chs_small {n : Nat} {K : List (List (Nat × Nat))} (hK : Fit n K) {ks : List Nat} (h : ks.length ≤ 5) (j : List Nat) : (chs (sets K ks) j).length ≤ 7776 := by
  have := chs_len (sets K ks) j (sets_six hK ks)
  have e : (sets K ks).length = ks.length := by simp [sets]
  rw [e] at this
  exact Nat.le_trans this (Nat.pow_le_pow_right (n := 6) (by omega) h)
theorem n76_ok (n : Nat) (K : List (List (Nat × Nat))) (hK : Fit n K) (ks : List Nat) (hk : ∀ k ∈ ks, k < K.length) (hkl : ks.length ≤ 5) :
    m76_2 2000 (crw n K) (.lst false ks.length (nL ks)) 0 = some (.tup [], ((chs (sets K ks) apt).length : Int)) := by
  have e := n4_ok n K hK ks hk (by omega) (.int .i64 (n : Int)) (Nat.le_trans (chs_small hK hkl apt) (by omega))
  unfold ksP kiP at e
  unfold crw
  rw [m76_2, getA2_t, getL_t, apart_ok, bnd_t, getA5_jP]
  conv at e => lhs; unfold jP
  rw [e, bnd_t]
  rfl
theorem Count_ok (n : Nat) (K : List (List (Nat × Nat))) (hK : Fit n K) : m28 2000 (crw n K) = some (.tup [.int .i64 ((chs K apt).length : Int), .int .i64 0]) := by
  have h5 := hK.many
  have c1 := check_ok 2000 (by omega) n (cK K) (by rw [cK_len]; omega) (fun l hl => by
    obtain ⟨l', h1, rfl⟩ := List.mem_map.1 hl
    have := hK.len _ h1
    rw [cL_len]; omega)
  rw [chk_fit hK, cK_len] at c1
  have e := n76_ok n K hK (List.range K.length) (by simp) (by simp; omega)
  rw [sets_all] at e
  unfold crw at *
  rw [m28, getA2_t, c1, bnd_t, getI_t, brn_f (b := ((0 : Int) != 0)) rfl, getL_t, grd_t (by omega), full_ok _ h5, bnd_t, getL_t, e, bnd_t]
  rfl
section
end
def resT (ks : List Nat) (K : List (List (Nat × Nat))) (b : Bool) : Option (List Nat) → PV × PV × Bool × PV
  | none => (.bool true, ksP ks, b, kiP K)
  | some _ => (.bool false, ksP ks, true, kiP K)
def lopT (ks : List Nat) (K : List (List (Nat × Nat))) (b : Bool) : Option (List Nat) → (PV × PV × Bool × PV) ⊕ (PV × Bool × PV)
  | none => .inr (ksP ks, b, kiP K)
  | some _ => .inl (.bool false, ksP ks, true, kiP K)
section
variable (ks : List Nat) (K : List (List (Nat × Nat))) (sf : PV) (c : List Nat) (hc : c.length ≤ 100) (j : List Nat) (hj : j.length = 5) (l : List (Nat × Nat)) (hl : l.length ≤ 6) (hO : Ok l) (S : List (List (Nat × Nat)))
include hc hj hl hO
theorem t6_L (rec : PV → PV → PV → Bool → PV → PV → Option ((PV × PV × Bool × PV)))
    (hrec : ∀ i, i < l.length → jnd j (pk l i) = false → ∀ b, rec (.lst false (c.length + 1) (nL c ++ [.int .i64 (i : Int)])) (.agg (jP (wth j (pk l i)))) (ksP ks) b sf (kiP K) = some (resT ks K b (chs S (wth j (pk l i))).head?)) :
    ∀ (r i fuel : Nat) (b : Bool), l.length - i = r → r < fuel →
    m99_6_L0 2000 rec sf c.length (nL c) (.int .i64 (ja j 0 : Int)) (.int .i64 (ja j 1 : Int)) (.int .i64 (ja j 2 : Int)) (.int .i64 (ja j 3 : Int)) (.int .i64 (ja j 4 : Int)) l.length (prsI (cL l)) fuel (i : Int) (ksP ks) b (kiP K) = some (lopT ks K b (chsF l S j i).head?)
  | r, i, 0, _, _, h => by omega
  | r, i, f + 1, b, hr, hf => by
    rw [m99_6_L0]
    by_cases h : i < l.length
    · have ih := t6_L rec hrec (r - 1) (i + 1) f
      have h' : i < (cL l).length := by rw [cL_len]; exact h
      have hp := hO _ (pk_mem h)
      have e1 := joined_ok 2000 j (pk l i) hp
      have e2 := with_ok 2000 (by omega) j hj (pk l i) hp
      unfold jP prI at e1
      conv at e2 => lhs; unfold jP prI
      rw [brn_t (decide_eq_true (by omega)), toNatN, grd_t ⟨by omega, by omega⟩, grd_t (prsI_two' h'), prsI_two h', cL_pk h, getA2_t, e1, bnd_t, getB_t, chsF_step h, wrapN (by omega)]
      cases hq : jnd j (pk l i) with
      | true => rw [brn_t rfl, ih b (by omega) (by omega)]; rfl
      | false =>
        rw [brn_f rfl, grd_t (by omega), grd_t (nL_len c), grd_t (by omega), e2, bnd_t, getA5_jP]
        have hr := hrec i h hq b
        conv at hr => lhs; unfold jP
        rw [hr, bnd_t]
        cases hh : chs S (wth j (pk l i)) with
        | nil =>
          simp only [List.head?_nil, resT]
          rw [getB_t, brn_t rfl, ih b (by omega) (by omega)]; rfl
        | cons a t =>
          simp only [List.head?_cons, resT]
          rw [getB_t, brn_f rfl]
          simp [lopT]
    · rw [brn_f (decide_eq_false (by omega)), chsF_end (by omega)]; rfl
end
theorem t6_ok (n : Nat) (K : List (List (Nat × Nat))) (hK : Fit n K) (ks : List Nat) (hk : ∀ k ∈ ks, k < K.length) (hkl : ks.length ≤ 100) (sf : PV) : ∀ (fu : Nat) (c j : List Nat) (b : Bool), ks.length - c.length < fu → c.length ≤ ks.length → j.length = 5 →
    m99_6 2000 fu (.lst false c.length (nL c)) (.agg (jP j)) (ksP ks) b sf (kiP K) = some (resT ks K b (chs (sets K (ks.drop c.length)) j).head?)
  | 0, _, _, _, h, _, _ => by omega
  | fu + 1, c, j, b, h, hc, hj => by
    unfold ksP kiP
    rw [m99_6, getL_t, getA5_jP, getL_t]
    by_cases e : c.length = ks.length
    · rw [brn_t (by simp; omega), List.drop_eq_nil_of_le (by omega)]
      simp [m100_2, getL, bnd', getB, sets, chs, resT, ksP, kiP]
    · have hlt : c.length < ks.length := by omega
      have hx := hk _ (nn_mem hlt)
      have hkl' := knsI_len (cK K)
      have hck := cK_len K
      have hnl := nL_len ks
      rw [brn_f (by simp; omega), getL_t, grd_t ⟨by omega, by omega⟩, grd_t (by simp only [List.length_drop]; omega), nL_gp hlt, getI_t, grd_t ⟨by omega, by omega⟩, toNatN, grd_t (by simp only [List.length_drop]; omega), knsI_gp (by rw [cK_len]; exact hx), cK_kI hx, cL_len, getL_t]
      have L := t6_L ks K sf c (by omega) j hj (kN K (nn ks c.length)) (kN_len hK) (kN_ok hK) (sets K (ks.drop (c.length + 1))) (m99_6 2000 fu) (fun i hi hji b => by
        have := t6_ok n K hK ks hk hkl sf fu (c ++ [i]) (wth j (pk (kN K (nn ks c.length)) i)) b (by simp; omega) (by simp; omega) (wth_len hj)
        rw [List.length_append, List.length_singleton, ← nL_snoc] at this
        exact this) _ 0 2000 b rfl (by have := kN_len hK (k := nn ks c.length); omega)
      unfold ksP kiP at L
      rw [show ((0 : Nat) : Int) = 0 from rfl] at L
      rw [L, bnd_t, sets_drop hlt, chs_cons]
      cases (chsF (kN K (nn ks c.length)) (sets K (ks.drop (c.length + 1))) j 0).head? <;> rfl
theorem t5_L (ks : List Nat) (K : List (List (Nat × Nat))) (sf : PV) (j : List Nat) (hj : j.length = 5) (l : List (Nat × Nat)) (hl : l.length ≤ 6) (hO : Ok l) (S : List (List (Nat × Nat)))
    (hrec : ∀ i, i < l.length → jnd j (pk l i) = false → ∀ b, m99_6 2000 2000 (.lst false 1 [.int .i64 (i : Int)]) (.agg (jP (wth j (pk l i)))) (ksP ks) b sf (kiP K) = some (resT ks K b (chs S (wth j (pk l i))).head?)) :
    ∀ (r i fuel : Nat) (b : Bool), l.length - i = r → r < fuel →
    m99_5_L0 2000 sf (.int .i64 (ja j 0 : Int)) (.int .i64 (ja j 1 : Int)) (.int .i64 (ja j 2 : Int)) (.int .i64 (ja j 3 : Int)) (.int .i64 (ja j 4 : Int)) l.length (prsI (cL l)) fuel (i : Int) (ksP ks) b (kiP K) = some (lopT ks K b (chsF l S j i).head?)
  | r, i, 0, _, _, h => by omega
  | r, i, f + 1, b, hr, hf => by
    rw [m99_5_L0]
    by_cases h : i < l.length
    · have ih := t5_L ks K sf j hj l hl hO S hrec (r - 1) (i + 1) f
      have h' : i < (cL l).length := by rw [cL_len]; exact h
      have hp := hO _ (pk_mem h)
      have e1 := joined_ok 2000 j (pk l i) hp
      have e2 := with_ok 2000 (by omega) j hj (pk l i) hp
      unfold jP prI at e1
      conv at e2 => lhs; unfold jP prI
      rw [brn_t (decide_eq_true (by omega)), toNatN, grd_t ⟨by omega, by omega⟩, grd_t (prsI_two' h'), prsI_two h', cL_pk h, getA2_t, e1, bnd_t, getB_t, chsF_step h, wrapN (by omega)]
      cases hq : jnd j (pk l i) with
      | true => rw [brn_t rfl, ih b (by omega) (by omega)]; rfl
      | false =>
        rw [brn_f rfl, e2, bnd_t, getA5_jP]
        have hr := hrec i h hq b
        conv at hr => lhs; unfold jP
        rw [hr, bnd_t]
        cases hh : chs S (wth j (pk l i)) with
        | nil =>
          simp only [List.head?_nil, resT]
          rw [getB_t, brn_t rfl, ih b (by omega) (by omega)]; rfl
        | cons a t =>
          simp only [List.head?_cons, resT]
          rw [getB_t, brn_f rfl]
          simp [lopT]
    · rw [brn_f (decide_eq_false (by omega)), chsF_end (by omega)]; rfl
theorem t5_ok (n : Nat) (K : List (List (Nat × Nat))) (hK : Fit n K) (ks : List Nat) (hk : ∀ k ∈ ks, k < K.length) (hkl : ks.length ≤ 100) (sf : PV) (b : Bool) :
    m99_5 2000 (.agg (jP apt)) (ksP ks) b sf (kiP K) = some (resT ks K b (chs (sets K ks) apt).head?) := by
  unfold ksP kiP
  rw [m99_5, getA5_jP, getL_t]
  by_cases e : ks.length = 0
  · have : ks = [] := List.length_eq_zero_iff.1 e
    subst this
    rw [brn_t (by simp)]
    rfl
  · have hlt : 0 < ks.length := by omega
    have hx := hk _ (nn_mem hlt)
    have hkl' := knsI_len (cK K)
    have hck := cK_len K
    have hnl := nL_len ks
    rw [brn_f (by simp; omega), getL_t, grd_t (by omega), grd_t (by omega), nL_gp hlt, getI_t, grd_t ⟨by omega, by omega⟩, toNatN, grd_t (by simp only [List.length_drop]; omega), knsI_gp (by rw [cK_len]; exact hx), cK_kI hx, cL_len, getL_t]
    have L := t5_L ks K sf apt rfl (kN K (nn ks 0)) (kN_len hK) (kN_ok hK) (sets K (ks.drop 1)) (fun i hi hji b =>
        t6_ok n K hK ks hk hkl sf 2000 [i] (wth apt (pk (kN K (nn ks 0)) i)) b (by simp; omega) (by simp; omega) (wth_len rfl)) _ 0 2000 b rfl (by have := kN_len hK (k := nn ks 0); omega)
    unfold ksP kiP at L
    rw [show ((0 : Nat) : Int) = 0 from rfl] at L
    have sd := sets_drop (K := K) hlt
    rw [List.drop_zero] at sd
    rw [L, bnd_t, sd, chs_cons]
    cases (chsF (kN K (nn ks 0)) (sets K (ks.drop 1)) apt 0).head? <;> rfl
def tog (K : List (List (Nat × Nat))) (ks : List Nat) : Bool := !(chs (sets K ks) apt).isEmpty
theorem tog_ok (n : Nat) (K : List (List (Nat × Nat))) (hK : Fit n K) (ks : List Nat) (hk : ∀ k ∈ ks, k < K.length) (hkl : ks.length ≤ 100) :
    m82 2000 (crw n K) (.lst false ks.length (nL ks)) = some (.bool (tog K ks)) := by
  have e := t5_ok n K hK ks hk hkl (.int .i64 (n : Int)) false
  unfold ksP kiP at e
  unfold crw
  rw [m82, getA2_t, getL_t, m76_3, getA2_t, getL_t, apart_ok, bnd_t, getA5_jP]
  conv at e => lhs; unfold jP
  rw [e, bnd_t]
  unfold tog
  cases chs (sets K ks) apt <;> rfl
section
variable (n : Nat) (hn : n ≤ 5) (p : PV) (is : List Nat → Bool) (his : ∀ s, s < 2 ^ n → m82 2000 p (.lst false (memb s).length (nL (memb s))) = some (.bool (is (memb s))))
include hn his
theorem bestm_L : ∀ (r s fuel : Nat) (acc : Option (List Nat)), 2 ^ n - s = r → r < fuel → (∀ l, acc = some l → l.length ≤ 5) →
    m68_3_L0 2000 (n : Int) true p fuel (fnd acc) (s : Int) = some (fnd (((List.range' s (2 ^ n - s)).map memb).foldl (bstep is ltG) acc))
  | r, s, 0, acc, _, h, _ => by omega
  | r, s, f + 1, acc, hr, hf, ha => by
    have hp : 2 ^ n ≤ 32 := Nat.pow_le_pow_right (n := 2) (by omega) hn
    have hm := memb_len s
    rw [m68_3_L0, pow_U n hn]
    by_cases h : s < 2 ^ n
    · have ih := fun acc => bestm_L (r - 1) (s + 1) f acc (by omega) (by omega)
      rw [brn_t (decide_eq_true (by omega)), mems_ok s (by omega), bnd_t, getL_t, his s h, bnd_t, getB_t, show 2 ^ n - s = (2 ^ n - (s + 1)) + 1 by omega, List.range'_succ, List.map_cons, List.foldl_cons, wrapU s (by omega)]
      have take : m68_3_L0 2000 (n : Int) true p f (.fn 1000025 [.lst false (memb s).length (nL (memb s))]) ((s + 1 : Nat) : Int) = some (fnd (((List.range' (s + 1) (2 ^ n - (s + 1))).map memb).foldl (bstep is ltG) (some (memb s)))) := ih (some (memb s)) (fun l hl => by cases hl; exact hm)
      cases hi : is (memb s) with
      | false => rw [brn_f rfl, bs_f hi]; exact ih acc ha
      | true =>
        rw [brn_t rfl]
        cases acc with
        | none => rw [getIf_n, bs_n hi]; exact take
        | some o =>
          have ho := ha o rfl
          have keep : m68_3_L0 2000 (n : Int) true p f (.fn 1000025 [.lst false o.length (nL o)]) ((s + 1 : Nat) : Int) = some (fnd (((List.range' (s + 1) (2 ^ n - (s + 1))).map memb).foldl (bstep is ltG) (some o))) := ih (some o) ha
          rw [getIf_s, getL_t]
          by_cases e : (memb s).length = o.length
          · have hlt : ltG (memb s) o = lexL (memb s) o := by unfold ltG; rw [if_pos e]
            rw [brn_t (by simp; omega), compare_ok 2000 (by omega) _ _ (by omega), bnd_t, getI_t]
            cases hx : lexL (memb s) o with
            | true =>
              have := (cmpL_lex (memb s) o).2 hx
              rw [brn_t (decide_eq_true this), bs_t hi (hlt.trans hx)]; exact take
            | false =>
              have : ¬ cmpL (memb s) o < 0 := fun q => by rw [(cmpL_lex _ _).1 q] at hx; cases hx
              rw [brn_f (decide_eq_false this), brn_f (by simp; omega), bs_k hi (hlt.trans hx)]; exact keep
          · have hlt : ltG (memb s) o = decide ((memb s).length > o.length) := by unfold ltG; rw [if_neg e]
            rw [brn_f (by simp; omega), brn_t (by simp; omega)]
            by_cases g : (memb s).length > o.length
            · rw [brn_t (by simp; omega), bs_t hi (by rw [hlt]; exact decide_eq_true g)]; exact take
            · rw [brn_f (by simp; omega), bs_k hi (by rw [hlt]; exact decide_eq_false g)]; exact keep
    · rw [brn_f (decide_eq_false (by omega)), show 2 ^ n - s = 0 by omega]; rfl
theorem bestm_ok : m68_3 2000 (n : Int) true p = some (match (downT n).find? is with | some l => .tup [.lst false l.length (nL l), .bool true] | none => .tup [.lst false 0 [], .bool false]) := by
  have hp : 2 ^ n ≤ 32 := Nat.pow_le_pow_right (n := 2) (by omega) hn
  have e := bestm_L n hn p is his (2 ^ n) 0 2000 none (Nat.sub_zero _) (Nat.lt_of_le_of_lt hp (by decide)) (fun l hl => by cases hl)
  have r := best_down is hn
  unfold allS at r
  rw [Nat.sub_zero, ← List.range_eq_range', r] at e
  rw [m68_3, grd_t (by omega), show m68_3_L0 2000 (n : Int) true p 2000 (.fn 999999 []) 0 = _ from e, bnd_t]
  cases (downT n).find? is with
  | none => rw [getIf_n]
  | some l => rw [getIf_s, getL_t]
end
def mostL (K : List (List (Nat × Nat))) : List Nat := ((downT K.length).find? (tog K)).getD []
theorem nil_down : ∀ d, d ≤ 5 → [] ∈ downT d := by decide
theorem tog_nil (K : List (List (Nat × Nat))) : tog K [] = true := rfl
theorem most_find {K : List (List (Nat × Nat))} (h : K.length ≤ 5) : (downT K.length).find? (tog K) = some (mostL K) := by
  unfold mostL
  cases hf : (downT K.length).find? (tog K) with
  | some l => rfl
  | none => exact absurd (tog_nil K) (List.find?_eq_none.1 hf _ (nil_down _ h))
theorem Most_ok (n : Nat) (K : List (List (Nat × Nat))) (hK : Fit n K) : m32 2000 (crw n K) = some (.tup [rwN (mostL K), .int .i64 0]) := by
  have h5 := hK.many
  have c1 := check_ok 2000 (by omega) n (cK K) (by rw [cK_len]; omega) (fun l hl => by
    obtain ⟨l', h1, rfl⟩ := List.mem_map.1 hl
    have := hK.len _ h1
    rw [cL_len]; omega)
  rw [chk_fit hK, cK_len] at c1
  have b := bestm_ok K.length h5 (crw n K) (tog K) (fun s hs => tog_ok n K hK (memb s) (memb_lt h5 hs) (by have := memb_len s; omega))
  rw [most_find h5] at b
  unfold crw at *
  rw [m32, getA2_t, c1, bnd_t, getI_t, brn_f (b := ((0 : Int) != 0)) rfl, getL_t, b, bnd_t]
  rfl
theorem mem_ls {n : Nat} : ∀ (m k : Nat) (l : List Nat), l ∈ ls n m k ↔ l.length = m ∧ l.Pairwise (· < ·) ∧ ∀ x ∈ l, k ≤ x ∧ x < n
  | 0, k, l => by
    simp only [ls, List.mem_singleton]
    constructor
    · rintro rfl; simp
    · intro h; exact List.eq_nil_of_length_eq_zero h.1
  | m + 1, k, [] => by simp [ls]
  | m + 1, k, x :: l => by
    simp only [ls, List.mem_flatMap, List.mem_map, List.mem_range', List.cons.injEq]
    constructor
    · rintro ⟨y, ⟨i, hi, rfl⟩, l', h, h1, rfl⟩
      obtain ⟨a, b, c⟩ := (mem_ls m (k + 1 * i + 1) l').1 h
      subst h1
      refine ⟨by simp [a], List.pairwise_cons.2 ⟨fun z hz => by have := c z hz; omega, b⟩, fun z hz => ?_⟩
      rcases List.mem_cons.1 hz with rfl | hz
      · omega
      · have := c z hz; omega
    · rintro ⟨a, b, c⟩
      obtain ⟨b1, b2⟩ := List.pairwise_cons.1 b
      have hx := c x (.head _)
      exact ⟨x, ⟨x - k, by omega, by omega⟩, l, (mem_ls m (x + 1) l).2 ⟨by simpa using a, b2, fun z hz => ⟨b1 z hz, (c z (.tail _ hz)).2⟩⟩, rfl, rfl⟩
theorem mem_upT {n : Nat} {l : List Nat} : l ∈ upT n ↔ l.length ≤ n ∧ l.Pairwise (· < ·) ∧ ∀ x ∈ l, x < n := by
  simp only [upT, List.mem_flatMap, List.mem_range, mem_ls]
  constructor
  · rintro ⟨m, hm, rfl, b, c⟩; exact ⟨by omega, b, fun x hx => (c x hx).2⟩
  · rintro ⟨a, b, c⟩; exact ⟨_, by omega, rfl, b, fun x hx => ⟨Nat.zero_le _, c x hx⟩⟩
theorem sorted_ext : ∀ {a b : List Nat}, a.Pairwise (· < ·) → b.Pairwise (· < ·) → (∀ x, x ∈ a ↔ x ∈ b) → a = b
  | [], [], _, _, _ => rfl
  | [], y :: b, _, _, h => by have := (h y).2 (.head _); cases this
  | x :: a, [], _, _, h => by have := (h x).1 (.head _); cases this
  | x :: a, y :: b, ha, hb, h => by
    obtain ⟨a1, a2⟩ := List.pairwise_cons.1 ha
    obtain ⟨b1, b2⟩ := List.pairwise_cons.1 hb
    have e : x = y := by
      rcases List.mem_cons.1 ((h x).1 (.head _)) with h1 | h1
      · exact h1
      · rcases List.mem_cons.1 ((h y).2 (.head _)) with h2 | h2
        · exact h2.symm
        · have := b1 _ h1; have := a1 _ h2; omega
    subst e
    congr 1
    refine sorted_ext a2 b2 fun z => ⟨fun hz => ?_, fun hz => ?_⟩
    · rcases List.mem_cons.1 ((h z).1 (.tail _ hz)) with rfl | h1
      · have := a1 _ hz; omega
      · exact h1
    · rcases List.mem_cons.1 ((h z).2 (.tail _ hz)) with rfl | h1
      · have := b1 _ hz; omega
      · exact h1
theorem filt_upT {n : Nat} (f : Nat → Bool) : (List.range n).filter f ∈ upT n := by
  refine mem_upT.2 ⟨?_, List.Pairwise.filter _ List.pairwise_lt_range, fun x hx => ?_⟩
  · have := List.length_filter_le f (List.range n); simpa using this
  · simpa using (List.mem_filter.1 hx).1
theorem upT_filt {n : Nat} {l : List Nat} (h : l ∈ upT n) : (List.range n).filter (fun x => l.contains x) = l := by
  obtain ⟨_, b, c⟩ := mem_upT.1 h
  refine sorted_ext (List.Pairwise.filter _ List.pairwise_lt_range) b fun x => ?_
  simp only [List.mem_filter, List.mem_range, List.contains_iff_mem]
  exact ⟨fun h => h.2, fun h => ⟨c x h, h⟩⟩
theorem sets_len (K : List (List (Nat × Nat))) (ks : List Nat) : (sets K ks).length = ks.length := by simp [sets]
theorem sets_get {K : List (List (Nat × Nat))} {ks : List Nat} {i : Nat} (h : i < ks.length) : (sets K ks).getD i [] = kN K (nn ks i) := by
  simp [sets, nn, List.getD, h]
theorem sets_ok {n : Nat} {K : List (List (Nat × Nat))} (h : Fit n K) (ks : List Nat) : OkS (sets K ks) := fun i p hp => by
  by_cases hi : i < ks.length
  · rw [sets_get hi] at hp; exact kN_ok h p hp
  · rw [List.getD_eq_getElem?_getD, List.getElem?_eq_none (by rw [sets_len]; omega)] at hp; simp at hp
theorem flatMap_congr' {α β : Type} {f g : α → List β} : ∀ {l : List α}, (∀ a ∈ l, f a = g a) → l.flatMap f = l.flatMap g
  | [], _ => rfl
  | a :: l, h => by rw [List.flatMap_cons, List.flatMap_cons, h a (.head _), flatMap_congr' fun b hb => h b (.tail _ hb)]
theorem sel_sets {K : List (List (Nat × Nat))} {ks : List Nat} (f : Nat → Bool) : Go.Crew.sel (sets K ks) f = pairsOf K (((List.range ks.length).filter f).map (nn ks)) := by
  unfold Go.Crew.sel pairsOf
  rw [sets_len, List.flatMap_map]
  exact flatMap_congr' fun i hi => sets_get (by simpa using (List.mem_filter.1 hi).1)
def rtog (K : List (List (Nat × Nat))) (ks : List Nat) : Bool := (upT ks.length).all fun l => !blk K (l.map (nn ks))
theorem tog_iff {n : Nat} {K : List (List (Nat × Nat))} (h : Fit n K) (ks : List Nat) : tog K ks = true ↔ Rad (sets K ks) := by
  rw [← chs_rad (sets_ok h ks)]
  unfold tog
  cases chs (sets K ks) apt <;> simp
theorem rtog_iff (K : List (List (Nat × Nat))) (ks : List Nat) : rtog K ks = true ↔ Rad (sets K ks) := by
  unfold rtog Rad
  rw [List.all_eq_true]
  constructor
  · intro h f
    have := h _ (filt_upT f)
    rw [sel_sets, sets_len]
    simp only [blk, Bool.not_eq_true', decide_eq_false_iff_not, List.length_map] at this
    unfold sz; omega
  · intro h l hl
    have := h fun x => l.contains x
    rw [sel_sets, sets_len] at this
    unfold sz at this
    rw [upT_filt hl] at this
    simp only [blk, Bool.not_eq_true', decide_eq_false_iff_not, List.length_map]
    omega
theorem tog_rtog {n : Nat} {K : List (List (Nat × Nat))} (h : Fit n K) (ks : List Nat) : rtog K ks = tog K ks := by
  rw [Bool.eq_iff_iff, rtog_iff, tog_iff h]
def RadM (K : List (List (Nat × Nat))) (ks : List Nat) : Prop := ∀ g : Nat → Bool, (ks.filter g).length ≤ rk (pairsOf K (ks.filter g))
theorem range_map_nn (ks : List Nat) : (List.range ks.length).map (nn ks) = ks := by
  apply List.ext_getElem (by simp)
  intro i a b
  simp [nn, b]
theorem radM_iff {K : List (List (Nat × Nat))} {ks : List Nat} (hn : ks.Nodup) : Rad (sets K ks) ↔ RadM K ks := by
  have e1 : ∀ g : Nat → Bool, ((List.range ks.length).filter (fun i => g (nn ks i))).map (nn ks) = ks.filter g := fun g => by
    have := List.filter_map (f := nn ks) (p := g) (l := List.range ks.length)
    rw [range_map_nn] at this
    rw [this]; rfl
  constructor
  · intro h g
    have := h fun i => g (nn ks i)
    rw [sel_sets, sets_len] at this
    unfold sz at this
    rw [e1, ← List.length_map (f := nn ks), e1] at this
    exact this
  · intro h f
    have e2 : ∀ i, i < ks.length → ((List.range ks.length).any fun k => nn ks k == nn ks i && f k) = f i := fun i hi => by
      rw [Bool.eq_iff_iff, List.any_eq_true]
      constructor
      · rintro ⟨k, hk, h⟩
        simp only [Bool.and_eq_true, beq_iff_eq] at h
        have hk := List.mem_range.1 hk
        have : k = i := by
          have e := h.1
          simp only [nn, List.getD_eq_getElem?_getD, List.getElem?_eq_getElem hk, List.getElem?_eq_getElem hi, Option.getD_some] at e
          exact (List.getElem_inj hn).1 e
        rw [← this]; exact h.2
      · intro h; exact ⟨i, List.mem_range.2 hi, by simp [h]⟩
    have := h fun x => (List.range ks.length).any fun k => nn ks k == x && f k
    rw [← e1, List.length_map] at this
    have e3 : (List.range ks.length).filter (fun i => (List.range ks.length).any fun k => nn ks k == nn ks i && f k) = (List.range ks.length).filter f := List.filter_congr fun i hi => e2 i (List.mem_range.1 hi)
    rw [e3] at this
    rw [sel_sets, sets_len]
    exact this
theorem nodup_len : ∀ {a b : List Nat}, a.Nodup → (∀ x ∈ a, x ∈ b) → a.length ≤ b.length
  | [], _, _, _ => Nat.zero_le _
  | x :: a, b, hn, h => by
    obtain ⟨n1, n2⟩ := List.nodup_cons.1 hn
    have hx := h x (.head _)
    have := nodup_len (a := a) (b := b.erase x) n2 fun y hy => (List.mem_erase_of_ne (by rintro rfl; exact n1 hy)).2 (h y (.tail _ hy))
    rw [List.length_erase_of_mem hx] at this
    have := List.length_pos_of_mem hx
    simp; omega
theorem mostL_in {K : List (List (Nat × Nat))} (h : K.length ≤ 5) : mostL K ∈ upT K.length ∧ tog K (mostL K) = true ∧ ∀ l ∈ upT K.length, tog K l = true → l.length ≤ (mostL K).length := by
  have f := most_find h
  obtain ⟨s1, s2, s3, s4⟩ := sorted_n h
  have hd : ∀ x, x ∈ downT K.length ↔ x ∈ upT K.length := fun x => by rw [← s4, s3]
  refine ⟨(hd _).1 (List.mem_of_find?_eq_some f), List.find?_some f, fun l hl ht => ?_⟩
  obtain ⟨_, u, v, e, hb⟩ := List.find?_eq_some_iff_append.1 f
  have hl' := (hd l).2 hl
  rw [e] at hl' s2
  rcases List.mem_append.1 hl' with q | q
  · have := hb l q
    rw [ht] at this; cases this
  · rcases List.mem_cons.1 q with rfl | q
    · exact Nat.le_refl _
    · have := (List.pairwise_cons.1 (List.pairwise_append.1 s2).2.1).1 l q
      unfold ltG at this
      split at this
      · omega
      · have := of_decide_eq_true this; omega
structure Sd (n c : Nat) (l : List (Nat × Nat)) : Prop where
  lt : ∀ p ∈ l, p.1 < p.2 ∧ p.2 < n ∧ p.1 * 5 + p.2 < c
  inc : l.Pairwise fun p q => p.1 * 5 + p.2 < q.1 * 5 + q.2
theorem Sd.mono {n c c' : Nat} {l : List (Nat × Nat)} (h : Sd n c l) (hc : c ≤ c') : Sd n c' l := ⟨fun p hp => by have := h.lt p hp; omega, h.inc⟩
theorem Sd.snoc {n c : Nat} {l : List (Nat × Nat)} (h : Sd n c l) {a b : Nat} (h1 : a < b) (h2 : b < n) (hc : c ≤ a * 5 + b) : Sd n (a * 5 + b + 1) (l ++ [(a, b)]) := by
  refine ⟨fun p hp => ?_, List.pairwise_append.2 ⟨h.inc, List.pairwise_singleton _ _, fun p hp q hq => ?_⟩⟩
  · rcases List.mem_append.1 hp with hp | hp
    · have := h.lt p hp; omega
    · simp only [List.mem_singleton] at hp; subst hp; simp only []; omega
  · simp only [List.mem_singleton] at hq; subst hq
    have := h.lt p hp
    simp only []; omega
theorem prsI_snoc (l : List (Nat × Nat)) (a b : Nat) : prsI (cL l) ++ [.int .i64 (a : Int), .int .i64 (b : Int)] = prsI (cL (l ++ [(a, b)])) := by simp [prsI, cL, cI, prI]
section
variable (N : Nat) (hN : 2000 ≤ N) (S Km M : Nat) (hM : M ≤ 6) (x y : Int) (X0 X1 X2 X3 X4 : Int) (n : Nat) (hn : n ≤ 5) (hB : IntKind.i64.wrap (1 + (Int.tmod (IntKind.i64.wrap x) (S : Int))) = (n : Int))
include hN hM hn hB
theorem made_L2 (p0 p1 p2 p3 p4 : PV) (z : Int) (nk : Nat) (ck : List PV) (set : Int) (a : Nat) : ∀ (r b fuel k : Nat) (l : List (Nat × Nat)), n - b = r → a < b → b ≤ n → l.length ≤ M → k + r ≤ 100 → r < fuel → Sd n (a * 5 + b) l →
    ∃ (l' : List (Nat × Nat)) (k' : Nat), m40_L2 N (S : Int) (Km : Int) (M : Int) p0 p1 p2 p3 p4 x y z nk ck set (a : Int) fuel l.length (k : Int) (b : Int) (prsI (cL l)) = some (l'.length, (k' : Int), prsI (cL l')) ∧ l'.length ≤ M ∧ k' = k + (n - b) ∧ Sd n (a * 5 + n) l'
  | r, b, 0, _, _, _, _, _, _, _, h, _ => by omega
  | r, b, f + 1, k, l, hr, hab, hb, hl, hk, hf, hs => by
    rw [m40_L2, hB]
    by_cases h : b < n
    · rw [brn_t (by simp; omega), grd_t (by omega)]
      have skip : ∃ (l' : List (Nat × Nat)) (k' : Nat), m40_L2 N (S : Int) (Km : Int) (M : Int) p0 p1 p2 p3 p4 x y z nk ck set (a : Int) f l.length (IntKind.i64.wrap ((k : Int) + 1)) (IntKind.i64.wrap ((b : Int) + 1)) (prsI (cL l)) = some (l'.length, (k' : Int), prsI (cL l')) ∧ l'.length ≤ M ∧ k' = k + (n - b) ∧ Sd n (a * 5 + n) l' := by
        obtain ⟨l', k', e1, e2, e3, e4⟩ := made_L2 p0 p1 p2 p3 p4 z nk ck set a (r - 1) (b + 1) f (k + 1) l (by omega) (by omega) (by omega) hl (by omega) (by omega) (hs.mono (by omega))
        rw [wrapN (by omega), wrapN (by omega)]
        exact ⟨l', k', e1, e2, by omega, e4⟩
      generalize hc : (bitsI .and .u16 (Int.fdiv set (2 ^ (min (Int.toNat (k : Int)) 16))) 1 == 1) = c
      cases c with
      | false => rw [brn_f rfl]; exact skip
      | true =>
        rw [brn_t rfl]
        by_cases hm : l.length < M
        · obtain ⟨l', k', e1, e2, e3, e4⟩ := made_L2 p0 p1 p2 p3 p4 z nk ck set a (r - 1) (b + 1) f (k + 1) (l ++ [(a, b)]) (by omega) (by omega) (by omega) (by simp; omega) (by omega) (by omega) (hs.snoc hab h (by omega))
          rw [brn_t (by simp; omega), grd_t (by omega), grd_t (by rw [prsI_len, cL_len]), wrapN (by omega), wrapN (by omega), prsI_snoc]
          rw [List.length_append] at e1
          exact ⟨l', k', e1, e2, by omega, e4⟩
        · rw [brn_f (by simp; omega)]; exact skip
    · rw [brn_f (by simp; omega)]
      exact ⟨l, k, rfl, hl, by omega, hs.mono (by omega)⟩
theorem made_L1 (p0 p1 p2 p3 p4 : PV) (z : Int) (nk : Nat) (ck : List PV) (set : Int) : ∀ (r a fuel k : Nat) (l : List (Nat × Nat)), n - a = r → a ≤ n → l.length ≤ M → k ≤ a * 5 → r < fuel → Sd n (a * 5) l → 
    ∃ l', m40_L1 N (S : Int) (Km : Int) (M : Int) p0 p1 p2 p3 p4 x y z nk ck set fuel l.length (k : Int) (a : Int) (prsI (cL l)) = some (l'.length, prsI (cL l')) ∧ l'.length ≤ M ∧ Sd n 25 l'
  | r, a, 0, _, _, _, _, _, _, h, _ => by omega
  | r, a, f + 1, k, l, hr, ha, hl, hk, hf, hs => by
    rw [m40_L1, hB]
    by_cases h : a < n
    · obtain ⟨l', k', e1, e2, e3, e4⟩ := made_L2 N hN S Km M hM x y n hn hB p0 p1 p2 p3 p4 z nk ck set a (n - (a + 1)) (a + 1) N k l rfl (by omega) (by omega) hl (by omega) (by omega) (hs.mono (by omega))
      obtain ⟨l2, f1, f2, f3⟩ := made_L1 p0 p1 p2 p3 p4 z nk ck set (r - 1) (a + 1) f k' l' (by omega) (by omega) e2 (by omega) (by omega) (e4.mono (by omega))
      rw [brn_t (by simp; omega), wrapN (by omega), e1]
      simp only [bnd']
      exact ⟨l2, f1, f2, f3⟩
    · rw [brn_f (by simp; omega)]
      exact ⟨l, rfl, hl, hs.mono (by omega)⟩
theorem made_L0 (m : Nat) (hm : (((Int.toNat (Int.tmod (IntKind.i64.wrap y) (IntKind.i64.wrap ((Km : Int) + 1)))) : Nat) : Int) = (m : Int)) (hm5 : m ≤ 5) : ∀ (r i fuel : Nat) (K : List (List (Nat × Nat))), m - i = r → i ≤ m → K.length = i → r < fuel → (∀ l ∈ K, l.length ≤ M ∧ Sd n 25 l) →
    ∃ K', m40_L0 N (S : Int) (Km : Int) (M : Int) (.int .u16 X0) (.int .u16 X1) (.int .u16 X2) (.int .u16 X3) (.int .u16 X4) x y fuel (i : Int) K.length (knsI (cK K)) = some (K'.length, knsI (cK K')) ∧ K'.length = m ∧ ∀ l ∈ K', l.length ≤ M ∧ Sd n 25 l
  | r, i, 0, _, _, _, _, h, _ => by omega
  | r, i, f + 1, K, hr, hi, hK, hf, hs => by
    have hkl : (knsI (cK K)).length = K.length := by rw [knsI_len, cK_len]
    rw [m40_L0, hm]
    by_cases h : i < m
    · rw [brn_t (by simp; omega), toNatN, grd_t ⟨by omega, by omega⟩, grd_t (by omega)]
      have go : ∀ set : Int, ∃ K', (bnd' (m40_L1 N (S : Int) (Km : Int) (M : Int) (.int .u16 X0) (.int .u16 X1) (.int .u16 X2) (.int .u16 X3) (.int .u16 X4) x y (i : Int) K.length (knsI (cK K)) set N 0 0 0 []) fun o =>
          match o with
          | (n693, c694) =>
            grd ((K.length + 1) ≤ 1099511627776) <|
            grd (List.length (knsI (cK K)) = K.length) <|
            grd (List.length c694 = (n693 * 2)) <|
            m40_L0 N (S : Int) (Km : Int) (M : Int) (.int .u16 X0) (.int .u16 X1) (.int .u16 X2) (.int .u16 X3) (.int .u16 X4) x y f (IntKind.i64.wrap ((i : Int) + 1)) (K.length + 1) (knsI (cK K) ++ [(.lst false n693 c694)])) = some (K'.length, knsI (cK K')) ∧ K'.length = m ∧ ∀ l ∈ K', l.length ≤ M ∧ Sd n 25 l := by
        intro set
        obtain ⟨l, e1, e2, e3⟩ := made_L1 N hN S Km M hM x y n hn hB (.int .u16 X0) (.int .u16 X1) (.int .u16 X2) (.int .u16 X3) (.int .u16 X4) (i : Int) K.length (knsI (cK K)) set n 0 N 0 [] (by omega) (by omega) (by simp) (by omega) (by omega) ⟨fun p hp => by simp at hp, .nil⟩
        obtain ⟨K', f1, f2, f3⟩ := made_L0 m hm hm5 (r - 1) (i + 1) f (K ++ [l]) (by omega) (by omega) (by simp; omega) (by omega) (fun q hq => by
          rcases List.mem_append.1 hq with hq | hq
          · exact hs q hq
          · simp only [List.mem_singleton] at hq; subst hq; exact ⟨e2, e3⟩)
        rw [show m40_L1 N (S : Int) (Km : Int) (M : Int) (.int .u16 X0) (.int .u16 X1) (.int .u16 X2) (.int .u16 X3) (.int .u16 X4) x y (i : Int) K.length (knsI (cK K)) set N 0 0 0 [] = _ from e1]
        simp only [bnd']
        rw [grd_t (by omega), grd_t hkl, grd_t (by rw [prsI_len, cL_len]), wrapN (by omega)]
        have e : knsI (cK K) ++ [PV.lst false l.length (prsI (cL l))] = knsI (cK (K ++ [l])) := by simp [knsI, cK, knI, cL_len]
        rw [e]
        rw [List.length_append] at f1
        exact ⟨K', f1, f2, f3⟩
      have : i = 0 ∨ i = 1 ∨ i = 2 ∨ i = 3 ∨ i = 4 := by omega
      rcases this with rfl | rfl | rfl | rfl | rfl
      · exact go X0
      · exact go X1
      · exact go X2
      · exact go X3
      · exact go X4
    · rw [brn_f (by simp; omega)]
      exact ⟨K, rfl, by omega, hs⟩
end
theorem Sd_fit {n : Nat} {K : List (List (Nat × Nat))} {M : Nat} (h1 : 1 ≤ n) (h5 : n ≤ 5) (hM : M ≤ 6) (hK : K.length ≤ 5) (h : ∀ l ∈ K, l.length ≤ M ∧ Sd n 25 l) : Fit n K :=
  ⟨h1, h5, hK, fun l hl => by have := (h l hl).1; omega, fun l hl p hp => by have := (h l hl).2.lt p hp; omega, fun l hl => (h l hl).2.inc.imp fun {p q} hpq e => by subst e; omega⟩
theorem made_ok (x y : Nat) (hx : x ≤ 255) (hy : y ≤ 255) (X0 X1 X2 X3 X4 : Int) (S Km M : Nat) (hS : 1 ≤ S) (hS5 : S ≤ 5) (hK : Km ≤ 5) (hM : M ≤ 6) :
    ∃ n K, m40 2000 (.agg [.int .u8 (x : Int), .int .u8 (y : Int), .int .u16 X0, .int .u16 X1, .int .u16 X2, .int .u16 X3, .int .u16 X4]) (S : Int) (Km : Int) (M : Int) = some (crw n K) ∧ Fit n K ∧ n ≤ S ∧ K.length ≤ Km ∧ ∀ l ∈ K, l.length ≤ M := by
  have w1 : IntKind.i64.wrap (x : Int) = (x : Int) := wrap64 (by omega) (by omega)
  have w2 : IntKind.i64.wrap (y : Int) = (y : Int) := wrap64 (by omega) (by omega)
  have w3 : IntKind.i64.wrap ((Km : Int) + 1) = ((Km + 1 : Nat) : Int) := wrapN (by omega)
  have t1 : Int.tmod (x : Int) (S : Int) = ((x % S : Nat) : Int) := by rw [Int.tmod_eq_emod_of_nonneg (by omega)]; omega
  have t2 : Int.tmod (y : Int) ((Km + 1 : Nat) : Int) = ((y % (Km + 1) : Nat) : Int) := by rw [Int.tmod_eq_emod_of_nonneg (by omega)]; omega
  have m1 : x % S < S := Nat.mod_lt _ (by omega)
  have m2 : y % (Km + 1) < Km + 1 := Nat.mod_lt _ (by omega)
  have hB : IntKind.i64.wrap (1 + (Int.tmod (IntKind.i64.wrap (x : Int)) (S : Int))) = ((1 + x % S : Nat) : Int) := by
    rw [w1, t1, wrap64 (by omega) (by omega)]; omega
  have hm : (((Int.toNat (Int.tmod (IntKind.i64.wrap (y : Int)) (IntKind.i64.wrap ((Km : Int) + 1)))) : Nat) : Int) = ((y % (Km + 1) : Nat) : Int) := by
    rw [w2, w3, t2, toNatN]
  obtain ⟨K, k1, k2, k3⟩ := made_L0 2000 (by omega) S Km M hM (x : Int) (y : Int) X0 X1 X2 X3 X4 (1 + x % S) (by omega) hB (y % (Km + 1)) hm (by omega) (y % (Km + 1)) 0 2000 [] (by omega) (by omega) rfl (by omega) (fun l hl => by cases hl)
  have hkl : (knsI (cK K)).length = K.length := by rw [knsI_len, cK_len]
  refine ⟨1 + x % S, K, ?_, Sd_fit (by omega) (by omega) hM (by omega) k3, by omega, by omega, fun l hl => (k3 l hl).1⟩
  simp only [m40, getA7, getI, if_true]
  rw [grd_t (by omega), grd_t (by rw [w3]; omega), grd_t (by rw [w2, w3, t2]; omega), show m40_L0 2000 (S : Int) (Km : Int) (M : Int) (.int .u16 X0) (.int .u16 X1) (.int .u16 X2) (.int .u16 X3) (.int .u16 X4) (x : Int) (y : Int) 2000 0 0 [] = _ from k1]
  simp only [bnd']
  rw [grd_t hkl, hB]
  rfl
section
end
def Sm (D : List (Nat × Nat)) : Prop := D.Nodup ∧ ∀ p ∈ D, p.1 < p.2 ∧ p.2 < 4
theorem Sm.ok {D : List (Nat × Nat)} (h : Sm D) : Ok D := fun p hp => by have := h.2 p hp; omega
section
end
section
end
section
end
theorem getT0_t {α : Type} {k : Option α} : getT0 (.tup []) k = k := rfl
theorem getA7_q {α : Type} {a b c d e g h : PV} {f : PV → PV → PV → PV → PV → PV → PV → Option α} : getA7 (.agg [a, b, c, d, e, g, h]) f = f a b c d e g h := rfl
def whyE (K : List (List (Nat × Nat))) : PV := match (upT K.length).find? (blk K) with | some l => .tup [rwN l, .int .i64 0] | none => .tup [rwN [], .int .i64 13]
theorem Why_ok (n : Nat) (K : List (List (Nat × Nat))) (hK : Fit n K) : m36 2000 (crw n K) = some (whyE K) := by
  have h5 := hK.many
  have c1 := check_ok 2000 (by omega) n (cK K) (by rw [cK_len]; omega) (fun l hl => by
    obtain ⟨l', h1, rfl⟩ := List.mem_map.1 hl
    have := hK.len _ h1
    rw [cL_len]; omega)
  rw [chk_fit hK, cK_len] at c1
  have b := bestw_ok K.length h5 (crw n K) (blk K) (fun s hs => blocks_ok n K hK (memb s) (memb_lt h5 hs) (by have := memb_len s; omega))
  unfold crw at *
  rw [m36, getA2_t, c1, bnd_t, getI_t, brn_f (b := ((0 : Int) != 0)) rfl, getL_t, b, bnd_t]
  unfold whyE
  cases (upT K.length).find? (blk K) <;> rfl
theorem map_nn_range {d : Nat} {l : List Nat} (h : ∀ x ∈ l, x < d) : l.map (nn (List.range d)) = l := by
  have : l.map (nn (List.range d)) = l.map id := List.map_congr_left fun x hx => by
    have := h x hx
    simp [nn, List.getD, this]
  rw [this, List.map_id]
theorem block_iff {n : Nat} {K : List (List (Nat × Nat))} (hK : Fit n K) : ((upT K.length).find? (blk K)).isSome = (chs K apt).isEmpty := by
  have a := tog_rtog hK (List.range K.length)
  unfold tog rtog at a
  rw [sets_all, List.length_range] at a
  rw [Bool.eq_iff_iff, List.find?_isSome]
  constructor
  · rintro ⟨l, h1, h2⟩
    cases hh : (chs K apt).isEmpty with
    | true => rfl
    | false =>
      rw [hh, Bool.not_false, List.all_eq_true] at a
      have := a l h1
      rw [map_nn_range (mem_upT.1 h1).2.2, h2] at this
      cases this
  · intro h
    rw [h, Bool.not_true] at a
    obtain ⟨l, h1, h2⟩ := List.all_eq_false.1 a
    rw [map_nn_range (mem_upT.1 h1).2.2] at h2
    exact ⟨l, h1, by simpa using h2⟩
def nmP (t : Nat → Nat) (p : Nat × Nat) : Nat × Nat := (min (t p.1) (t p.2), max (t p.1) (t p.2))
def Sim (t : Nat → Nat) (j j' : List Nat) : Prop := ∀ a b, a < 5 → b < 5 → (ja j a = ja j b ↔ ja j' (t a) = ja j' (t b))
theorem nmP_or (t : Nat → Nat) (p : Nat × Nat) : (nmP t p = (t p.1, t p.2)) ∨ (nmP t p = (t p.2, t p.1)) := by
  unfold nmP
  rcases Nat.le_total (t p.1) (t p.2) with h | h
  · rw [Nat.min_eq_left h, Nat.max_eq_right h]; exact .inl rfl
  · rw [Nat.min_eq_right h, Nat.max_eq_left h]; exact .inr rfl
theorem jnd_iff {j : List Nat} {p : Nat × Nat} : jnd j p = true ↔ ja j p.1 = ja j p.2 := by simp [jnd]
theorem jnd_nm {t : Nat → Nat} {j j' : List Nat} (h : Sim t j j') {p : Nat × Nat} (hp : p.1 < 5 ∧ p.2 < 5) : jnd j' (nmP t p) = jnd j p := by
  rw [Bool.eq_iff_iff, jnd_iff, jnd_iff, h _ _ hp.1 hp.2]
  rcases nmP_or t p with e | e <;> rw [e]
  exact eq_comm
theorem wth_eq {j : List Nat} (hj : j.length = 5) (p : Nat × Nat) {a b : Nat} (ha : a < 5) (hb : b < 5) :
    ja (wth j p) a = ja (wth j p) b ↔ ja j a = ja j b ∨ ((ja j a = ja j p.1 ∨ ja j a = ja j p.2) ∧ (ja j b = ja j p.1 ∨ ja j b = ja j p.2)) := by
  rw [wth_at hj p ha, wth_at hj p hb]
  unfold lo hi
  split <;> split <;> omega
theorem sim_wth {t : Nat → Nat} {j j' : List Nat} (h : Sim t j j') (hj : j.length = 5) (hj' : j'.length = 5) (ht : ∀ a, a < 5 → t a < 5) {p : Nat × Nat} (hp : p.1 < 5 ∧ p.2 < 5) : Sim t (wth j p) (wth j' (nmP t p)) := fun a b ha hb => by
  rw [wth_eq hj p ha hb, wth_eq hj' _ (ht a ha) (ht b hb), h a b ha hb, h a p.1 ha hp.1, h a p.2 ha hp.2, h b p.1 hb hp.1, h b p.2 hb hp.2]
  rcases nmP_or t p with e | e <;> rw [e] <;> simp only <;> omega
theorem cnt_sim {t : Nat → Nat} (ht : ∀ a, a < 5 → t a < 5) : ∀ (L : List (Nat × Nat)) (j j' : List Nat), Sim t j j' → j.length = 5 → j'.length = 5 → Ok L → cntJ j' (L.map (nmP t)) = cntJ j L
  | [], _, _, _, _, _, _ => rfl
  | p :: L, j, j', h, hj, hj', hL => by
    have hp := hL p (.head _)
    have hL' : Ok L := fun q hq => hL q (.tail _ hq)
    rw [List.map_cons, cntJ, cntJ, jnd_nm h hp, cnt_sim ht L j j' h hj hj' hL', cnt_sim ht L _ _ (sim_wth h hj hj' ht hp) (by simp [wth, hj]) (by simp [wth, hj']) hL']
structure Nm (t : Nat → Nat) : Prop where
  lt : ∀ a, a < 5 → t a < 5
  inj : ∀ a b, a < 5 → b < 5 → t a = t b → a = b
theorem ja_apt {a : Nat} (h : a < 5) : ja apt a = a := by
  match a, h with
  | 0, _ => rfl
  | 1, _ => rfl
  | 2, _ => rfl
  | 3, _ => rfl
  | 4, _ => rfl
theorem rk_nm {t : Nat → Nat} (ht : Nm t) {L : List (Nat × Nat)} (hL : Ok L) : rk (L.map (nmP t)) = rk L :=
  cnt_sim ht.lt L apt apt (fun a b ha hb => by
    rw [ja_apt ha, ja_apt hb, ja_apt (ht.lt a ha), ja_apt (ht.lt b hb)]
    exact ⟨fun h => by rw [h], fun h => ht.inj a b ha hb h⟩) rfl rfl hL
theorem ok_nm {t : Nat → Nat} (ht : Nm t) {L : List (Nat × Nat)} (hL : Ok L) : Ok (L.map (nmP t)) := fun p hp => by
  obtain ⟨q, hq, rfl⟩ := List.mem_map.1 hp
  have := hL q hq
  have := ht.lt _ this.1
  have := ht.lt _ (hL q hq).2
  rcases nmP_or t q with e | e <;> rw [e] <;> simp only <;> omega
def tups : List (List (Nat × Nat)) → List (List (Nat × Nat))
  | [] => [[]]
  | l :: S => l.flatMap fun p => (tups S).map (p :: ·)
theorem count_tups (l : List (Nat × Nat)) (S : List (List (Nat × Nat))) (f : List (Nat × Nat) → Bool) : (tups (l :: S)).countP f = (l.map fun p => (tups S).countP fun T => f (p :: T)).sum := by
  rw [tups, List.countP_flatMap]
  congr 1
  refine List.map_congr_left fun p _ => ?_
  simp [List.countP_map, Function.comp_def]
theorem pk_all (l : List (Nat × Nat)) : (List.range' 0 l.length).map (pk l) = l := by
  apply List.ext_getElem
  · simp
  · intro i h1 h2
    simp [pk, pN, List.getD, h2]
theorem chs_tups : ∀ (S : List (List (Nat × Nat))) (j : List Nat), (chs S j).length = (tups S).countP fun T => cntJ j T == T.length
  | [], _ => rfl
  | l :: S, j => by
    rw [count_tups, chs, List.length_flatMap]
    have : (List.range' 0 l.length).map (fun i => (if jnd j (pk l i) then [] else (chs S (wth j (pk l i))).map (i :: ·)).length) = ((List.range' 0 l.length).map (pk l)).map fun p => if jnd j p then 0 else (chs S (wth j p)).length := by
      rw [List.map_map]
      refine List.map_congr_left fun i _ => ?_
      simp only [Function.comp_def]
      split <;> simp
    rw [this, pk_all]
    congr 1
    refine List.map_congr_left fun p _ => ?_
    cases h : jnd j p with
    | true =>
      rw [if_pos rfl]
      symm
      rw [List.countP_eq_zero]
      intro T _
      have := cntJ_le T j
      rw [cntJ, h]
      simp; omega
    | false =>
      rw [if_neg (by simp), chs_tups S (wth j p)]
      refine List.countP_congr fun T _ => ?_
      rw [cntJ, h]
      simp
theorem sum_swap (f : Nat × Nat → Nat × Nat → Nat) (A : List (Nat × Nat)) : ∀ (B : List (Nat × Nat)), (A.map fun a => (B.map fun b => f a b).sum).sum = (B.map fun b => (A.map fun a => f a b).sum).sum
  | [] => by induction A with
    | nil => rfl
    | cons a A ih => simpa using ih
  | b :: B => by
    have e : (A.map fun a => ((b :: B).map fun b => f a b).sum).sum = (A.map fun a => f a b).sum + (A.map fun a => (B.map fun b => f a b).sum).sum := by
      induction A with
      | nil => rfl
      | cons a A ih => simp only [List.map_cons, List.sum_cons] at ih ⊢; omega
    rw [e, sum_swap f A B, List.map_cons, List.sum_cons]
theorem tups_perm {S S' : List (List (Nat × Nat))} (h : S.Perm S') : ∀ (f : List (Nat × Nat) → Bool), (∀ A B, A.Perm B → f A = f B) → (tups S).countP f = (tups S').countP f := by
  induction h with
  | nil => exact fun _ _ => rfl
  | cons l _ ih =>
    intro f hf
    rw [count_tups, count_tups]
    congr 1
    exact List.map_congr_left fun p _ => ih _ fun A B h => hf _ _ (h.cons p)
  | swap l m S =>
    intro f hf
    simp only [count_tups]
    rw [sum_swap]
    congr 1
    refine List.map_congr_left fun p _ => ?_
    congr 1
    refine List.map_congr_left fun q _ => ?_
    exact List.countP_congr fun T _ => by rw [hf _ _ (List.Perm.swap p q T)]
  | trans _ _ i1 i2 => exact fun f hf => (i1 f hf).trans (i2 f hf)
theorem tups_rev : ∀ (S : List (List (Nat × Nat))) (f : List (Nat × Nat) → Bool), (tups (S.map List.reverse)).countP f = (tups S).countP f
  | [], _ => rfl
  | l :: S, f => by
    rw [List.map_cons, count_tups, count_tups, List.map_reverse, List.sum_reverse]
    congr 1
    exact List.map_congr_left fun p _ => tups_rev S _
theorem tups_map (g : Nat × Nat → Nat × Nat) : ∀ (S : List (List (Nat × Nat))) (f : List (Nat × Nat) → Bool), (tups (S.map fun l => l.map g)).countP f = (tups S).countP fun T => f (T.map g)
  | [], _ => rfl
  | l :: S, f => by
    rw [List.map_cons, count_tups, count_tups, List.map_map]
    congr 1
    exact List.map_congr_left fun p _ => tups_map g S _
theorem mem_tups : ∀ {S : List (List (Nat × Nat))} {T : List (Nat × Nat)}, T ∈ tups S → (∀ l ∈ S, Ok l) → Ok T
  | [], T, h, _ => by
    rw [tups, List.mem_singleton] at h
    subst h; exact fun p hp => by cases hp
  | l :: S, T, h, hS => by
    obtain ⟨p, hp, h⟩ := List.mem_flatMap.1 h
    obtain ⟨T', hT, rfl⟩ := List.mem_map.1 h
    have := mem_tups hT fun m hm => hS m (.tail _ hm)
    intro q hq
    rcases List.mem_cons.1 hq with e | e
    · subst e; exact hS l (.head _) _ hp
    · exact this q e
def clP (p : Nat × Nat) : Nat × Nat := (p.1 % 5, p.2 % 5)
def frB (T : List (Nat × Nat)) : Bool := rk (T.map clP) == T.length
theorem clP_ok {T : List (Nat × Nat)} (h : Ok T) : T.map clP = T := by
  have : T.map clP = T.map id := List.map_congr_left fun p hp => by
    have := h p hp
    unfold clP
    rw [Nat.mod_eq_of_lt this.1, Nat.mod_eq_of_lt this.2]; rfl
  rw [this, List.map_id]
theorem clP_all (T : List (Nat × Nat)) : Ok (T.map clP) := fun p hp => by
  obtain ⟨q, _, rfl⟩ := List.mem_map.1 hp
  exact ⟨Nat.mod_lt _ (by omega), Nat.mod_lt _ (by omega)⟩
theorem frB_perm (A B : List (Nat × Nat)) (h : A.Perm B) : frB A = frB B := by
  unfold frB
  rw [h.length_eq, rk_set (clP_all A) (clP_all B) fun p => (h.map clP).mem_iff]
theorem chs_frB {S : List (List (Nat × Nat))} (hS : ∀ l ∈ S, Ok l) : (chs S apt).length = (tups S).countP frB := by
  rw [chs_tups]
  refine List.countP_congr fun T hT => ?_
  unfold frB
  rw [clP_ok (mem_tups hT hS)]; rfl
theorem frB_nm {t : Nat → Nat} (ht : Nm t) {T : List (Nat × Nat)} (hT : Ok T) : frB (T.map (nmP t)) = frB T := by
  unfold frB
  rw [clP_ok (ok_nm ht hT), clP_ok hT, rk_nm ht hT, List.length_map]
structure Turn (d : Nat) (q r : Nat → Nat) : Prop where
  lt : ∀ k, k < d → q k < d
  lt' : ∀ k, k < d → r k < d
  qr : ∀ k, k < d → q (r k) = k
  rq : ∀ k, k < d → r (q k) = k
theorem Turn.inj {d : Nat} {q r : Nat → Nat} (h : Turn d q r) {a b : Nat} (ha : a < d) (hb : b < d) (e : q a = q b) : a = b := by
  rw [← h.rq a ha, ← h.rq b hb, e]
theorem Turn.back {d : Nat} {q r : Nat → Nat} (h : Turn d q r) : Turn d r q := ⟨h.lt', h.lt, h.rq, h.qr⟩
theorem nodup_map_on {q : Nat → Nat} {d : Nat} (hq : ∀ a b, a < d → b < d → q a = q b → a = b) : ∀ {L : List Nat}, L.Nodup → (∀ x ∈ L, x < d) → (L.map q).Nodup
  | [], _, _ => .nil
  | x :: L, hn, hL => by
    obtain ⟨n1, n2⟩ := List.nodup_cons.1 hn
    rw [List.map_cons, List.nodup_cons]
    refine ⟨fun h => ?_, nodup_map_on hq n2 fun y hy => hL y (.tail _ hy)⟩
    obtain ⟨y, hy, e⟩ := List.mem_map.1 h
    have := hq y x (hL y (.tail _ hy)) (hL x (.head _)) e
    subst this; exact n1 hy
theorem turn_perm {d : Nat} {q r : Nat → Nat} (h : Turn d q r) : ((List.range d).map q).Perm (List.range d) := by
  rw [List.perm_ext_iff_of_nodup (nodup_map_on (d := d) (fun a b => h.inj) List.nodup_range fun x hx => List.mem_range.1 hx) List.nodup_range]
  intro x
  rw [List.mem_map, List.mem_range]
  constructor
  · rintro ⟨k, hk, rfl⟩; exact h.lt k (List.mem_range.1 hk)
  · exact fun hx => ⟨r x, List.mem_range.2 (h.lt' x hx), h.qr x hx⟩
def nmK (t q : Nat → Nat) (K : List (List (Nat × Nat))) : List (List (Nat × Nat)) := (List.range K.length).map fun k => ((kN K (q k)).map (nmP t)).reverse
theorem nmK_len {t q : Nat → Nat} {K : List (List (Nat × Nat))} : (nmK t q K).length = K.length := by simp [nmK]
theorem nmK_kN {t q : Nat → Nat} {K : List (List (Nat × Nat))} {k : Nat} (h : k < K.length) : kN (nmK t q K) k = ((kN K (q k)).map (nmP t)).reverse := by
  simp [nmK, kN, List.getD, h]
theorem range_kN (K : List (List (Nat × Nat))) : (List.range K.length).map (kN K) = K := by
  apply List.ext_getElem
  · simp
  · intro i h1 h2
    simp [kN, List.getD, h2]
theorem chs_nmK {n n' : Nat} {t q r : Nat → Nat} (ht : Nm t) {K : List (List (Nat × Nat))} (hq : Turn K.length q r) (hK : Fit n K) (hK' : Fit n' (nmK t q K)) : (chs (nmK t q K) apt).length = (chs K apt).length := by
  have e : nmK t q K = ((((List.range K.length).map q).map (kN K)).map fun l => l.map (nmP t)).map List.reverse := by
    simp [nmK, List.map_map, Function.comp_def]
  have p : (((List.range K.length).map q).map (kN K)).Perm K := by
    have := (turn_perm hq).map (kN K)
    rwa [range_kN] at this
  have ok : ∀ {m : Nat} {S : List (List (Nat × Nat))}, Fit m S → ∀ l ∈ S, Ok l := fun h l hl x hx => by
    have := h.lt l hl x hx
    have := h.n5
    omega
  rw [chs_frB (ok hK), chs_frB (ok hK'), e, tups_rev, tups_map, ← tups_perm p frB frB_perm]
  refine List.countP_congr fun T hT => ?_
  rw [frB_nm ht (mem_tups hT fun l hl => ok hK l (p.mem_iff.1 hl))]
theorem rk_nmK {n n' : Nat} {t q r : Nat → Nat} (ht : Nm t) {K : List (List (Nat × Nat))} (hK : Fit n K) (hK' : Fit n' (nmK t q K)) {L : List Nat} (hL : ∀ x ∈ L, x < K.length) : rk (pairsOf (nmK t q K) L) = rk (pairsOf K (L.map q)) := by
  rw [← rk_nm ht (pairsOf_ok hK)]
  refine rk_set (pairsOf_ok hK') (ok_nm ht (pairsOf_ok hK)) fun p => ?_
  unfold pairsOf
  simp only [List.mem_flatMap, List.mem_map]
  constructor
  · rintro ⟨k, hk, hp⟩
    rw [nmK_kN (hL k hk), List.mem_reverse] at hp
    obtain ⟨p', h1, h2⟩ := List.mem_map.1 hp
    exact ⟨p', ⟨q k, ⟨k, hk, rfl⟩, h1⟩, h2⟩
  · rintro ⟨p', ⟨_, ⟨k, hk, rfl⟩, h1⟩, h2⟩
    refine ⟨k, hk, ?_⟩
    rw [nmK_kN (hL k hk), List.mem_reverse]
    exact List.mem_map.2 ⟨p', h1, h2⟩
structure Alike (d : Nat) (q r : Nat → Nat) (K K' : List (List (Nat × Nat))) : Prop where
  t : Turn d q r
  k : K.length = d
  k' : K'.length = d
  rk : ∀ L : List Nat, (∀ x ∈ L, x < d) → rk (pairsOf K' L) = rk (pairsOf K (L.map q))
theorem Alike.back {d : Nat} {q r : Nat → Nat} {K K' : List (List (Nat × Nat))} (h : Alike d q r K K') : Alike d r q K' K :=
  ⟨h.t.back, h.k', h.k, fun L hL => by
    rw [h.rk (L.map r) fun x hx => by
      obtain ⟨y, hy, rfl⟩ := List.mem_map.1 hx
      exact h.t.lt' y (hL y hy), List.map_map]
    congr 2
    have : L.map (q ∘ r) = L.map id := List.map_congr_left fun x hx => h.t.qr x (hL x hx)
    rw [this, List.map_id]⟩
def imgL (d : Nat) (q : Nat → Nat) (Y : List Nat) : List Nat := (List.range d).filter fun x => (Y.map q).contains x
section
variable {n n' d : Nat} {q r : Nat → Nat} {K K' : List (List (Nat × Nat))} (h : Alike d q r K K') (hK : Fit n K) (hK' : Fit n' K')
include h
theorem mem_img {Y : List Nat} (hY : Y ∈ upT d) {x : Nat} : x ∈ imgL d q Y ↔ x ∈ Y.map q := by
  unfold imgL
  rw [List.mem_filter, List.mem_range, List.contains_iff_mem]
  constructor
  · exact fun h => h.2
  · intro hx
    refine ⟨?_, hx⟩
    obtain ⟨y, hy, rfl⟩ := List.mem_map.1 hx
    exact h.t.lt y ((mem_upT.1 hY).2.2 y hy)
theorem img_up {Y : List Nat} : imgL d q Y ∈ upT d := filt_upT _
theorem map_nodup {Y : List Nat} (hn : Y.Nodup) (hY : ∀ x ∈ Y, x < d) : (Y.map q).Nodup := nodup_map_on (d := d) (fun a b => h.t.inj) hn hY
theorem up_nodup' {d : Nat} {l : List Nat} (h : l ∈ upT d) : l.Nodup := (mem_upT.1 h).2.1.imp fun {a b} h => by omega
theorem img_len {Y : List Nat} (hY : Y ∈ upT d) : (imgL d q Y).length = Y.length := by
  have n1 := map_nodup h (up_nodup' h hY) (mem_upT.1 hY).2.2
  have n2 := up_nodup' h (img_up h (Y := Y))
  have a := nodup_len n1 fun x hx => (mem_img h hY).2 hx
  have b := nodup_len n2 fun x hx => (mem_img h hY).1 hx
  rw [List.length_map] at a b
  omega
include hK in
theorem rk_img {Y : List Nat} (hY : Y ∈ upT d) : rk (pairsOf K' Y) = rk (pairsOf K (imgL d q Y)) := by
  rw [h.rk Y (mem_upT.1 hY).2.2]
  refine rk_set (pairsOf_ok hK) (pairsOf_ok hK) fun p => ?_
  unfold pairsOf
  simp only [List.mem_flatMap]
  constructor
  · rintro ⟨k, h1, h2⟩; exact ⟨k, (mem_img h hY).2 h1, h2⟩
  · rintro ⟨k, h1, h2⟩; exact ⟨k, (mem_img h hY).1 h1, h2⟩
include hK in
theorem blk_img {Y : List Nat} (hY : Y ∈ upT d) : blk K (imgL d q Y) = blk K' Y := by
  unfold blk
  rw [← rk_img h hK hY, img_len h hY]
include hK hK' in
theorem most_le : (mostL K').length ≤ (mostL K).length := by
  obtain ⟨y1, y2, _⟩ := mostL_in hK'.many
  obtain ⟨_, _, z3⟩ := mostL_in hK.many
  rw [h.k'] at y1
  rw [h.k] at z3
  have up := img_up h (Y := mostL K')
  rw [← img_len h y1]
  refine z3 _ up ?_
  rw [(tog_iff hK _).trans (radM_iff (up_nodup' h up))]
  have y2 := ((tog_iff hK' _).trans (radM_iff (up_nodup' h y1))).1 y2
  intro g
  have s := y2 fun x => g (q x)
  have hF : ∀ x ∈ (mostL K').filter (fun x => g (q x)), x < d := fun x hx => (mem_upT.1 y1).2.2 x (List.mem_filter.1 hx).1
  rw [h.rk _ hF] at s
  have m : ∀ x, x ∈ (imgL d q (mostL K')).filter g ↔ x ∈ ((mostL K').filter fun x => g (q x)).map q := fun x => by
    rw [List.mem_filter, mem_img h y1, List.mem_map, List.mem_map]
    constructor
    · rintro ⟨⟨y, h1, rfl⟩, h2⟩; exact ⟨y, List.mem_filter.2 ⟨h1, h2⟩, rfl⟩
    · rintro ⟨y, h1, rfl⟩; exact ⟨⟨y, (List.mem_filter.1 h1).1, rfl⟩, (List.mem_filter.1 h1).2⟩
  have l := nodup_len ((up_nodup' h up).filter g) fun x hx => (m x).1 hx
  rw [List.length_map] at l
  have e : rk (pairsOf K ((imgL d q (mostL K')).filter g)) = rk (pairsOf K (((mostL K').filter fun x => g (q x)).map q)) := by
    refine rk_set (pairsOf_ok hK) (pairsOf_ok hK) fun p => ?_
    unfold pairsOf
    simp only [List.mem_flatMap, m]
  rw [e]
  omega
end
theorem up_sorted : ∀ d, d ≤ 5 → ((upT d).map List.length).Pairwise (· ≤ ·) := by decide +kernel
theorem find_short {p : List Nat → Bool} : ∀ {T : List (List Nat)}, (T.map List.length).Pairwise (· ≤ ·) → ∀ {a b : List Nat}, T.find? p = some a → b ∈ T → p b = true → a.length ≤ b.length
  | [], _, a, b, _, h, _ => by cases h
  | x :: T, hs, a, b, hf, hb, hp => by
    rw [List.map_cons, List.pairwise_cons] at hs
    rw [List.find?_cons] at hf
    cases hx : p x with
    | true =>
      rw [hx] at hf
      obtain rfl := Option.some.inj hf
      rcases List.mem_cons.1 hb with e | e
      · rw [e]; exact Nat.le_refl _
      · exact hs.1 _ (List.mem_map.2 ⟨b, e, rfl⟩)
    | false =>
      rw [hx] at hf
      rcases List.mem_cons.1 hb with e | e
      · subst e; rw [hx] at hp; cases hp
      · exact find_short hs.2 hf e hp
theorem why_le {n d : Nat} {q r : Nat → Nat} {K K' : List (List (Nat × Nat))} (h : Alike d q r K K') (hK : Fit n K) {Y : List Nat} (hY : (upT d).find? (blk K') = some Y) : ∃ X, (upT d).find? (blk K) = some X ∧ X.length ≤ Y.length := by
  have d5 : d ≤ 5 := by rw [← h.k]; exact hK.many
  have y1 := List.mem_of_find?_eq_some hY
  have y2 := List.find?_some hY
  have b := blk_img h hK y1
  rw [y2] at b
  cases hf : (upT d).find? (blk K) with
  | none =>
    have := List.find?_eq_none.1 hf _ (img_up h (Y := Y))
    exact absurd b this
  | some X =>
    refine ⟨X, rfl, ?_⟩
    rw [← img_len h y1]
    exact find_short (up_sorted d d5) hf (img_up h) b
theorem why_same {n n' d : Nat} {q r : Nat → Nat} {K K' : List (List (Nat × Nat))} (h : Alike d q r K K') (hK : Fit n K) (hK' : Fit n' K') : ((upT d).find? (blk K')).map List.length = ((upT d).find? (blk K)).map List.length := by
  cases h1 : (upT d).find? (blk K') with
  | some Y =>
    obtain ⟨X, e1, l1⟩ := why_le h hK h1
    obtain ⟨Y', e2, l2⟩ := why_le h.back hK' e1
    rw [h1] at e2
    obtain rfl := Option.some.inj e2
    rw [e1]
    simp; omega
  | none =>
    cases h2 : (upT d).find? (blk K) with
    | none => rfl
    | some X =>
      obtain ⟨Y', e2, _⟩ := why_le h.back hK' h2
      rw [h1] at e2; cases e2
theorem del_ok : ∀ (l z : List Nat) (k : Nat), k < l.length → l.length + z.length ≤ 4 → m59 2000 l.length (k : Int) ((k + 1 : Nat) : Int) (nL (l ++ z)) = some (l.length - 1, nL (l.eraseIdx k ++ 0 :: z))
  | [_], [], 0, _, _ => rfl
  | [_], [_], 0, _, _ => rfl
  | [_], [_, _], 0, _, _ => rfl
  | [_], [_, _, _], 0, _, _ => rfl
  | [_, _], [], 0, _, _ => rfl
  | [_, _], [], 1, _, _ => rfl
  | [_, _], [_], 0, _, _ => rfl
  | [_, _], [_], 1, _, _ => rfl
  | [_, _], [_, _], 0, _, _ => rfl
  | [_, _], [_, _], 1, _, _ => rfl
  | [_, _, _], [], 0, _, _ => rfl
  | [_, _, _], [], 1, _, _ => rfl
  | [_, _, _], [], 2, _, _ => rfl
  | [_, _, _], [_], 0, _, _ => rfl
  | [_, _, _], [_], 1, _, _ => rfl
  | [_, _, _], [_], 2, _, _ => rfl
  | [_, _, _, _], [], 0, _, _ => rfl
  | [_, _, _, _], [], 1, _, _ => rfl
  | [_, _, _, _], [], 2, _, _ => rfl
  | [_, _, _, _], [], 3, _, _ => rfl
  | [], _, _, h, _ => absurd h (by simp)
  | [_], _, k + 1, h, _ => absurd h (by simp)
  | [_, _], _, k + 2, h, _ => absurd h (by simp)
  | [_, _, _], _, k + 3, h, _ => absurd h (by simp)
  | [_, _, _, _], _, k + 4, h, _ => absurd h (by simp)
  | _ :: _ :: _ :: _ :: _ :: _, _, _, _, h => absurd h (by simp; omega)
  | [_], _ :: _ :: _ :: _ :: _, _, _, h => absurd h (by simp; omega)
  | [_, _], _ :: _ :: _ :: _, _, _, h => absurd h (by simp; omega)
  | [_, _, _], _ :: _ :: _, _, _, h => absurd h (by simp; omega)
  | [_, _, _, _], _ :: _, _, _, h => absurd h (by simp)
theorem rev_ok : ∀ (l : List (Nat × Nat)), l.length ≤ 4 → m60 2000 l.length (prsI (cL l)) = some (.tup [], prsI (cL l.reverse))
  | [], _ => rfl
  | [_], _ => rfl
  | [_, _], _ => rfl
  | [_, _, _], _ => rfl
  | [_, _, _, _], _ => rfl
  | _ :: _ :: _ :: _ :: _ :: _, h => absurd h (by simp)
theorem l0_ok (n : Nat) (hn : n ≤ 5) (X : Int) (p0 p1 p2 p3 p4 p5 : PV) : ∀ (r i fuel : Nat), n - i = r → i ≤ n → r < fuel →
    m13_L0 2000 X p0 p1 p2 p3 p4 p5 (n : Int) fuel i (i : Int) (nL (List.range i)) = some (n, nL (List.range n))
  | r, i, 0, _, _, h => by omega
  | r, i, f + 1, hr, hi, hf => by
    rw [m13_L0]
    by_cases h : i < n
    · rw [brn_t (decide_eq_true (by omega)), grd_t (by omega), grd_t (by rw [nL_len, List.length_range]), wrapN (by omega), nL_snoc, ← List.range_succ]
      exact l0_ok n hn X p0 p1 p2 p3 p4 p5 (r - 1) (i + 1) f (by omega) (by omega) (by omega)
    · rw [brn_f (decide_eq_false (by omega)), show i = n by omega]
theorem erase_perm : ∀ {l : List Nat} {k : Nat} (h : k < l.length), (l[k] :: l.eraseIdx k).Perm l
  | a :: l, 0, _ => by simp
  | a :: l, k + 1, h => by
    have h' : k < l.length := by simpa using h
    have := erase_perm h'
    simp only [List.getElem_cons_succ, List.eraseIdx_cons_succ]
    exact (List.Perm.swap _ _ _).trans (this.cons a)
def byG (b0 b1 b2 b3 b4 i : Nat) : Nat := [b0, b1, b2, b3, b4].getD i 0
theorem byG_gp (b0 b1 b2 b3 b4 : Nat) {i : Nat} (h : i < 5) : gp [.int .u8 (b0 : Int), .int .u8 (b1 : Int), .int .u8 (b2 : Int), .int .u8 (b3 : Int), .int .u8 (b4 : Int)] i = .int .u8 (byG b0 b1 b2 b3 b4 i : Int) := by
  match i, h with
  | 0, _ => rfl
  | 1, _ => rfl
  | 2, _ => rfl
  | 3, _ => rfl
  | 4, _ => rfl
theorem nn_app {l z : List Nat} {k : Nat} (h : k < l.length) : nn (l ++ z) k = l[k] := by simp [nn, List.getD, List.getElem?_append_left h, h]
theorem l1_ok (n : Nat) (hn : n ≤ 4) (b0 b1 b2 b3 b4 : Nat) (h0 : b0 ≤ 255) (h1 : b1 ≤ 255) (h2 : b2 ≤ 255) (h3 : b3 ≤ 255) (h4 : b4 ≤ 255) (X : Int) (p5 : PV) : ∀ (r i fuel : Nat) (l t : List Nat), n - i = r → i ≤ n → r < fuel → t.length = i → l.length = n - i → (t ++ l).Perm (List.range n) →
    ∃ t', m13_L1 2000 X (.int .u8 (b0 : Int)) (.int .u8 (b1 : Int)) (.int .u8 (b2 : Int)) (.int .u8 (b3 : Int)) (.int .u8 (b4 : Int)) p5 (n : Int) fuel l.length i (i : Int) (nL (l ++ List.replicate i 0)) (nL t) = some (n, nL t') ∧ t'.length = n ∧ t'.Perm (List.range n)
  | r, i, 0, _, _, _, _, h, _, _, _ => by omega
  | r, i, f + 1, l, t, hr, hi, hf, ht, hl, hp => by
    rw [m13_L1]
    by_cases h : i < n
    · have hb : byG b0 b1 b2 b3 b4 i ≤ 255 := by
        match i, (show i < 4 by omega) with
        | 0, _ => exact h0
        | 1, _ => exact h1
        | 2, _ => exact h2
        | 3, _ => exact h3
      have hlp : 0 < l.length := by omega
      rw [brn_t (decide_eq_true (by omega)), grd_t ⟨by omega, by omega⟩, toNatN, grd_t (by omega), byG_gp _ _ _ _ _ (by omega), getI_t, wrap64 (by omega) (by omega)]
      have tm : Int.tmod ((byG b0 b1 b2 b3 b4 i : Nat) : Int) (l.length : Int) = ((byG b0 b1 b2 b3 b4 i % l.length : Nat) : Int) := by rw [Int.tmod_eq_emod_of_nonneg (by omega)]; omega
      have lk : byG b0 b1 b2 b3 b4 i % l.length < l.length := Nat.mod_lt _ hlp
      rw [tm]
      generalize byG b0 b1 b2 b3 b4 i % l.length = k at *
      have d := del_ok l (List.replicate i 0) k lk (by rw [List.length_replicate]; omega)
      rw [grd_t (by omega), grd_t ⟨by omega, by omega⟩, toNatN, grd_t (by rw [nL_len, List.length_append]; omega), nL_gp (by rw [List.length_append]; omega), getI_t, grd_t (by omega), grd_t (by rw [nL_len]; exact ht), wrapN (by omega), d, bnd_t]
      show ∃ t', m13_L1 _ _ _ _ _ _ _ _ _ f _ _ _ _ _ = _ ∧ _
      rw [wrapN (by omega), nL_snoc, nn_app lk]
      have e1 : l.length - 1 = (l.eraseIdx k).length := by rw [List.length_eraseIdx, if_pos lk]
      have e2 : l.eraseIdx k ++ 0 :: List.replicate i 0 = l.eraseIdx k ++ List.replicate (i + 1) 0 := by rw [List.replicate_succ]
      rw [e1, e2]
      refine l1_ok n hn b0 b1 b2 b3 b4 h0 h1 h2 h3 h4 X p5 (r - 1) (i + 1) f (l.eraseIdx k) (t ++ [l[k]]) (by omega) (by omega) (by omega) (by simp [ht]) (by omega) ?_
      rw [List.append_assoc, List.singleton_append]
      exact ((erase_perm lk).append_left t).trans hp
    · rw [brn_f (decide_eq_false (by omega))]
      have e : i = n := by omega
      subst e
      have : l = [] := List.eq_nil_of_length_eq_zero (by omega)
      subst this
      rw [List.append_nil] at hp
      exact ⟨t, rfl, ht, hp⟩
def tf (n : Nat) (t : List Nat) (a : Nat) : Nat := if a < n then nn t a else a
theorem minI_nat (a b : Nat) : minI (a : Int) (b : Int) = ((min a b : Nat) : Int) := by unfold minI; split <;> omega
theorem maxI_nat (a b : Nat) : maxI (a : Int) (b : Int) = ((max a b : Nat) : Int) := by unfold maxI; split <;> omega
theorem l3_ok (n : Nat) (hn : n ≤ 5) (t : List Nat) (ht : t.length = n) (X : Int) (nk : Nat) (ck : List PV) (i : Int) (ni : Nat) (ci : List PV) (l : List (Nat × Nat)) (hl : ∀ p ∈ l, p.1 < n ∧ p.2 < n) (h6 : l.length ≤ 6) : ∀ (r j fuel : Nat), l.length - j = r → j ≤ l.length → r < fuel →
    m13_L3 2000 X (n : Int) n (nL t) nk ck i ni ci l.length (prsI (cL l)) fuel j (j : Int) (prsI (cL ((l.take j).map (nmP (tf n t))))) = some (l.length, prsI (cL (l.map (nmP (tf n t)))))
  | r, j, 0, _, _, h => by omega
  | r, j, f + 1, hr, hj, hf => by
    rw [m13_L3]
    by_cases h : j < l.length
    · have h' : j < (cL l).length := by rw [cL_len]; exact h
      have hp := hl _ (pN_mem h)
      have t1 : tf n t (pN l j).1 = nn t (pN l j).1 := by unfold tf; rw [if_pos hp.1]
      have t2 : tf n t (pN l j).2 = nn t (pN l j).2 := by unfold tf; rw [if_pos hp.2]
      rw [brn_t (decide_eq_true (by omega)), grd_t ⟨by omega, by omega⟩, toNatN, grd_t (by rw [List.length_drop, prsI_len]; omega), prsI_two h', cL_pI h]
      show getA2 (.agg [.int .i64 ((pN l j).1 : Int), .int .i64 ((pN l j).2 : Int)]) _ = _
      have hle : (prsI (cL ((l.take j).map (nmP (tf n t))))).length = j * 2 := by rw [prsI_len, cL_len, List.length_map, List.length_take]; omega
      rw [getA2_t, getI_t, grd_t ⟨by omega, by omega⟩, toNatN, grd_t (by rw [nL_len]; omega), nL_gp (by omega), getI_t, getI_t, grd_t ⟨by omega, by omega⟩, toNatN, grd_t (by rw [nL_len]; omega), nL_gp (by omega), getI_t, grd_t (by omega), grd_t hle, wrapN (by omega), minI_nat, maxI_nat, prsI_snoc]
      have e : (l.take j).map (nmP (tf n t)) ++ [(min (nn t (pN l j).1) (nn t (pN l j).2), max (nn t (pN l j).1) (nn t (pN l j).2))] = (l.take (j + 1)).map (nmP (tf n t)) := by
        rw [List.take_succ_eq_append_getElem h, List.map_append]
        have : l[j] = pN l j := by simp [pN, List.getD, h]
        rw [List.map_singleton, this, nmP, t1, t2]
      rw [e]
      exact l3_ok n hn t ht X nk ck i ni ci l hl h6 (r - 1) (j + 1) f (by omega) (by omega) (by omega)
    · rw [brn_f (decide_eq_false (by omega)), show j = l.length by omega, List.take_length]
theorem tf_lt {n : Nat} {t : List Nat} (hn : n ≤ 5) (ht : t.length = n) (hp : t.Perm (List.range n)) {a : Nat} (ha : a < n) : tf n t a < n := by
  unfold tf
  rw [if_pos ha]
  have h : nn t a ∈ t := by simp [nn, List.getD, ht, ha]
  exact List.mem_range.1 (hp.mem_iff.1 h)
theorem tf_inj {n : Nat} {t : List Nat} (ht : t.length = n) (hp : t.Perm (List.range n)) {a b : Nat} (ha : a < n) (hb : b < n) (e : nn t a = nn t b) : a = b := by
  have hn : t.Nodup := hp.nodup_iff.2 List.nodup_range
  have e' : t[a] = t[b] := by simpa [nn, List.getD, ht, ha, hb] using e
  exact (List.getElem_inj hn).1 e'
theorem tf_nm {n : Nat} {t : List Nat} (hn : n ≤ 5) (ht : t.length = n) (hp : t.Perm (List.range n)) : Nm (tf n t) := by
  refine ⟨fun a ha => ?_, fun a b ha hb e => ?_⟩
  · by_cases h : a < n
    · have := tf_lt hn ht hp h; omega
    · unfold tf; rw [if_neg h]; exact ha
  · by_cases h1 : a < n
    · by_cases h2 : b < n
      · unfold tf at e
        rw [if_pos h1, if_pos h2] at e
        exact tf_inj ht hp h1 h2 e
      · have := tf_lt hn ht hp h1
        rw [e] at this
        unfold tf at this
        rw [if_neg h2] at this
        omega
    · by_cases h2 : b < n
      · have := tf_lt hn ht hp h2
        rw [← e] at this
        unfold tf at this
        rw [if_neg h1] at this
        omega
      · unfold tf at e
        rwa [if_neg h1, if_neg h2] at e
def qT (d u k : Nat) : Nat := (k + u) % d
def rT (d u k : Nat) : Nat := (k + (d - u % d)) % d
theorem turn_q (d u : Nat) : Turn d (qT d u) (rT d u) := by
  by_cases hd : d = 0
  · subst hd; exact ⟨fun k h => by omega, fun k h => by omega, fun k h => by omega, fun k h => by omega⟩
  have hv : u % d < d := Nat.mod_lt _ (by omega)
  have q1 : ∀ k, k < d → qT d u k = if k + u % d < d then k + u % d else k + u % d - d := fun k hk => by
    unfold qT
    rw [← Nat.add_mod_mod]
    split
    · exact Nat.mod_eq_of_lt (by assumption)
    · rw [Nat.mod_eq_sub_mod (by omega), Nat.mod_eq_of_lt (by omega)]
  have r1 : ∀ k, k < d → rT d u k = if k < u % d then k + d - u % d else k - u % d := fun k hk => by
    unfold rT
    split
    · rw [Nat.mod_eq_of_lt (by omega)]; omega
    · rw [Nat.mod_eq_sub_mod (by omega), Nat.mod_eq_of_lt (by omega)]; omega
  refine ⟨fun k hk => Nat.mod_lt _ (by omega), fun k hk => Nat.mod_lt _ (by omega), fun k hk => ?_, fun k hk => ?_⟩
  · rw [q1 (rT d u k) (Nat.mod_lt _ (by omega)), r1 k hk]
    split <;> split <;> omega
  · rw [r1 (qT d u k) (Nat.mod_lt _ (by omega)), q1 k hk]
    split <;> split <;> omega
theorem nodup_nm {n : Nat} {t : List Nat} (hn : n ≤ 5) (ht : t.length = n) (hp : t.Perm (List.range n)) : ∀ {l : List (Nat × Nat)}, (∀ p ∈ l, p.1 < p.2 ∧ p.2 < n) → l.Nodup → (l.map (nmP (tf n t))).Nodup
  | [], _, _ => .nil
  | p :: l, hl, hd => by
    obtain ⟨n1, n2⟩ := List.nodup_cons.1 hd
    rw [List.map_cons, List.nodup_cons]
    refine ⟨fun h => ?_, nodup_nm hn ht hp (fun q hq => hl q (.tail _ hq)) n2⟩
    obtain ⟨q, hq, e⟩ := List.mem_map.1 h
    have a := hl p (.head _)
    have b := hl q (.tail _ hq)
    have N := tf_nm hn ht hp
    have i1 := N.inj p.1 q.1 (by omega) (by omega)
    have i2 := N.inj p.2 q.2 (by omega) (by omega)
    have i3 := N.inj p.1 q.2 (by omega) (by omega)
    have i4 := N.inj p.2 q.1 (by omega) (by omega)
    have : p = q := by
      rcases nmP_or (tf n t) p with e1 | e1 <;> rcases nmP_or (tf n t) q with e2 | e2 <;> rw [e1, e2, Prod.mk.injEq] at e
      · exact Prod.ext (i1 e.1.symm) (i2 e.2.symm)
      · have := i3 e.1.symm; have := i4 e.2.symm; omega
      · have := i3 e.2.symm; have := i4 e.1.symm; omega
      · exact Prod.ext (i1 e.2.symm) (i2 e.1.symm)
    subst this; exact n1 hq
theorem fit_nm {n : Nat} {K : List (List (Nat × Nat))} (hK : Fit n K) {t : List Nat} (ht : t.length = n) (hp : t.Perm (List.range n)) (u : Nat) : Fit n (nmK (tf n t) (qT K.length u) K) := by
  have key : ∀ l ∈ nmK (tf n t) (qT K.length u) K, ∃ l0 ∈ K, l = (l0.map (nmP (tf n t))).reverse := fun l hl => by
    obtain ⟨k, hk, rfl⟩ := List.mem_map.1 hl
    exact ⟨_, kN_mem ((turn_q K.length u).lt k (List.mem_range.1 hk)), rfl⟩
  refine ⟨hK.n1, hK.n5, by rw [nmK_len]; exact hK.many, fun l hl => ?_, fun l hl p h => ?_, fun l hl => ?_⟩
  · obtain ⟨l0, h0, rfl⟩ := key l hl
    rw [List.length_reverse, List.length_map]; exact hK.len _ h0
  · obtain ⟨l0, h0, rfl⟩ := key l hl
    obtain ⟨q, hq, rfl⟩ := List.mem_map.1 (List.mem_reverse.1 h)
    have a := hK.lt l0 h0 q hq
    have x1 := tf_lt hK.n5 ht hp (a := q.1) (by omega)
    have x2 := tf_lt hK.n5 ht hp a.2
    have ne : tf n t q.1 ≠ tf n t q.2 := fun e => by
      have := (tf_nm hK.n5 ht hp).inj q.1 q.2 (by have := hK.n5; omega) (by have := hK.n5; omega) e
      omega
    unfold nmP
    simp only
    omega
  · obtain ⟨l0, h0, rfl⟩ := key l hl
    refine (List.reverse_perm _).nodup_iff.2 ?_
    exact nodup_nm hK.n5 ht hp (hK.lt l0 h0) (hK.one l0 h0)
theorem kns_snoc' (A : List (List (Nat × Nat))) (l : List (Nat × Nat)) (m : Nat) (hm : m = l.length) : knsI (cK A) ++ [.lst false m (prsI (cL l))] = knsI (cK (A ++ [l])) := by
  subst hm
  simp [knsI, cK, knI, cL]
theorem l2_ok (n : Nat) (hn : n ≤ 4) (K : List (List (Nat × Nat))) (hK : Fit n K) (h4 : ∀ l ∈ K, l.length ≤ 4) (t : List Nat) (ht : t.length = n) (u : Nat) (hu : u ≤ 255) : ∀ (r i fuel : Nat), K.length - i = r → i ≤ K.length → r < fuel →
    m13_L2 2000 (u : Int) (n : Int) n (nL t) K.length (knsI (cK K)) fuel (i : Int) i (knsI (cK ((List.range i).map fun k => ((kN K (qT K.length u k)).map (nmP (tf n t))).reverse))) = some (K.length, knsI (cK (nmK (tf n t) (qT K.length u) K)))
  | r, i, 0, _, _, h => by omega
  | r, i, f + 1, hr, hi, hf => by
    have h5 := hK.many
    rw [m13_L2]
    by_cases h : i < K.length
    · have w0 : IntKind.i64.wrap (u : Int) = (u : Int) := wrap64 (by omega) (by omega)
      have w1 : IntKind.i64.wrap ((i : Int) + (u : Int)) = ((i + u : Nat) : Int) := by rw [wrap64 (by omega) (by omega)]; omega
      have tm : Int.tmod ((i + u : Nat) : Int) (K.length : Int) = ((qT K.length u i : Nat) : Int) := by unfold qT; rw [Int.tmod_eq_emod_of_nonneg (by omega)]; omega
      have lk : qT K.length u i < K.length := (turn_q K.length u).lt i h
      have kl : (knsI (cK K)).length = K.length := by rw [knsI_len, cK_len]
      have l4 := h4 _ (kN_mem lk)
      rw [brn_t (decide_eq_true (by omega)), grd_t (by omega), w0, w1, tm, grd_t ⟨by omega, by omega⟩, toNatN, grd_t (by rw [List.length_drop]; omega), knsI_gp (by rw [cK_len]; exact lk), cK_kI lk, getL_t]
      have e3 := l3_ok n hK.n5 t ht (u : Int) K.length (knsI (cK K)) (i : Int) i (knsI (cK ((List.range i).map fun k => ((kN K (qT K.length u k)).map (nmP (tf n t))).reverse))) (kN K (qT K.length u i)) (kN_lt hK) (kN_len hK) (kN K (qT K.length u i)).length 0 2000 (by omega) (by omega) (by omega)
      simp only [cL_len]
      rw [show m13_L3 2000 _ _ _ _ _ _ _ _ _ _ _ 2000 0 0 [] = _ from e3, bnd_t]
      show bnd' (m60 2000 _ _) _ = _
      have e4 := rev_ok ((kN K (qT K.length u i)).map (nmP (tf n t))) (by rw [List.length_map]; exact l4)
      rw [List.length_map] at e4
      rw [e4, bnd_t]
      show getT0 _ _ = _
      rw [getT0_t, grd_t (by omega), grd_t (by rw [knsI_len, cK_len, List.length_map, List.length_range]), grd_t (by rw [prsI_len, cL_len, List.length_reverse, List.length_map]), wrapN (by omega), kns_snoc' _ _ _ (by rw [List.length_reverse, List.length_map])]
      have e5 : (List.range i).map (fun k => ((kN K (qT K.length u k)).map (nmP (tf n t))).reverse) ++ [((kN K (qT K.length u i)).map (nmP (tf n t))).reverse] = (List.range (i + 1)).map fun k => ((kN K (qT K.length u k)).map (nmP (tf n t))).reverse := by
        rw [List.range_succ, List.map_append]; rfl
      rw [e5]
      exact l2_ok n hn K hK h4 t ht u hu (r - 1) (i + 1) f (by omega) (by omega) (by omega)
    · have : i = K.length := by omega
      subst this
      rw [brn_f (decide_eq_false (by omega))]; rfl
theorem getA5_q {α : Type} {a b c d e : PV} {f : PV → PV → PV → PV → PV → Option α} : getA5 (.agg [a, b, c, d, e]) f = f a b c d e := rfl
theorem whyE_ok (K : List (List (Nat × Nat))) : whyE K = .tup [rwN (((upT K.length).find? (blk K)).getD []), .int .i64 (if ((upT K.length).find? (blk K)).isSome then 0 else 13)] := by
  unfold whyE
  cases (upT K.length).find? (blk K) <;> rfl
theorem law13 (x y : Nat) (hx : x ≤ 255) (hy : y ≤ 255) (X0 X1 X2 X3 X4 : Int) (b0 b1 b2 b3 b4 : Nat) (h0 : b0 ≤ 255) (h1 : b1 ≤ 255) (h2 : b2 ≤ 255) (h3 : b3 ≤ 255) (h4 : b4 ≤ 255) (u : Nat) (hu : u ≤ 255) :
    m13 2000 (.agg [.int .u8 (x : Int), .int .u8 (y : Int), .int .u16 X0, .int .u16 X1, .int .u16 X2, .int .u16 X3, .int .u16 X4]) (.agg [.int .u8 (b0 : Int), .int .u8 (b1 : Int), .int .u8 (b2 : Int), .int .u8 (b3 : Int), .int .u8 (b4 : Int)]) (u : Int) = some (.bool true) := by
  obtain ⟨n, K, e, hK, n4, k4, l4⟩ := made_ok x y hx hy X0 X1 X2 X3 X4 4 4 4 (by omega) (by omega) (by omega) (by omega)
  have w : m16 2000 = some (.bool true) := rfl
  unfold m13
  rw [getA7_q, getA5_q, show m40 2000 _ 4 4 4 = _ from e, bnd_t]
  unfold crw
  rw [getA2_t, getI_t]
  have e0 := l0_ok n (by omega) (u : Int) (.int .u8 (b0 : Int)) (.int .u8 (b1 : Int)) (.int .u8 (b2 : Int)) (.int .u8 (b3 : Int)) (.int .u8 (b4 : Int)) (.lst false K.length (knsI (cK K))) n 0 2000 (by omega) (by omega) (by omega)
  rw [show m13_L0 2000 _ _ _ _ _ _ _ _ 2000 0 0 [] = _ from e0, bnd_t]
  obtain ⟨t, e1, ht, hp⟩ := l1_ok n n4 b0 b1 b2 b3 b4 h0 h1 h2 h3 h4 (u : Int) (.lst false K.length (knsI (cK K))) n 0 2000 (List.range n) [] (by omega) (by omega) (by omega) rfl (by simp) (by simp)
  rw [List.length_range, List.replicate_zero, List.append_nil] at e1
  show bnd' (m13_L1 2000 _ _ _ _ _ _ _ _ 2000 n 0 0 (nL (List.range n)) []) _ = _
  rw [show m13_L1 2000 _ _ _ _ _ _ _ _ 2000 n 0 0 (nL (List.range n)) [] = _ from e1, bnd_t]
  have e2 := l2_ok n n4 K hK l4 t ht u hu K.length 0 2000 (by omega) (by omega) (by omega)
  show getL _ _ = _
  rw [getL_t, show m13_L2 2000 _ _ _ _ _ _ 2000 0 0 [] = _ from e2, bnd_t]
  have hF := fit_nm hK ht hp u
  have hl : (nmK (tf n t) (qT K.length u) K).length = K.length := nmK_len
  have C1 := Count_ok n K hK
  have C2 := Count_ok n _ hF
  have M1 := Most_ok n K hK
  have M2 := Most_ok n _ hF
  have W1 := Why_ok n K hK
  have W2 := Why_ok n _ hF
  have cc := chs_nmK (tf_nm hK.n5 ht hp) (turn_q K.length u) hK hF
  have al : Alike K.length (qT K.length u) (rT K.length u) K (nmK (tf n t) (qT K.length u) K) := ⟨turn_q _ _, rfl, hl, fun L hL => rk_nmK (r := rT K.length u) (tf_nm hK.n5 ht hp) hK hF hL⟩
  have ml1 := most_le al hK hF
  have ml2 := most_le al.back hF hK
  have ws := why_same al hK hF
  have bi := block_iff hK
  rw [whyE_ok] at W1 W2
  rw [cc] at C2
  unfold crw at C1 C2 M1 M2 W1 W2
  rw [hl] at C2 M2 W2
  show bnd' (m28 2000 _) _ = _
  rw [C1, bnd_t, getT2_t, getI_t, getI_t, grd_t (by rw [knsI_len, cK_len, hl]), C2, bnd_t, getT2_t, getI_t, getI_t, M1, bnd_t, getT2_t]
  unfold rwN at M2 W1 W2 ⊢
  rw [getL_t, getI_t, M2, bnd_t, getT2_t, getL_t, getI_t]
  have zz : ((0 : Int) != 0) = false := rfl
  rw [brn_f zz, brn_f zz, brn_f zz, brn_f zz, brn_f (by simp), brn_f (bne_eq_false_iff_eq.2 (by omega)), W1, bnd_t, getT2_t, getL_t, getI_t, W2, bnd_t, getT2_t, getL_t, getI_t]
  have is : ((upT K.length).find? (blk (nmK (tf n t) (qT K.length u) K))).isSome = ((upT K.length).find? (blk K)).isSome := by
    have := congrArg Option.isSome ws
    simpa using this
  have le : (((upT K.length).find? (blk (nmK (tf n t) (qT K.length u) K))).getD []).length = (((upT K.length).find? (blk K)).getD []).length := by
    revert ws
    cases (upT K.length).find? (blk (nmK (tf n t) (qT K.length u) K)) <;> cases (upT K.length).find? (blk K) <;> simp
  rw [is, le, brn_t (by simp), brn_t (by simp), bi, brn_t ?_, w, bnd_t, getB_t]
  cases hc : chs K apt <;> simp
  omega
end Go.Proofs.YtnponojgpkbagaaDoor
namespace Go.Proofs.YtnponojgpkbagaaDoor
open Go.V
theorem u8_of {x : PV} (h : PT tab 5 [x]) : ∃ n : Nat, x = .int .u8 (n : Int) ∧ n ≤ 255 := by
  obtain ⟨a, e, b1, b2⟩ := h.int' tl5 rfl
  cases e
  simp [IntKind.min, IntKind.max, IntKind.signed, IntKind.bits] at b1 b2
  exact ⟨a.toNat, by congr 1; omega, by omega⟩
theorem u16_of {x : List PV} (h : PT tab 52 x) : ∃ n : Int, x = [.int .u16 n] := by
  obtain ⟨a, e, _⟩ := h.int' tl52 rfl
  exact ⟨a, e⟩
theorem gang_of {qs : List PV} (h : PT tab 55 qs) : ∃ (x y : Nat) (X0 X1 X2 X3 X4 : Int), qs = [.int .u8 (x : Int), .int .u8 (y : Int), .int .u16 X0, .int .u16 X1, .int .u16 X2, .int .u16 X3, .int .u16 X4] ∧ x ≤ 255 ∧ y ≤ 255 := by
  obtain ⟨a, rs, rfl, ha, h⟩ := (h.structs tl55 rfl).cons'
  obtain ⟨b, rs, rfl, hb, h⟩ := h.cons'
  obtain ⟨c, rs, rfl, hc, h⟩ := h.cons'
  obtain rfl := h.nil'
  obtain ⟨a', ea, _⟩ := ha.int' tl5 rfl
  obtain ⟨b', eb, _⟩ := hb.int' tl5 rfl
  subst ea; subst eb
  obtain ⟨x, ex, hx⟩ := u8_of ha
  obtain ⟨y, ey, hy⟩ := u8_of hb
  obtain ⟨xs, rfl, hl, hxs⟩ := hc.arr' tl53 rfl
  match xs, hl with
  | [x0, x1, x2, x3, x4], _ =>
    obtain ⟨X0, rfl⟩ := u16_of (hxs x0 (by simp))
    obtain ⟨X1, rfl⟩ := u16_of (hxs x1 (by simp))
    obtain ⟨X2, rfl⟩ := u16_of (hxs x2 (by simp))
    obtain ⟨X3, rfl⟩ := u16_of (hxs x3 (by simp))
    obtain ⟨X4, rfl⟩ := u16_of (hxs x4 (by simp))
    refine ⟨x, y, X0, X1, X2, X3, X4, ?_, hx, hy⟩
    rw [ex, ey]; rfl
theorem by13_of {qs : List PV} (h : PT tab 69 qs) : ∃ b0 b1 b2 b3 b4 : Nat, qs = [.int .u8 (b0 : Int), .int .u8 (b1 : Int), .int .u8 (b2 : Int), .int .u8 (b3 : Int), .int .u8 (b4 : Int)] ∧ b0 ≤ 255 ∧ b1 ≤ 255 ∧ b2 ≤ 255 ∧ b3 ≤ 255 ∧ b4 ≤ 255 := by
  have u8 : ∀ {x : List PV}, PT tab 5 x → ∃ n : Nat, x = [.int .u8 (n : Int)] ∧ n ≤ 255 := fun {x} h => by
    obtain ⟨a, e, b1, b2⟩ := h.int' tl5 rfl
    simp [IntKind.min, IntKind.max, IntKind.signed, IntKind.bits] at b1 b2
    exact ⟨a.toNat, by rw [e]; congr 2; omega, by omega⟩
  obtain ⟨xs, rfl, hl, hxs⟩ := h.arr' tl69 rfl
  match xs, hl with
  | [x0, x1, x2, x3, x4], _ =>
    obtain ⟨b0, rfl, h0⟩ := u8 (hxs x0 (by simp))
    obtain ⟨b1, rfl, h1⟩ := u8 (hxs x1 (by simp))
    obtain ⟨b2, rfl, h2⟩ := u8 (hxs x2 (by simp))
    obtain ⟨b3, rfl, h3⟩ := u8 (hxs x3 (by simp))
    obtain ⟨b4, rfl, h4⟩ := u8 (hxs x4 (by simp))
    exact ⟨b0, b1, b2, b3, b4, rfl, h0, h1, h2, h3, h4⟩
theorem con13 (x0 : List PV) (h0 : PT tab 55 x0) (x1 : List PV) (h1 : PT tab 69 x1) (x2 : PV) (h2 : PT tab 5 [x2]) : FnP Tryd.prog 13 [.agg x0, .agg x1, x2] (.bool true) := by
  obtain ⟨x, y, X0, X1, X2, X3, X4, rfl, hx, hy⟩ := gang_of h0
  obtain ⟨b0, b1, b2, b3, b4, rfl, h0, h1, h2', h3, h4⟩ := by13_of h1
  obtain ⟨u, rfl, hu⟩ := u8_of h2
  exact c13 2000 _ _ _ _ (law13 x y hx hy X0 X1 X2 X3 X4 b0 b1 b2 b3 b4 h0 h1 h2' h3 h4 u hu)
end Go.Proofs.YtnponojgpkbagaaDoor
namespace Go.Proofs.YtnponojgpkbagaaDoor.crewNamed
open Go.ChangeShapes Go.WideShapes Go.ChangeAt Go.RowKit Go.V
theorem own : ownKnob Tryd.prog.godebug = none := by kernel_rfl
theorem laid : laidOutB Tryd.prog = true := by kernel_rfl
set_option maxRecDepth 100000 in
theorem lifted (os : Os) (started : os.Started) (H : Type) (enc : TypeId × Value → H) :
    ReturnsInHanded {} Tryd.checked os 13 .any (fun w args => (Rows.crewNamedSpec.pre enc Tryd.prog Tryd.f13 [] false w args ∧ laidMetH Tryd.prog [("math/bits.deBruijn32tab", Rows.laid_math_bits_deBruijn32tab), ("math/bits.deBruijn64tab", Rows.laid_math_bits_deBruijn64tab)] w) ∧ sizedMet enc Tryd.prog Tryd.f13 (OpenSpec.ofChange Rows.crewNamedSpec) false w args)
      (Rows.crewNamedSpec.post enc Tryd.prog Tryd.f13 false true false false) := by
  refine returnsInHanded_of_change_and (C := Tryd.checked) (X := fun w _ => laidMetH Tryd.prog [("math/bits.deBruijn32tab", Rows.laid_math_bits_deBruijn32tab), ("math/bits.deBruijn64tab", Rows.laid_math_bits_deBruijn64tab)] w) (fun _ _ _ hh h => h.of_heap hh) own started (by kernel_rfl) Tryd.func13
    (ChangeSpec.witness_shaped (enc := enc) (C := Tryd.checked) (os := os) (X := fun w _ => laidMetH Tryd.prog [("math/bits.deBruijn32tab", Rows.laid_math_bits_deBruijn32tab), ("math/bits.deBruijn64tab", Rows.laid_math_bits_deBruijn64tab)] w) false (World.laidAll Tryd.prog os [("math/bits.deBruijn32tab", Rows.laid_math_bits_deBruijn32tab), ("math/bits.deBruijn64tab", Rows.laid_math_bits_deBruijn64tab)]) #[.agg #[.int .u8 0, .int .u8 0, .int .u16 0, .int .u16 0, .int .u16 0, .int .u16 0, .int .u16 0], .agg #[.int .u8 0, .int .u8 0, .int .u8 0, .int .u8 0, .int .u8 0], .int .u8 0] 8 (World.laidAll_os _ _ _)
      (World.shaped_of_ZipB (by kernel_rfl) (by kernel_rfl)) (by kernel_rfl) (by kernel_rfl) (by kernel_rfl)
      (by rw [MakeChecks.laidMetH_plain _ _ _ (by kernel_rfl)]; exact laidMet_laidAll _ (by kernel_rfl) (by kernel_rfl))) ?_
  intro W base args ds gs before hval0 hW _ _ hL _
  have hW' := hW
  obtain ⟨p, q, hA0, hV, rfl, hfz, hnd⟩ := hW
  have hA : DataW.TrodAll enc Tryd.prog W 0 (fun _ => true) true Tryd.f13.params.toList args.toList ds p := hA0
  rw [Tryd.params13] at hA
  obtain ⟨v0, vs0, d0, ds0, p0, q0, e0, rfl, rfl, h0, hr0⟩ := trodAll_cons hA
  obtain ⟨v1, vs1, d1, ds1, p1, q1, e1, rfl, rfl, h1, hr1⟩ := trodAll_cons hr0
  obtain ⟨v2, vs2, d2, ds2, p2, q2, e2, rfl, rfl, h2, hr2⟩ := trodAll_cons hr1
  obtain ⟨rfl, rfl, rfl⟩ := trodAll_nil hr2
  subst e2
  subst e1
  obtain rfl : args = #[v0, v1, v2] := by cases args; simp_all
  obtain ⟨x0, k0, t0⟩ := arg_agg (n := 8) tab_ok (hval0 0 55 v0 rfl rfl) h0 (by kernel_rfl) (by kernel_rfl)
  obtain ⟨x1, k1, t1⟩ := arg_agg (n := 8) tab_ok (hval0 1 69 v1 rfl rfl) h1 (by kernel_rfl) (by kernel_rfl)
  obtain ⟨x2, k2, t2⟩ := arg_one (n := 8) tab_ok (hval0 2 5 v2 rfl rfl) h2 (by kernel_rfl) (by kernel_rfl)
  obtain ⟨rfl, rfl⟩ := trodVars_none hV
  clear hA0 hval0
  simp only [List.append_nil] at hW'
  refine (FnP.calls (W := W) (vals := #[v0, v1, v2]) (con13 x0 t0 x1 t1 x2 t2) (.cons _ _ _ _ k0 (.cons _ _ _ _ k1 (.cons _ _ _ _ k2 .nil))) (laidG hL)).mono fun e W' ⟨he, hg⟩ => ?_
  subst he
  exact ⟨_, rfl, post_of_kept (pv := []) hW' (fun _ _ _ => trodAll_cons_mk (shut_bool Tryd.underlying4 _) trodAll_mk0) (fun sp hsp => trodAll_cons_mk (Kept.trod hg laid (by kernel_rfl) (of_decide_eq_true (by kernel_rfl)) h0 (fun y hy => hsp y (by simp [hy]))) (trodAll_cons_mk (Kept.trod hg laid (by kernel_rfl) (of_decide_eq_true (by kernel_rfl)) h1 (fun y hy => hsp y (by simp [hy]))) (trodAll_cons_mk (Kept.trod hg laid (by kernel_rfl) (of_decide_eq_true (by kernel_rfl)) h2 (fun y hy => hsp y (by simp [hy]))) (trodAll_mk0)))) (fun _ _ => rfl) (by simp)
    hg (ok_one (by kernel_rfl) rfl (okWide_bool_mk Tryd.underlying4 _))⟩
theorem over : Rows.crewNamedRow.holds Tryd.pinned (OpenSpec.ofChange Rows.crewNamedSpec) :=
  OpenClaim.holds_of_wide 13 Tryd.f13 rfl rfl rfl rfl rfl rfl rfl ⟨rfl, rfl, rfl, rfl, rfl⟩ rfl rfl rfl rfl rfl (by kernel_rfl) Tryd.func13 (by kernel_rfl)
    (of_decide_eq_true (by kernel_rfl)) (by unfold Func.isWrapper; first | (rw [if_pos (by decide +kernel)]; kernel_rfl) | (rw [if_neg (by decide +kernel)]; exact ⟨rfl, rfl⟩))
    (fun os started H enc _ => lifted os started H enc)
theorem card : Rows.CrewNamedCardSaid :=
  Claim7.holds_tied_plain_at .later [] [.data, .data] true (true, "36f3adb999a13030bb38168af2e88bed1a560d200de820ff25b5e377fa9c04d7") true (over) (fun _ h => by cases h) (by kernel_rfl) (fun _ h => by cases h) crewNamed_row_tie rfl ⟨rfl, rfl⟩ (by kernel_rfl) rfl
    (fun f fn hf hfn => by
      obtain rfl : f = 13 := Option.some.inj ((show Tryd.prog.funcNamed "breeze/breezelaw10.CrewNamed" = some 13 by kernel_rfl).symm.trans hf) |>.symm
      obtain rfl : fn = Tryd.f13 := (Option.some.inj (Tryd.func13.symm.trans hfn)).symm
      exact ⟨by kernel_rfl, fun j t ht => by
        rw [Tryd.params13] at ht
        rcases j with _ | _ | _ | j
        · obtain rfl : t = 55 := by simpa using ht.symm
          exact (show Tryd.prog.wantsStandIn 55 = false by kernel_rfl)
        · obtain rfl : t = 69 := by simpa using ht.symm
          exact (show Tryd.prog.wantsStandIn 69 = false by kernel_rfl)
        · obtain rfl : t = 5 := by simpa using ht.symm
          exact (show Tryd.prog.wantsStandIn 5 = false by kernel_rfl)
        · simp at ht⟩)
    (by kernel_rfl)
end Go.Proofs.YtnponojgpkbagaaDoor.crewNamed
namespace Go.Proofs.YtnponojgpkbagaaDoor
/-- the statement -/
theorem crewNamed_holds : Rows.CrewNamedCardSaid := crewNamed.card
#print axioms crewNamed_holds
end Go.Proofs.YtnponojgpkbagaaDoor
