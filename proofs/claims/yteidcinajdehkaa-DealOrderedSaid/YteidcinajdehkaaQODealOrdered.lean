/-
  DealOrdered: the law returns true.
-/
import Derived.Test.YteidcinajdehkaaQODref
import Derived.Test.YteidcinajdehkaaQODmd
import Derived.Test.YteidcinajdehkaaQOOdA
import Derived.Test.YteidcinajdehkaaQOV32
import Derived.Test.YteidcinajdehkaaRows
import Derived.Test.YteidcinajdehkaaQODbase
import Derived.Test.YteidcinajdehkaaQODmA
import Derived.Test.YteidcinajdehkaaQOV31
import Derived.WalkKit
import Derived.ProofKit
import Derived.OpenShut
set_option linter.unusedSimpArgs false
set_option linter.unusedVariables false
namespace Go.Proofs.Yteidcinajdehkaa
open Go.V
set_option linter.unusedSectionVars false
set_option linter.unusedSimpArgs false
set_option linter.unusedVariables false
theorem okc_chk {L : List (List Int)} {c : Nat} (h : Okc L c) : chk L = 0 ∧ lgL L = false ∧ (ro L 0).length = c := by
  have h1 := h.r1
  have h3 := h.r3
  have c1 := h.c1
  have c4 := h.c4
  have hr := h.row
  have hv := h.val
  have l0 := hr 0 (by omega)
  have hm : ∀ r ∈ L, r.length = c ∧ r.any (bad 0 20) = false := fun r hr' => by
    obtain ⟨i, hi, rfl⟩ := List.getElem_of_mem hr'
    have e : ro L i = L[i] := by simp [ro, List.getD, hi]
    have a := hr i hi
    rw [e] at a
    refine ⟨a, List.any_eq_false.2 fun x hx => ?_⟩
    obtain ⟨j, hj, rfl⟩ := List.getElem_of_mem hx
    have b := hv i j hi (by omega)
    rw [e] at b
    have e2 : en L[i] j = L[i][j] := by simp [en, List.getD, hj]
    rw [e2] at b
    simp only [bad, Bool.or_eq_true, decide_eq_true_eq, not_or]
    omega
  have hz : ∀ K : List (List Int), (∀ r ∈ K, r.length = c ∧ r.any (bad 0 20) = false) → chR c K = 0 := by
    intro K
    induction K with
    | nil => intro _; rfl
    | cons r rs ih =>
      intro hK
      obtain ⟨a, b⟩ := hK r (by simp)
      rw [chR, if_neg (by simpa using a), if_neg (by simp [b])]
      exact ih fun x hx => hK x (by simp [hx])
  refine ⟨?_, ?_, l0⟩
  · unfold chk
    rw [if_neg (by omega), if_neg (by omega), if_neg (by omega), if_neg (by omega), l0]
    exact hz L hm
  · unfold lgL
    rw [Bool.or_eq_false_iff]
    refine ⟨by simp; omega, List.any_eq_false.2 fun r hr' => ?_⟩
    have := (hm r hr').1
    simp; omega
theorem crk88 (N : Nat) (L : List (List Int)) (r c : Nat) (hL : Tbl L r c) (i k j l : Nat) (hi : i < r) (hk : k < r) (hj : j < c) (hl : l < c) :
    m88 N (.lst false r (rwsP L)) (i : Int) (k : Int) (j : Int) (l : Int) = some (.bool (crB (cst L) i k j l)) := by
  have hrl := rws_len L
  have hlen := hL.len
  have l1 := hL.row _ hi
  have l2 := hL.row _ hk
  have i1 := iL_len (ro L i)
  have i2 := iL_len (ro L k)
  have v1 := hL.val _ _ hi hj
  have v2 := hL.val _ _ hk hl
  have v3 := hL.val _ _ hi hl
  have v4 := hL.val _ _ hk hj
  simp only [m88, getL, toNatN]
  rw [grd_t ⟨by omega, by omega⟩, grd_t (by simp only [List.length_drop]; omega), rws_gp (by omega)]
  simp only []
  rw [grd_t ⟨by omega, by omega⟩, grd_t (by simp only [List.length_drop]; omega), iL_gp (by omega)]
  simp only [getI, if_true]
  rw [grd_t ⟨by omega, by omega⟩, grd_t (by simp only [List.length_drop]; omega), rws_gp (by omega)]
  simp only []
  rw [grd_t ⟨by omega, by omega⟩, grd_t (by simp only [List.length_drop]; omega), iL_gp (by omega)]
  simp only [if_true]
  rw [grd_t (by omega), grd_t (by simp only [List.length_drop]; omega), iL_gp (by omega)]
  simp only [if_true]
  rw [grd_t (by omega), grd_t (by simp only [List.length_drop]; omega), iL_gp (by omega)]
  simp only [if_true]
  rw [wrap64 (n := en (ro L i) j + en (ro L k) l) (by omega) (by omega), wrap64 (n := en (ro L i) l + en (ro L k) j) (by omega) (by omega)]
  rfl
def oB : Option (Nat × Nat × Nat × Nat) → PV ⊕ Unit
  | some x => .inl (rwN (q4 x))
  | none => .inr ()
theorem bt_L3 (N : Nat) (L : List (List Int)) (r c : Nat) (hL : Tbl L r c) (i k j : Nat) (hi : i < r) (hk : k < r) (hj : j < c) : ∀ (s l fuel : Nat), c - l = s → s < fuel →
    m47_L3 N r (rwsP L) (i : Int) (k : Int) c (j : Int) fuel (l : Int) = some (oB (fL3 (cst L) c i k j l))
  | s, l, 0, _, h => by omega
  | s, l, f + 1, hs, hf => by
    have c4 := hL.c4
    rw [m47_L3]
    unfold fL3
    by_cases h : l < c
    · have ih := bt_L3 N L r c hL i k j hi hk hj (s - 1) (l + 1) f (by omega) (by omega)
      rw [brn_t (by simp; omega), crk88 N L r c hL i k j l hi hk hj h]
      simp only [bnd', getB]
      rw [fs_step h]
      cases hc : crB (cst L) i k j l with
      | true => rw [brn_t rfl]; simp only [m51, getL, if_true]; rfl
      | false => rw [brn_f rfl, wrapN (by omega), ih]; rfl
    · rw [brn_f (by simp; omega), fs_end h]; rfl
theorem bt_L2 (N : Nat) (hN : 2000 ≤ N) (L : List (List Int)) (r c : Nat) (hL : Tbl L r c) (i k : Nat) (hi : i < r) (hk : k < r) : ∀ (s j fuel : Nat), c - j = s → s < fuel →
    m47_L2 N r (rwsP L) (i : Int) (k : Int) c fuel (j : Int) = some (oB (fL2 (cst L) c i k j))
  | s, j, 0, _, h => by omega
  | s, j, f + 1, hs, hf => by
    have c4 := hL.c4
    rw [m47_L2]
    unfold fL2
    by_cases h : j < c
    · have ih := bt_L2 N hN L r c hL i k hi hk (s - 1) (j + 1) f (by omega) (by omega)
      have h3 := bt_L3 N L r c hL i k j hi hk h (c - (j + 1)) (j + 1) N rfl (by omega)
      rw [brn_t (by simp; omega), wrapN (by omega), h3, fs_step h]
      cases fL3 (cst L) c i k j (j + 1) with
      | some x => rfl
      | none => simp only [oB, bnd']; rw [ih]; rfl
    · rw [brn_f (by simp; omega), fs_end h]; rfl
theorem bt_L1 (N : Nat) (hN : 2000 ≤ N) (L : List (List Int)) (r c : Nat) (hL : Tbl L r c) (i : Nat) (hi : i < r) : ∀ (s k fuel : Nat), r - k = s → s < fuel →
    m47_L1 N r (rwsP L) (i : Int) fuel (k : Int) = some (oB (fL1 (cst L) r c i k))
  | s, k, 0, _, h => by omega
  | s, k, f + 1, hs, hf => by
    have hrl := rws_len L
    have hlen := hL.len
    have r1 := hL.r1
    have r3 := hL.r3
    have c4 := hL.c4
    have l0 := hL.row 0 (by omega)
    rw [m47_L1]
    unfold fL1
    by_cases h : k < r
    · have ih := bt_L1 N hN L r c hL i hi (s - 1) (k + 1) f (by omega) (by omega)
      have h3 := bt_L2 N hN L r c hL i k hi h c 0 N (by omega) (by omega)
      rw [brn_t (by simp; omega), wrapN (by omega), grd_t (by omega), grd_t (by omega), rws_gp (by omega)]
      simp only [getL, l0]
      rw [show m47_L2 N r (rwsP L) (i : Int) (k : Int) c N 0 = _ from h3, fs_step h]
      cases fL2 (cst L) c i k 0 with
      | some x => rfl
      | none => simp only [oB, bnd']; rw [ih]; rfl
    · rw [brn_f (by simp; omega), fs_end h]; rfl
theorem bt_L0 (N : Nat) (hN : 2000 ≤ N) (L : List (List Int)) (r c : Nat) (hL : Tbl L r c) : ∀ (s i fuel : Nat), r - i = s → s < fuel →
    m47_L0 N r (rwsP L) fuel (i : Int) = some (oB (fL0 (cst L) r c i))
  | s, i, 0, _, h => by omega
  | s, i, f + 1, hs, hf => by
    have r3 := hL.r3
    rw [m47_L0]
    unfold fL0
    by_cases h : i < r
    · have ih := bt_L0 N hN L r c hL (s - 1) (i + 1) f (by omega) (by omega)
      have h3 := bt_L1 N hN L r c hL i h (r - (i + 1)) (i + 1) N rfl (by omega)
      rw [brn_t (by simp; omega), wrapN (by omega), h3, fs_step h]
      cases fL1 (cst L) r c i (i + 1) with
      | some x => rfl
      | none => simp only [oB, bnd']; rw [ih]; rfl
    · rw [brn_f (by simp; omega), fs_end h]; rfl
def btP : Option (Nat × Nat × Nat × Nat) → PV
  | some x => rwN (q4 x)
  | none => .nl
theorem bent_ok (N : Nat) (hN : 2000 ≤ N) (L : List (List Int)) (r c : Nat) (hL : Tbl L r c) : m47 N (.lst false r (rwsP L)) = some (btP (crk (cst L) r c)) := by
  have r3 := hL.r3
  have h := bt_L0 N hN L r c hL r 0 N (by omega) (by omega)
  simp only [m47, getL]
  rw [show m47_L0 N r (rwsP L) N 0 = _ from h]
  show bnd' (some (oB (crk (cst L) r c))) _ = _
  cases crk (cst L) r c <;> rfl
theorem idx_L (N : Nat) (x : Nat) (l : List Nat) (hl : l.length ≤ 100) : ∀ (s i fuel : Nat), l.length - i = s → s < fuel →
    (if (l.drop i).contains x then ∃ k : Nat, k ≤ 100 ∧ m102_L0 N (x : Int) l.length (nL l) fuel (i : Int) = some (.inl (.int .i64 (k : Int))) else m102_L0 N (x : Int) l.length (nL l) fuel (i : Int) = some (.inr ()))
  | s, i, 0, _, h => by omega
  | s, i, f + 1, hs, hf => by
    have hn := nL_len l
    rw [m102_L0]
    by_cases hi : i < l.length
    · have ih := idx_L N x l hl (s - 1) (i + 1) f (by omega) (by omega)
      rw [brn_t (by simp; omega), toNatN, grd_t ⟨by omega, by omega⟩, grd_t (by simp only [List.length_drop]; omega), nL_gp hi, drop_nn hi, List.contains_cons]
      simp only [getI, if_true]
      by_cases h : x = nn l i
      · rw [if_pos (by simp [h]), brn_t (by simp [h])]
        exact ⟨i, by omega, rfl⟩
      · have e : ((x : Int) == (nn l i : Int)) = false := by rw [beq_eq_false_iff_ne]; omega
        rw [brn_f e, wrapN (by omega)]
        have e2 : (x == nn l i) = false := by rw [beq_eq_false_iff_ne]; exact h
        rw [e2, Bool.false_or]; exact ih
    · rw [brn_f (by simp; omega), List.drop_eq_nil_of_le (by omega)]; rfl
theorem contains_ok (N : Nat) (hN : 2000 ≤ N) (x : Nat) (l : List Nat) (hl : l.length ≤ 100) : m90 N (.lst false l.length (nL l)) (x : Int) = some (.bool (l.contains x)) := by
  have h := idx_L N x l hl l.length 0 N (by omega) (by omega)
  rw [List.drop_zero] at h
  simp only [m90, m102, getL]
  cases hc : l.contains x with
  | true =>
    rw [hc, if_pos rfl] at h
    obtain ⟨k, hk, e⟩ := h
    rw [show m102_L0 N (x : Int) l.length (nL l) N 0 = _ from e]
    simp only [bnd', getI, if_true, Option.some.injEq, PV.bool.injEq, decide_eq_true_eq]
    omega
  | false =>
    rw [hc, if_neg (by simp)] at h
    rw [show m102_L0 N (x : Int) l.length (nL l) N 0 = _ from h]
    simp [bnd', getI]
def exs (n : Nat) : Nat → List Nat → List (List Nat)
  | 0, l => [l]
  | k + 1, l => (List.range n).flatMap fun x => if l.contains x then [] else exs n k (l ++ [x])
def exF (n k : Nat) (l : List Nat) (i : Nat) : List (List Nat) := (List.range' i (n - i)).flatMap fun x => if l.contains x then [] else exs n k (l ++ [x])
theorem exF_step {n k : Nat} {l : List Nat} {i : Nat} (h : i < n) : exF n k l i = (if l.contains i then [] else exs n k (l ++ [i])) ++ exF n k l (i + 1) := by
  unfold exF; rw [range'_step h, List.flatMap_cons]
theorem exF_end {n k : Nat} {l : List Nat} {i : Nat} (h : ¬ i < n) : exF n k l i = [] := by
  unfold exF; rw [show n - i = 0 by omega]; rfl
theorem exF_zero {n k : Nat} {l : List Nat} : exF n k l 0 = exs n (k + 1) l := by
  rw [exs, exF, List.range_eq_range']; rfl
theorem exs_prs (n : Nat) (h1 : 1 ≤ n) (h4 : n ≤ 4) : exs n n [] = prs n := by
  have h : n = 1 ∨ n = 2 ∨ n = 3 ∨ n = 4 := by omega
  rcases h with rfl | rfl | rfl | rfl <;> decide +kernel
abbrev StO := Bool × List Nat × List Nat
def stp (L : List (List Int)) (A : List Nat) (s : StO) (B : List Nat) : StO := if s.1 then s else if qB L A B then (true, A, B) else s
def stP (s : StO) : Bool × PV × PV := (s.1, rwN s.2.1, rwN s.2.2)
section
variable (N : Nat) (hN : 2000 ≤ N) (L : List (List Int)) (c : Nat) (hL : Okc L c)
include hN hL
theorem vis_L1 (A B : List Nat) (hA : A.length = L.length ∧ ∀ a ∈ A, a < L.length) (hB : B.length = c ∧ ∀ b ∈ B, b < c) (p q : PV) (n4192 : Nat) (x4193 : Int) (c4194 : List PV) (i : Nat) (hi : i < L.length) : ∀ (s j fuel : Nat), c - j = s → j ≤ c → s < fuel →
    m58_6_L1 N p q B.length (nL B) A.length (nL A) L.length (rwsP L) n4192 x4193 c4194 (nn A i : Int) fuel j (j : Int) (iL (putR L (B.take j) (nn A i))) = some (c, iL (putR L B (nn A i)))
  | s, j, 0, _, _, h => by omega
  | s, j, f + 1, hs, hj, hf => by
    have c4 := hL.c4
    have r3 := hL.r3
    have hrl := rws_len L
    have ia := nL_len A
    have ib := nL_len B
    obtain ⟨qa, qb⟩ := hB
    obtain ⟨pa, pb⟩ := hA
    rw [m58_6_L1]
    by_cases h : j < c
    · have ih := vis_L1 A B ⟨pa, pb⟩ ⟨qa, qb⟩ p q n4192 x4193 c4194 i hi (s - 1) (j + 1) f (by omega) (by omega) (by omega)
      have x1 := pb _ (nn_mem (X := A) (i := i) (by omega))
      have x2 := qb _ (nn_mem (X := B) (i := j) (by omega))
      have l1 := hL.row _ x1
      have l2 := iL_len (ro L (nn A i))
      rw [brn_t (by simp; omega), toNatN, toNatN, grd_t ⟨by omega, by omega⟩, grd_t (by simp only [List.length_drop]; omega), nL_gp (by omega)]
      simp only [getI, if_true, toNatN]
      rw [grd_t ⟨by omega, by omega⟩, grd_t (by simp only [List.length_drop]; omega), rws_gp (by omega)]
      simp only [getL]
      rw [grd_t ⟨by omega, by omega⟩, grd_t (by simp only [List.length_drop]; omega), iL_gp (by omega)]
      simp only [if_true]
      rw [grd_t (by omega), grd_t (by simp only [iL, putR, List.length_map, List.length_take]; omega), wrapN (by omega)]
      have e : iL (putR L (B.take j) (nn A i)) ++ [PV.int .i64 (en (ro L (nn A i)) (nn B j))] = iL (putR L (B.take (j + 1)) (nn A i)) := by
        rw [List.take_add_one]
        have : B[j]? = some (nn B j) := by simp [nn, List.getD, show j < B.length by omega]
        rw [this]
        simp [iL, putR, cst]
      rw [e]; exact ih
    · rw [brn_f (by simp; omega), List.take_of_length_le (by omega)]
      rw [show j = c by omega]
theorem vis_L0 (A B : List Nat) (hA : A.length = L.length ∧ ∀ a ∈ A, a < L.length) (hB : B.length = c ∧ ∀ b ∈ B, b < c) (p q : PV) : ∀ (s i fuel : Nat), L.length - i = s → i ≤ L.length → s < fuel →
    m58_6_L0 N p q B.length (nL B) A.length (nL A) L.length (rwsP L) fuel i (i : Int) (rwsP (put L (A.take i) B)) = some (L.length, rwsP (put L A B))
  | s, i, 0, _, _, h => by omega
  | s, i, f + 1, hs, hi, hf => by
    have c4 := hL.c4
    have r3 := hL.r3
    have ia := nL_len A
    have pa := hA.1
    have qa := hB.1
    rw [m58_6_L0]
    by_cases h : i < L.length
    · have ih := vis_L0 A B hA hB p q (s - 1) (i + 1) f (by omega) (by omega) (by omega)
      have h3 := vis_L1 N hN L c hL A B hA hB p q i (i : Int) (rwsP (put L (A.take i) B)) i h c 0 N (by omega) (by omega) (by omega)
      rw [brn_t (by simp; omega), toNatN, grd_t ⟨by omega, by omega⟩, grd_t (by simp only [List.length_drop]; omega), nL_gp (by omega)]
      simp only [getI, if_true]
      rw [show m58_6_L1 N p q B.length (nL B) A.length (nL A) L.length (rwsP L) i (i : Int) (rwsP (put L (A.take i) B)) (nn A i : Int) N 0 0 [] = _ from h3]
      simp only [bnd']
      rw [grd_t (by omega), grd_t (by simp only [rwsP, put, List.length_map, List.length_take]; omega), grd_t (by simp only [iL, putR, List.length_map]; omega), wrapN (by omega)]
      have e : rwsP (put L (A.take i) B) ++ [PV.lst false c (iL (putR L B (nn A i)))] = rwsP (put L (A.take (i + 1)) B) := by
        rw [List.take_add_one]
        have : A[i]? = some (nn A i) := by simp [nn, List.getD, show i < A.length by omega]
        rw [this]
        simp [rwsP, put, putR, rwP, iL, qa]
      rw [e]; exact ih
    · rw [brn_f (by simp; omega), List.take_of_length_le (by omega)]
      rw [show i = L.length by omega]
theorem clo53 (X : List Nat) (h : 1 ≤ X.length) (h2 : X.length ≤ 1000) : m53_2 N (rwN X) = some (rwN X) := by
  have := nL_len X
  simp only [m53_2, rwN, getL]
  rw [grd_t (by omega), grd_t (by omega), grd_t (by omega)]
theorem visit_ok (A B : List Nat) (hA : A.length = L.length ∧ ∀ a ∈ A, a < L.length) (hB : B.length = c ∧ ∀ b ∈ B, b < c) (s : StO) :
    m58_6 N (rwN B) (rwN A) (.lst false L.length (rwsP L)) s.1 (rwN s.2.1) (rwN s.2.2) = some (.tup [], stP (stp L A s B)) := by
  have c1 := hL.c1
  have c4 := hL.c4
  have r1 := hL.r1
  have r3 := hL.r3
  obtain ⟨b, p, q⟩ := s
  simp only [m58_6, rwN, getL]
  cases b with
  | true => rw [brn_t rfl]; rfl
  | false =>
    have h0 := vis_L0 N hN L c hL A B hA hB (rwN p) (rwN q) L.length 0 N (by omega) (by omega) (by omega)
    have ht := bent_ok N hN _ _ _ (put_tbl L c hL A B hA.2 hA.1 hB.2 hB.1)
    have hq := put_q L c hL A B hA.2 hA.1 hB.2 hB.1
    have ca := clo53 N hN L c hL A (by omega) (by omega)
    have cb := clo53 N hN L c hL B (by omega) (by omega)
    simp only [rwN] at h0 ca cb
    rw [brn_f rfl, show m58_6_L0 N (PV.lst false p.length (nL p)) (PV.lst false q.length (nL q)) B.length (nL B) A.length (nL A) L.length (rwsP L) N 0 0 [] = _ from h0]
    simp only [bnd']
    rw [grd_t (by simp only [rwsP, put, List.length_map]; omega), ht]
    simp only [stp, Bool.false_eq_true, if_false]
    cases e : crk (cst (put L A B)) L.length c with
    | none =>
      rw [e] at hq
      have hq' : qB L A B = true := by rw [← hq]; rfl
      rw [if_pos hq']
      simp only [btP, getN, ca, cb, getL]
      rfl
    | some x =>
      rw [e] at hq
      rw [if_neg (by rw [← hq]; simp)]
      simp only [btP, rwN, getN]
      rw [grd_t (by simp [q4])]
      rfl
theorem inn_L (A : List Nat) (hA : A.length = L.length ∧ ∀ a ∈ A, a < L.length) : ∀ (k : Nat) (l : List Nat) (fu : Nat) (s : StO), l.length + k = c → k < fu → (∀ x ∈ l, x < c) →
    m89_8 N fu (rwN l) (c : Int) (rwN A) (.lst false L.length (rwsP L)) s.1 (rwN s.2.1) (rwN s.2.2) = some (.tup [], stP ((exs c k l).foldl (stp L A) s))
  | _, _, 0, _, _, h, _ => by omega
  | 0, l, f + 1, s, h1, h2, h3 => by
    have hv := visit_ok N hN L c hL A l hA ⟨by omega, h3⟩ s
    simp only [m89_8]
    rw [show rwN l = PV.lst false l.length (nL l) from rfl] at hv ⊢
    simp only [getL]
    rw [brn_t (by rw [beq_iff_eq]; omega), hv]
    rfl
  | k + 1, l, f + 1, s, h1, h2, h3 => by
    have c4 := hL.c4
    have ilen := nL_len l
    have loop : ∀ (d i fuel : Nat) (s : StO), c - i = d → i ≤ c → d < fuel →
        m89_8_L0 N (m89_8 N f) (c : Int) (rwN A) (.lst false L.length (rwsP L)) l.length (nL l) fuel (i : Int) s.1 (rwN s.2.1) (rwN s.2.2) = some (stP ((exF c k l i).foldl (stp L A) s)) := by
      intro d
      induction d with
      | zero =>
        intro i fuel s hd hi hf
        obtain ⟨g, rfl⟩ : ∃ g, fuel = g + 1 := ⟨fuel - 1, by omega⟩
        rw [m89_8_L0, brn_f (by simp; omega), exF_end (by omega)]
        rfl
      | succ d ih =>
        intro i fuel s hd hi hf
        obtain ⟨g, rfl⟩ : ∃ g, fuel = g + 1 := ⟨fuel - 1, by omega⟩
        rw [m89_8_L0, brn_t (by simp; omega), contains_ok N hN i l (by omega), exF_step (by omega)]
        simp only [bnd', getB]
        cases hc : l.contains i with
        | true =>
          rw [brn_t rfl, wrapN (by omega), if_pos rfl, List.nil_append]
          exact ih (i + 1) g s (by omega) (by omega) (by omega)
        | false =>
          have hr := inn_L A hA k (l ++ [i]) f s (by simp; omega) (by omega) (fun x hx => by
            rcases List.mem_append.1 hx with hx | hx
            · exact h3 x hx
            · simp at hx; omega)
          rw [brn_f rfl, grd_t ⟨by omega, by omega⟩, grd_t (by omega), grd_t (by omega), nL_app, rwN_app, hr, wrapN (by omega), if_neg (by simp), List.foldl_append]
          exact ih (i + 1) g _ (by omega) (by omega) (by omega)
    have h0 := loop c 0 N s (by omega) (by omega) (by omega)
    simp only [m89_8]
    rw [show rwN l = PV.lst false l.length (nL l) from rfl]
    simp only [getL]
    rw [brn_f (by rw [beq_eq_false_iff_ne]; omega), show m89_8_L0 N (m89_8 N f) (c : Int) (rwN A) (.lst false L.length (rwsP L)) l.length (nL l) N 0 s.1 (rwN s.2.1) (rwN s.2.2) = _ from h0, exF_zero]
    rfl
theorem inner_ok (A : List Nat) (hA : A.length = L.length ∧ ∀ a ∈ A, a < L.length) (s : StO) :
    m57_3 N (rwN A) (c : Int) (.lst false L.length (rwsP L)) s.1 (rwN s.2.1) (rwN s.2.2) = some (.tup [], stP ((prs c).foldl (stp L A) s)) := by
  have c1 := hL.c1
  have c4 := hL.c4
  have loop : ∀ (d i fuel : Nat) (s : StO), c - i = d → i ≤ c → d < fuel →
      m89_10_L0 N (c : Int) (rwN A) (.lst false L.length (rwsP L)) fuel (i : Int) s.1 (rwN s.2.1) (rwN s.2.2) = some (stP ((exF c (c - 1) [] i).foldl (stp L A) s)) := by
    intro d
    induction d with
    | zero =>
      intro i fuel s hd hi hf
      obtain ⟨g, rfl⟩ : ∃ g, fuel = g + 1 := ⟨fuel - 1, by omega⟩
      rw [m89_10_L0, brn_f (by simp; omega), exF_end (by omega)]
      rfl
    | succ d ih =>
      intro i fuel s hd hi hf
      obtain ⟨g, rfl⟩ : ∃ g, fuel = g + 1 := ⟨fuel - 1, by omega⟩
      have hc := contains_ok N hN i [] (by simp)
      have hr := inn_L N hN L c hL A hA (c - 1) [i] N s (by simp; omega) (by omega) (fun x hx => by simp at hx; omega)
      rw [m89_10_L0, brn_t (by simp; omega), show m90 N (.lst false 0 []) (i : Int) = _ from hc, exF_step (by omega)]
      simp only [bnd', getB]
      rw [brn_f (by simp), show m89_8 N N (.lst false 1 [.int .i64 (i : Int)]) _ _ _ _ _ _ = _ from hr, wrapN (by omega), if_neg (by simp), List.foldl_append]
      exact ih (i + 1) g _ (by omega) (by omega) (by omega)
  have h0 := loop c 0 N s (by omega) (by omega) (by omega)
  rw [exF_zero, show c - 1 + 1 = c by omega, exs_prs c c1 c4] at h0
  simp only [m57_3, m56_4, m89_10]
  rw [show getL (rwN A) = getL (PV.lst false A.length (nL A)) from rfl]
  simp only [getL]
  rw [brn_f (by rw [beq_eq_false_iff_ne]; omega), show m89_10_L0 N (c : Int) (PV.lst false A.length (nL A)) (.lst false L.length (rwsP L)) N 0 s.1 (rwN s.2.1) (rwN s.2.2) = _ from h0]
  rfl
def ouS (L : List (List Int)) (c : Nat) (s : StO) (A : List Nat) : StO := (prs c).foldl (stp L A) s
theorem out_L : ∀ (k : Nat) (l : List Nat) (fu : Nat) (s : StO), l.length + k = L.length → k < fu → (∀ x ∈ l, x < L.length) →
    m89_9 N fu (rwN l) (L.length : Int) (c : Int) (.lst false L.length (rwsP L)) s.1 (rwN s.2.1) (rwN s.2.2) = some (.tup [], stP ((exs L.length k l).foldl (ouS L c) s))
  | _, _, 0, _, _, h, _ => by omega
  | 0, l, f + 1, s, h1, h2, h3 => by
    have hv := inner_ok N hN L c hL l ⟨by omega, h3⟩ s
    simp only [m89_9]
    rw [show rwN l = PV.lst false l.length (nL l) from rfl] at hv ⊢
    simp only [getL]
    rw [brn_t (by rw [beq_iff_eq]; omega), hv]
    rfl
  | k + 1, l, f + 1, s, h1, h2, h3 => by
    have r3 := hL.r3
    have ilen := nL_len l
    have loop : ∀ (d i fuel : Nat) (s : StO), L.length - i = d → i ≤ L.length → d < fuel →
        m89_9_L0 N (m89_9 N f) (L.length : Int) (c : Int) (.lst false L.length (rwsP L)) l.length (nL l) fuel (i : Int) s.1 (rwN s.2.1) (rwN s.2.2) = some (stP ((exF L.length k l i).foldl (ouS L c) s)) := by
      intro d
      induction d with
      | zero =>
        intro i fuel s hd hi hf
        obtain ⟨g, rfl⟩ : ∃ g, fuel = g + 1 := ⟨fuel - 1, by omega⟩
        rw [m89_9_L0, brn_f (by simp; omega), exF_end (by omega)]
        rfl
      | succ d ih =>
        intro i fuel s hd hi hf
        obtain ⟨g, rfl⟩ : ∃ g, fuel = g + 1 := ⟨fuel - 1, by omega⟩
        rw [m89_9_L0, brn_t (by simp; omega), contains_ok N hN i l (by omega), exF_step (by omega)]
        simp only [bnd', getB]
        cases hc : l.contains i with
        | true =>
          rw [brn_t rfl, wrapN (by omega), if_pos rfl, List.nil_append]
          exact ih (i + 1) g s (by omega) (by omega) (by omega)
        | false =>
          have hr := out_L k (l ++ [i]) f s (by simp; omega) (by omega) (fun x hx => by
            rcases List.mem_append.1 hx with hx | hx
            · exact h3 x hx
            · simp at hx; omega)
          rw [brn_f rfl, grd_t ⟨by omega, by omega⟩, grd_t (by omega), grd_t (by omega), nL_app, rwN_app, hr, wrapN (by omega), if_neg (by simp), List.foldl_append]
          exact ih (i + 1) g _ (by omega) (by omega) (by omega)
    have h0 := loop L.length 0 N s (by omega) (by omega) (by omega)
    simp only [m89_9]
    rw [show rwN l = PV.lst false l.length (nL l) from rfl]
    simp only [getL]
    rw [brn_f (by rw [beq_eq_false_iff_ne]; omega), show m89_9_L0 N (m89_9 N f) (L.length : Int) (c : Int) (.lst false L.length (rwsP L)) l.length (nL l) N 0 s.1 (rwN s.2.1) (rwN s.2.2) = _ from h0, exF_zero]
    rfl
theorem outer_ok : m56 N (L.length : Int) (c : Int) (.lst false L.length (rwsP L)) false = some (.tup [], stP ((prs L.length).foldl (ouS L c) (false, [], []))) := by
  have r1 := hL.r1
  have r3 := hL.r3
  have loop : ∀ (d i fuel : Nat) (s : StO), L.length - i = d → i ≤ L.length → d < fuel →
      m89_L0 N (L.length : Int) (c : Int) (.lst false L.length (rwsP L)) fuel (i : Int) s.1 (rwN s.2.1) (rwN s.2.2) = some (stP ((exF L.length (L.length - 1) [] i).foldl (ouS L c) s)) := by
    intro d
    induction d with
    | zero =>
      intro i fuel s hd hi hf
      obtain ⟨g, rfl⟩ : ∃ g, fuel = g + 1 := ⟨fuel - 1, by omega⟩
      rw [m89_L0, brn_f (by simp; omega), exF_end (by omega)]
      rfl
    | succ d ih =>
      intro i fuel s hd hi hf
      obtain ⟨g, rfl⟩ : ∃ g, fuel = g + 1 := ⟨fuel - 1, by omega⟩
      have hc := contains_ok N hN i [] (by simp)
      have hr := out_L N hN L c hL (L.length - 1) [i] N s (by simp; omega) (by omega) (fun x hx => by simp at hx; omega)
      rw [m89_L0, brn_t (by simp; omega), show m90 N (.lst false 0 []) (i : Int) = _ from hc, exF_step (by omega)]
      simp only [bnd', getB]
      rw [brn_f (by simp), show m89_9 N N (.lst false 1 [.int .i64 (i : Int)]) _ _ _ _ _ _ = _ from hr, wrapN (by omega), if_neg (by simp), List.foldl_append]
      exact ih (i + 1) g _ (by omega) (by omega) (by omega)
  have h0 := loop L.length 0 N (false, [], []) (by omega) (by omega) (by omega)
  rw [exF_zero, show L.length - 1 + 1 = L.length by omega, exs_prs _ r1 (by omega)] at h0
  simp only [m56, m89]
  rw [brn_f (by rw [beq_eq_false_iff_ne]; omega), show m89_L0 N (L.length : Int) (c : Int) (.lst false L.length (rwsP L)) N 0 false (.lst false 0 []) (.lst false 0 []) = _ from h0]
  rfl
end
theorem fold_in (L : List (List Int)) (A : List Nat) : ∀ (Q : List (List Nat)) (s : StO), Q.foldl (stp L A) s = if s.1 then s else match Q.find? (qB L A) with | some B => (true, A, B) | none => s
  | [], s => by simp
  | B :: Q, s => by
    rw [List.foldl_cons, fold_in L A Q, List.find?_cons]
    obtain ⟨b, p, q⟩ := s
    unfold stp
    cases b with
    | true => rfl
    | false =>
      cases e : qB L A B with
      | true => rfl
      | false => rfl
theorem fold_out (L : List (List Int)) (c : Nat) : ∀ (P : List (List Nat)) (s : StO), P.foldl (ouS L c) s = if s.1 then s else match P.findSome? (fun A => ((prs c).find? (qB L A)).map fun B => (A, B)) with | some x => (true, x.1, x.2) | none => s
  | [], s => by simp
  | A :: P, s => by
    rw [List.foldl_cons, fold_out L c P, List.findSome?_cons]
    obtain ⟨b, p, q⟩ := s
    unfold ouS
    rw [fold_in]
    cases b with
    | true => rfl
    | false =>
      cases e : (prs c).find? (qB L A) with
      | some B => rfl
      | none => rfl
theorem law14 (Y : List Nat) (hY : Y.length = 37) (hb : ∀ k, nn Y k < 256) : m14 2000 (.agg (yL Y)) = some (.bool true) := by
  obtain ⟨L, c, H, W, e1, hL, h2, h3, h4, h5, _⟩ := made_ok 2000 (by omega) Y hY hb
  have ly := yL_len Y
  have r1 := hL.r1
  have r3 := hL.r3
  have c1 := hL.c1
  have hrl := rws_len L
  obtain ⟨k1, k2, k3⟩ := okc_chk hL
  have o1 := orders_ok 2000 (by omega) L k2
  have o2 := outer_ok 2000 (by omega) L c hL
  obtain ⟨x1, x2⟩ := ordE_len L
  rw [m14, ga_t, grd_t (by omega), List.take_of_length_le (by omega), e1]
  simp only [bnd', getT2, getL, getA2]
  rw [grd_t (by omega), grd_t (by omega), rws_gp (by omega), k3]
  simp only [o1, o2, getT3, rwN, getL, getI, if_true]
  rw [fold_out, if_neg (by simp)]
  have q1 := same_ok (ordE L).1 x1
  have q2 := same_ok (ordE L).2.1 x2
  have oe : ordE L = match (prs L.length).findSome? (fun A => ((prs c).find? (qB L A)).map fun B => (A, B)) with | some x => (x.1, x.2, 0) | none => ([], [], 12) := by
    unfold ordE
    rw [if_neg (by simpa using k1), k3]
    rfl
  rw [oe] at q1 q2 ⊢
  cases e : (prs L.length).findSome? (fun A => ((prs c).find? (qB L A)).map fun B => (A, B)) with
  | some x =>
    rw [e] at q1 q2
    simp only [stP, getT0, rwN, getL] at q1 q2 ⊢
    rw [brn_t rfl, brn_t (by rfl)]
    simp only [q1, q2, getB]
    rw [brn_t rfl, brn_t rfl]
    simp [m17]
  | none =>
    simp only [stP, getT0]
    rw [brn_f rfl, brn_t (by rfl), brn_t (by rfl)]
    simp [m17, getB]
end Go.Proofs.Yteidcinajdehkaa
namespace Go.Proofs.Yteidcinajdehkaa
open Go.V
def Oc (x : List PV) (n : Nat) : Prop := ∃ G : List Nat, x = yL G ∧ G.length = n ∧ ∀ y ∈ G, y < 256
theorem Oc.app {a b : List PV} {m n : Nat} (h : Oc a m) (g : Oc b n) : Oc (a ++ b) (m + n) := by
  obtain ⟨A, rfl, la, ba⟩ := h
  obtain ⟨B, rfl, lb, bb⟩ := g
  refine ⟨A ++ B, by simp [yL], by simp [la, lb], fun y hy => ?_⟩
  rcases List.mem_append.1 hy with hy | hy
  · exact ba y hy
  · exact bb y hy
theorem Oc.one {x : List PV} (h : PT tab 5 x) : Oc x 1 := by
  obtain ⟨a, e, h1, h2⟩ := h.int' tl5 rfl
  have h1' : (0 : Int) ≤ a := h1
  have h2' : a ≤ 255 := h2
  refine ⟨[a.toNat], ?_, rfl, fun y hy => by simp at hy; omega⟩
  rw [e]
  simp only [yL, List.map_cons, List.map_nil]
  rw [show ((a.toNat : Nat) : Int) = a by omega]
theorem Oc.flat {m : Nat} : ∀ (xs : List (List PV)), (∀ x ∈ xs, Oc x m) → Oc xs.flatten (xs.length * m)
  | [], _ => ⟨[], rfl, by simp, by simp⟩
  | x :: xs, h => by
    have ih := Oc.flat xs fun y hy => h y (.tail _ hy)
    have := (h x (.head _)).app ih
    rw [List.flatten_cons, List.length_cons, Nat.succ_mul, Nat.add_comm]
    exact this
theorem Oc.arr {t m e k : Nat} {i : TI} {x : List PV} (h : PT tab t x) (hi : tl tab t = some i) (hk : i.k = .arr m e) (he : ∀ y, PT tab e y → Oc y k) : Oc x (m * k) := by
  obtain ⟨xs, rfl, hl, hx⟩ := h.arr' hi hk
  rw [← hl]
  exact Oc.flat xs fun y hy => he y (hx y hy)
theorem nn_lt {G : List Nat} (h : ∀ y ∈ G, y < 256) (i : Nat) : nn G i < 256 := by
  unfold nn
  by_cases g : i < G.length
  · rw [List.getD_eq_getElem?_getD, List.getElem?_eq_getElem g]
    exact h _ (List.getElem_mem g)
  · rw [List.getD_eq_getElem?_getD, List.getElem?_eq_none (by omega)]
    show 0 < 256
    omega
theorem yard_of {x : List PV} (h : PT tab 70 x) : ∃ Y : List Nat, x = yL Y ∧ Y.length = 37 ∧ ∀ k, nn Y k < 256 := by
  have h := h.structs tl70 rfl
  obtain ⟨x1, r, rfl, h1, h⟩ := h.cons'
  obtain ⟨x2, r, rfl, h2, h⟩ := h.cons'
  obtain ⟨x3, r, rfl, h3, h⟩ := h.cons'
  obtain ⟨x4, r, rfl, h4, h⟩ := h.cons'
  obtain ⟨x5, r, rfl, h5, h⟩ := h.cons'
  obtain ⟨x6, r, rfl, h6, h⟩ := h.cons'
  obtain ⟨x7, r, rfl, h7, h⟩ := h.cons'
  obtain ⟨x8, r, rfl, h8, h⟩ := h.cons'
  obtain rfl := h.nil'
  have o4 : Oc x4 12 := Oc.arr h4 tl65 rfl fun y hy => Oc.arr hy tl64 rfl fun z hz => Oc.one hz
  have o5 : Oc x5 3 := Oc.arr h5 tl66 rfl fun z hz => Oc.one hz
  have o6 : Oc x6 4 := Oc.arr h6 tl64 rfl fun z hz => Oc.one hz
  have o7 : Oc x7 14 := Oc.arr h7 tl68 rfl fun y hy => Oc.arr hy tl67 rfl fun z hz => Oc.one hz
  have o0 : Oc ([] : List PV) 0 := ⟨[], rfl, rfl, by simp⟩
  obtain ⟨Y, e, l, b⟩ := (Oc.one h1).app ((Oc.one h2).app ((Oc.one h3).app (o4.app (o5.app (o6.app (o7.app ((Oc.one h8).app o0)))))))
  exact ⟨Y, e, l, fun k => nn_lt b k⟩
theorem con14 (x0 : List PV) (h0 : PT tab 70 x0) : FnP Try.prog 14 [.agg x0] (.bool true) := by
  obtain ⟨Y, rfl, l, b⟩ := yard_of h0
  exact c14 2000 _ _ (law14 Y l b)
end Go.Proofs.Yteidcinajdehkaa
namespace Go.Proofs.Yteidcinajdehkaa.dealOrdered
open Go.ChangeShapes Go.WideShapes Go.ChangeAt Go.RowKit Go.V
theorem own : ownKnob Try.prog.godebug = none := by kernel_rfl
theorem laid : laidOutB Try.prog = true := by kernel_rfl
set_option maxRecDepth 100000 in
theorem lifted (os : Os) (started : os.Started) (H : Type) (enc : TypeId × Value → H) :
    ReturnsInHanded {} Try.checked os 14 .any (Rows.dealOrderedSpec.pre6 enc Try.prog Try.f14 Rows.dealOrderedRow.domain false) (Rows.dealOrderedSpec.post enc Try.prog Try.f14 false true false false) := by
  refine returnsInHanded_of_change (C := Try.checked) own started (by kernel_rfl) Try.func14
    (ChangeSpec.witness6 (enc := enc) (C := Try.checked) false ⟨#[], #[.agg #[.int .u8 0, .int .u8 0, .int .u8 0, .int .u8 0, .int .u8 0, .int .u8 0, .int .u8 0, .int .u8 0, .int .u8 0, .int .u8 0, .int .u8 0, .int .u8 0, .int .u8 0, .int .u8 0, .int .u8 0, .int .u8 0, .int .u8 0, .int .u8 0, .int .u8 0, .int .u8 0, .int .u8 0, .int .u8 0, .int .u8 0, .int .u8 0, .int .u8 0, .int .u8 0, .int .u8 0, .int .u8 0, .int .u8 0, .int .u8 0, .int .u8 0, .int .u8 0, .int .u8 0, .int .u8 0, .int .u8 0, .int .u8 0, .int .u8 0]], []⟩ 8 (by kernel_rfl) (by kernel_rfl) (by kernel_rfl) (by kernel_rfl)) ?_
  intro W base args ds gs before hval0 hW hcnd _
  have hW' := hW
  obtain ⟨p, q, hA0, hV, rfl, hfz, hnd⟩ := hW
  have hA : DataW.TrodAll enc Try.prog W 0 (fun _ => true) true Try.f14.params.toList args.toList ds p := hA0
  rw [Try.params14] at hA
  obtain ⟨v0, vs0, d0, ds0, p0, q0, e0, rfl, rfl, h0, hr0⟩ := trodAll_cons hA
  obtain ⟨rfl, rfl, rfl⟩ := trodAll_nil hr0
  obtain rfl : args = #[v0] := by cases args; simp_all
  obtain ⟨x0, k0, t0⟩ := arg_agg (n := 8) tab_ok (hval0 0 70 v0 rfl rfl) h0 (by kernel_rfl) (by kernel_rfl)
  obtain ⟨rfl, rfl⟩ := trodVars_none hV
  clear hA0 hval0
  simp only [List.append_nil] at hW'
  refine (FnP.calls (W := W) (vals := #[v0]) (con14 x0 t0) (.cons _ _ _ _ k0 .nil) (fun x hx => by simp [Gv] at hx)).mono fun e W' ⟨he, hg⟩ => ?_
  subst he
  exact ⟨_, rfl, post_of_kept (pv := []) hW' (fun _ _ _ => trodAll_cons_mk (shut_bool Try.underlying4 _) trodAll_mk0) (fun sp hsp => trodAll_cons_mk (Kept.trod hg laid (by kernel_rfl) (of_decide_eq_true (by kernel_rfl)) h0 (fun y hy => hsp y (by simp [hy]))) (trodAll_mk0)) (fun _ _ => rfl) (by simp)
    hg (ok_one (by kernel_rfl) rfl (okWide_bool_mk Try.underlying4 _))⟩
theorem over : Rows.dealOrderedRow.holds Try.pinned (OpenSpec.ofChange Rows.dealOrderedSpec) :=
  OpenClaim.holds_of_wide 14 Try.f14 rfl rfl rfl rfl rfl rfl rfl ⟨rfl, rfl, rfl, rfl, rfl⟩ rfl rfl rfl rfl rfl (by kernel_rfl) Try.func14 (by kernel_rfl)
    (of_decide_eq_true (by kernel_rfl)) (by unfold Func.isWrapper; first | (rw [if_pos (by decide +kernel)]; kernel_rfl) | (rw [if_neg (by decide +kernel)]; exact ⟨rfl, rfl⟩))
    (fun os started H enc _ => lifted os started H enc)
end Go.Proofs.Yteidcinajdehkaa.dealOrdered
namespace Go.Proofs.Yteidcinajdehkaa
/-- the statement -/
theorem dealOrdered_holds : Rows.DealOrderedSaid := dealOrdered.over
#print axioms dealOrdered_holds
end Go.Proofs.Yteidcinajdehkaa
