/-
  DealFinds: the law returns true.
-/
import Derived.Test.YteidcinajdehkaaQFDchv
import Derived.Test.YteidcinajdehkaaQFV32
import Derived.Test.YteidcinajdehkaaRows
import Derived.Test.YteidcinajdehkaaQFCstA
import Derived.Test.YteidcinajdehkaaQFEaA
import Derived.Test.YteidcinajdehkaaQFChA
import Derived.Test.YteidcinajdehkaaQFV31
import Derived.WalkKit
import Derived.ProofKit
import Derived.OpenShut
set_option linter.unusedSimpArgs false
set_option linter.unusedVariables false
namespace Go.Proofs.Yteidcinajdehkaa
open Go.V
set_option linter.unusedSimpArgs false
set_option linter.unusedVariables false
set_option linter.unusedSectionVars false
set_option maxRecDepth 100000
section r1
variable (N : Nat) (hN : 2000 ≤ N) (W : List Nat) (h0 : Nat) (hL : Ldn [h0] W) (L : List (List Int)) (c : Nat) (hC : Okc L c) (hLr : L.length = 1) (hc : W.length = c)
include hN hL hC hLr hc
theorem hwh1_0 (a : StC) (f : Nat)  (R0 : List Nat) (f0 : R0.length = W.length) (k0 : leL R0 W) :
    m72_2_L14 N (.lst false L.length (rwsP L)) (rwN W) (nL [h0]) W.length (nL W) 0 W.length W.length (nL W) (ce1 R0) (o9 a) (x9 a) (rwN [h0]) (f + 1) 0  = (match nxt R0 W with | some q => some (.inl (ce1 q)) | none => some (.inr (.tup [], o9 a, x9 a, (rwN [h0])))) := by
    have w4 := hL.w4
    skip
    have v5 := k0.le5 hL.w5
    have nx := nx1_0 N hN W.length R0 W f0 rfl w4 v5
    rw [m72_2_L14, kj_t rfl, show PV.lst false W.length (nL W) = rwN W from rfl, nx]
    cases nxt R0 W with
    | some q => rfl
    | none => rfl
theorem hfo1_0 (a : StC) (f : Nat) (R0 : List Nat) (f0 : R0.length = W.length) (k0 : leL R0 W) :
    m72_2_L13 N (.lst false L.length (rwsP L)) (rwN W) (nL [h0]) W.length (nL W) 0 W.length W.length (nL W) (f + 1) 0 (o9 a) (x9 a) (rwN [h0]) (ce1 R0) = (match nxt R0 W with | some q => m72_2_L13 N (.lst false L.length (rwsP L)) (rwN W) (nL [h0]) W.length (nL W) 0 W.length W.length (nL W) f 0 (o9 (chpV L [R0] a)) (x9 (chpV L [R0] a)) (rwN [h0]) (ce1 q) | none => some (.tup [], o9 (chpV L [R0] a), x9 (chpV L [R0] a), (rwN [h0]))) := by
  have e1 := hvi1 N hN W h0 hL L c hC hLr hc a R0 f0 k0
  have e2 := hwh1_0 N hN W h0 hL L c hC hLr hc (chpV L [R0] a) (N - 1) R0 f0 k0
  rw [show N - 1 + 1 = N by omega] at e2
  rw [m72_2_L13, brn_t (by rfl), e1, bj_t]
  dsimp only
  rw [gjT, show m72_2_L14 N (.lst false L.length (rwsP L)) (rwN W) (nL [h0]) W.length (nL W) 0 W.length W.length (nL W) (ce1 R0) (o9 (chpV L [R0] a)) (x9 (chpV L [R0] a)) (rwN [h0]) N 0  = _ from e2]
  cases nxt R0 W with
  | some q => rfl
  | none =>
    rfl
theorem hex1    : ∀ (n : Nat) (R0 : List Nat) (a : StC) (fuel : Nat), (aft R0 W).length = n → leL R0 W → n + 2 ≤ fuel →
    ∃ X : List Nat, X.length = W.length ∧ m72_2_L13 N (.lst false L.length (rwsP L)) (rwN W) (nL [h0]) W.length (nL W) 0 W.length W.length (nL W) fuel 0 (o9 a) (x9 a) (rwN [h0]) (ce1 R0) = some (.tup [], o9 ((R0 :: aft R0 W).foldl (fun a R => (chpV L [R] a)) a), x9 ((R0 :: aft R0 W).foldl (fun a R => (chpV L [R] a)) a), (rwN [h0]))
  | n, R0, a, 0, _, _, hf => by omega
  | n, R0, a, fz + 1, hn, k0, hf => by
    skip
    have f0 : R0.length = W.length := k0.len
    have x := nxt_ok R0 W k0
    have e := hfo1_0 N hN W h0 hL L c hC hLr hc a fz R0 f0 k0
    cases q : nxt R0 W with
    | some q' =>
      rw [q] at x e
      obtain ⟨y1, y2, y3⟩ := x
      rw [y1] at hn
      obtain ⟨n', rfl⟩ : ∃ n', n = n' + 1 := ⟨n - 1, by simp at hn; omega⟩
      obtain ⟨X, z1, z2⟩ := hex1    n' q' _ fz (by simpa using hn) y2 (by omega)
      refine ⟨X, z1, ?_⟩
      rw [e, y1]
      exact z2
    | none =>
      rw [q] at x e
      have x : aft R0 W = [] := x
      refine ⟨R0, f0, ?_⟩
      obtain ⟨f, rfl⟩ : ∃ f, fz = f + 1 := ⟨fz - 1, by omega⟩
      rw [e, x]
      rfl
theorem hjn1_0   (R0 : List Nat) (f0 : R0.length = W.length) : m72_2_L12 N (nL [h0]) 0 W.length (ce1 R0) W.length (nL W) 0 = some (ce1 (lst W h0).1) := by
  have w4 := hL.w4
  have h5 := hL.h5 h0 (by simp)
  have e := le1_0 N hN W.length R0 W h0 f0 rfl w4 (by omega)
  rw [m72_2_L12, kj_t rfl, grd_t (by simp [nL]), gh0, show PV.lst false W.length (nL W) = rwN W from rfl, e, bj_t]
  rfl
theorem hlb1 (a : StC) (f : Nat) (Z : List Nat) (hZ : Z.length = W.length) : m72_2_L11 N (.lst false L.length (rwsP L)) (o9 a) (x9 a) (rwN [h0]) (rwN W) (nL [h0]) W.length (nL W) 0 W.length (ce1 Z) W.length (nL W) (f + 1) 0 = some (.tup [], o9 ((dealsN [h0] W).foldl (fun a d => chpV L d a) a), x9 ((dealsN [h0] W).foldl (fun a d => chpV L d a) a), (rwN [h0])) := by
  have w4 := hL.w4
  have h5 := hL.h5 h0 (by simp)
  have hq : h0 ≤ W.sum := by have := hL.sum; simp only [List.sum_cons, List.sum_nil] at this; omega
  have hr := rows_first W h0 hq
  obtain ⟨l1, l2, l3⟩ := lst_low W h0 hq
  have hb := rows_le (ms := W) (n := h0) (by omega) h5
  rw [hr, List.length_cons] at hb
  obtain ⟨X', z1, z2⟩ := hex1 N hN W h0 hL L c hC hLr hc _ (lst W h0).1 a N rfl l3 (by omega)
  have ej := hjn1_0 N hN W h0 hL L c hC hLr hc Z hZ
  rw [m72_2_L11, ej, bj_t, z2, bj_t, foldl_one, hr]
theorem heach1 (hM : 2000000 ≤ N) (a : StC) : m72_2 N (.agg [rwN [h0], rwN W]) (.lst false L.length (rwsP L)) (o9 a) (x9 a) (rwN [h0]) (rwN W) = some (.tup [], o9 ((dealsN [h0] W).foldl (fun a d => chpV L d a) a), x9 ((dealsN [h0] W).foldl (fun a d => chpV L d a) a), (rwN [h0])) := by
  have w1 := hL.w1
  have w4 := hL.w4
  have e1 := tb1 N W.length w4 (nL [h0]) (nL W)
  have e2 := clq_ok N W (by omega) (by omega)
  have e3 := hlb1 N hN W h0 hL L c hC hLr hc a (N - 1) (List.replicate W.length 0) (by simp)
  rw [show N - 1 + 1 = N by omega] at e3
  rw [m72_2, gjA2, gjL, gjL, kjN_t (by rfl), e1, bj_t]
  dsimp only
  rw [e2, bj_t]
  dsimp only
  rw [grd_t (nL_len W), show m72_2_L11 N (.lst false L.length (rwsP L)) (o9 a) (x9 a) (rwN [h0]) (rwN W) (nL [h0]) W.length (nL W) 0 W.length (ce1 (List.replicate W.length 0)) W.length (nL W) N 0  = _ from e3, bj_t]
end r1
section r2
variable (N : Nat) (hN : 2000 ≤ N) (W : List Nat) (h0 h1 : Nat) (hL : Ldn [h0, h1] W) (L : List (List Int)) (c : Nat) (hC : Okc L c) (hLr : L.length = 2) (hc : W.length = c)
include hN hL hC hLr hc
theorem hcs2_0 (a : StC) (p1 : PV) (R0 R1 M : List Nat) (f0 : R0.length = W.length) (f1 : R1.length = W.length) (lM : M.length = W.length) (m5 : ∀ x ∈ M, x ≤ 5) (hl : leL R0 M) : ∀ (s j fuel : Nat), M.length - j = s → j ≤ M.length → s < fuel →
    m72_2_L10 N (.lst false L.length (rwsP L)) (rwN W) (nL [h0, h1]) W.length (nL W) 0 W.length W.length W.length W.length (nL W) (o9 a) (x9 a) (rwN [h0, h1]) (ce2 R0 R1) M.length fuel (j : Int) (nL ((subN M R0).take j ++ M.drop j)) = some (nL (subN M R0))
  | s, j, 0, _, _, h => by omega
  | s, j, f + 1, hs, hj, hf => by
    have w4 := hL.w4
    have hsl := subN_len hl.len
    have lc := ce2_len R0 R1
    skip
    rw [m72_2_L10]
    by_cases h : j < M.length
    · have ih := hcs2_0 a p1 R0 R1 M f0 f1 lM m5 hl (s - 1) (j + 1) f (by omega) (by omega) (by omega)
      obtain ⟨s1, s2, s3⟩ := sub_step hl h
      have v1 := hl.nn j h
      have v2 := m5 _ (nn_mem h)
      rw [brn_t (by simp; omega), toNatN, grd_t ⟨by omega, by omega⟩, grd_t (by omega), gv2_0 W.length R0 R1 f0 f1 j (by omega), grd_t (by omega), grd_t (by rw [nL_len, s1]; omega), gN (by rw [s1]; omega), s2, grd_t (by rw [nL_len, s1]; omega), wrapN (by omega), wrap64 (n := (nn M j : Int) - (nn R0 j : Int)) (by omega) (by omega), show (nn M j : Int) - (nn R0 j : Int) = ((nn M j - nn R0 j : Nat) : Int) by omega, nL_set, s3]
      exact ih
    · rw [brn_f (by simp; omega), List.take_of_length_le (by omega), List.drop_of_length_le (by omega), List.append_nil]
theorem hwh2_0 (a : StC) (f : Nat) (p1 : PV) (R0 R1 : List Nat) (f0 : R0.length = W.length) (f1 : R1.length = W.length) (k0 : leL R0 W) :
    m72_2_L9 N (.lst false L.length (rwsP L)) (rwN W) (nL [h0, h1]) W.length (nL W) 0 W.length W.length W.length W.length (nL W) (o9 a) (x9 a) (rwN [h0, h1]) (f + 1) 0 p1 (ce2 R0 R1) = (match nxt R0 W with | some q => some (.inl (0, p1, (ce2 q R1))) | none => some (.inr (.tup [], o9 a, x9 a, (rwN [h0, h1])))) := by
    have w4 := hL.w4
    skip
    have v5 := k0.le5 hL.w5
    have nx := nx2_0 N hN W.length R0 R1 W f0 f1 rfl w4 v5
    rw [m72_2_L9, kj_t rfl, show PV.lst false W.length (nL W) = rwN W from rfl, nx]
    cases nxt R0 W with
    | some q => rfl
    | none => rfl
theorem hwh2_1 (a : StC) (f : Nat)  (R0 R1 : List Nat) (f0 : R0.length = W.length) (f1 : R1.length = W.length) (k0 : leL R0 W) (k1 : leL R1 (subN W R0)) :
    m72_2_L9 N (.lst false L.length (rwsP L)) (rwN W) (nL [h0, h1]) W.length (nL W) 0 W.length W.length W.length W.length (nL W) (o9 a) (x9 a) (rwN [h0, h1]) (f + 2) 1 (rwN (subN W R0)) (ce2 R0 R1) = (match nxt R1 (subN W R0) with | some q => some (.inl (1, (rwN (subN W R0)), (ce2 R0 q))) | none => (match nxt R0 W with | some q => some (.inl (0, (rwN (subN W R0)), (ce2 q R1))) | none => some (.inr (.tup [], o9 a, x9 a, (rwN [h0, h1]))))) := by
    have w4 := hL.w4
    have g1 := subN_len k0.len
    have v5 := k1.le5 (k0.sub.le5 hL.w5)
    have nx := nx2_1 N hN W.length R0 R1 (subN W R0) f0 f1 (by omega) w4 v5
    rw [m72_2_L9, kj_f (by decide), kj_t rfl, gjL, show PV.lst false ((subN W R0)).length (nL (subN W R0)) = rwN (subN W R0) from rfl, nx]
    cases nxt R1 (subN W R0) with
    | some q => rfl
    | none => exact hwh2_0 N hN W h0 h1 hL L c hC hLr hc a f  (rwN (subN W R0)) R0 R1 f0 f1 k0
theorem hfo2_0 (a : StC) (f : Nat) (p1 : PV) (R0 R1 : List Nat) (f0 : R0.length = W.length) (f1 : R1.length = W.length) (k0 : leL R0 W) :
    m72_2_L8 N (.lst false L.length (rwsP L)) (rwN W) (nL [h0, h1]) W.length (nL W) 0 W.length W.length W.length W.length (nL W) (f + 1) 0 (o9 a) (x9 a) (rwN [h0, h1]) p1 (ce2 R0 R1) = some (.inr (1, o9 a, x9 a, (rwN [h0, h1]), (rwN (subN W R0)), (ce2 R0 R1))) := by
  have w1 := hL.w1
  have w4 := hL.w4
  have g0 : W.length = W.length := rfl
  have hs := subN_len k0.len
  have e1 := clq_ok N W (by omega) (by omega)
  have e2 := hcs2_0 N hN W h0 h1 hL L c hC hLr hc a p1 R0 R1 W f0 f1 g0 hL.w5 k0 (W).length 0 N (by omega) (by omega) (by omega)
  rw [List.take_zero, List.nil_append, List.drop_zero] at e2
  rw [m72_2_L8, brn_f (by rfl), kj_t rfl, e1, bj_t]
  dsimp only
  rw [show m72_2_L10 N (.lst false L.length (rwsP L)) (rwN W) (nL [h0, h1]) W.length (nL W) 0 W.length W.length W.length W.length (nL W) (o9 a) (x9 a) (rwN [h0, h1]) (ce2 R0 R1) (W).length N 0 (nL W) = _ from e2, bj_t, grd_t (by rw [nL_len]; omega)]
  simp only [rwN, hs]
theorem hfo2_1 (a : StC) (f : Nat) (R0 R1 : List Nat) (f0 : R0.length = W.length) (f1 : R1.length = W.length) (k0 : leL R0 W) (k1 : leL R1 (subN W R0)) :
    m72_2_L8 N (.lst false L.length (rwsP L)) (rwN W) (nL [h0, h1]) W.length (nL W) 0 W.length W.length W.length W.length (nL W) (f + 1) 1 (o9 a) (x9 a) (rwN [h0, h1]) (rwN (subN W R0)) (ce2 R0 R1) = (match nxt R1 (subN W R0) with | some q => m72_2_L8 N (.lst false L.length (rwsP L)) (rwN W) (nL [h0, h1]) W.length (nL W) 0 W.length W.length W.length W.length (nL W) f 1 (o9 (chpV L [R0, R1] a)) (x9 (chpV L [R0, R1] a)) (rwN [h0, h1]) (rwN (subN W R0)) (ce2 R0 q) | none => (match nxt R0 W with | some q => m72_2_L8 N (.lst false L.length (rwsP L)) (rwN W) (nL [h0, h1]) W.length (nL W) 0 W.length W.length W.length W.length (nL W) f 0 (o9 (chpV L [R0, R1] a)) (x9 (chpV L [R0, R1] a)) (rwN [h0, h1]) (rwN (subN W R0)) (ce2 q R1) | none => some (.inl (.tup [], o9 (chpV L [R0, R1] a), x9 (chpV L [R0, R1] a), (rwN [h0, h1]))))) := by
  have e1 := hvi2 N hN W h0 h1 hL L c hC hLr hc a R0 R1 f0 f1 k0 k1
  have e2 := hwh2_1 N hN W h0 h1 hL L c hC hLr hc (chpV L [R0, R1] a) (N - 2) R0 R1 f0 f1 k0 k1
  rw [show N - 2 + 2 = N by omega] at e2
  rw [m72_2_L8, brn_t (by rfl), e1, bj_t]
  dsimp only
  rw [gjT, show m72_2_L9 N (.lst false L.length (rwsP L)) (rwN W) (nL [h0, h1]) W.length (nL W) 0 W.length W.length W.length W.length (nL W) (o9 (chpV L [R0, R1] a)) (x9 (chpV L [R0, R1] a)) (rwN [h0, h1]) N 1 (rwN (subN W R0)) (ce2 R0 R1) = _ from e2]
  cases nxt R1 (subN W R0) with
  | some q => rfl
  | none =>
    cases nxt R0 W with
    | some q => rfl
    | none =>
      rfl
theorem hex2 (R0 : List Nat) (f0 : R0.length = W.length) (k0 : leL R0 W) : ∀ (n : Nat) (R1 : List Nat) (a : StC) (fuel : Nat), (aft R1 (subN W R0)).length = n → leL R1 (subN W R0) → n + 2 ≤ fuel →
    ∃ X : List Nat, X.length = W.length ∧ m72_2_L8 N (.lst false L.length (rwsP L)) (rwN W) (nL [h0, h1]) W.length (nL W) 0 W.length W.length W.length W.length (nL W) fuel 1 (o9 a) (x9 a) (rwN [h0, h1]) (rwN (subN W R0)) (ce2 R0 R1) = (match nxt R0 W with | some q => some (.inr (1, o9 ((R1 :: aft R1 (subN W R0)).foldl (fun a R => (chpV L [R0, R] a)) a), x9 ((R1 :: aft R1 (subN W R0)).foldl (fun a R => (chpV L [R0, R] a)) a), (rwN [h0, h1]), (rwN (subN W q)), (ce2 q X))) | none => some (.inl (.tup [], o9 ((R1 :: aft R1 (subN W R0)).foldl (fun a R => (chpV L [R0, R] a)) a), x9 ((R1 :: aft R1 (subN W R0)).foldl (fun a R => (chpV L [R0, R] a)) a), (rwN [h0, h1]))))
  | n, R1, a, 0, _, _, hf => by omega
  | n, R1, a, fz + 1, hn, k1, hf => by
    have g1 := subN_len k0.len
    have f1 : R1.length = W.length := by rw [k1.len]; omega
    have x := nxt_ok R1 (subN W R0) k1
    have e := hfo2_1 N hN W h0 h1 hL L c hC hLr hc a fz R0 R1 f0 f1 k0 k1
    cases q : nxt R1 (subN W R0) with
    | some q' =>
      rw [q] at x e
      obtain ⟨y1, y2, y3⟩ := x
      rw [y1] at hn
      obtain ⟨n', rfl⟩ : ∃ n', n = n' + 1 := ⟨n - 1, by simp at hn; omega⟩
      obtain ⟨X, z1, z2⟩ := hex2 R0 f0 k0 n' q' _ fz (by simpa using hn) y2 (by omega)
      refine ⟨X, z1, ?_⟩
      rw [e, y1]
      exact z2
    | none =>
      rw [q] at x e
      have x : aft R1 (subN W R0) = [] := x
      refine ⟨R1, f1, ?_⟩
      obtain ⟨f, rfl⟩ : ∃ f, fz = f + 1 := ⟨fz - 1, by omega⟩
      rw [e, x]
      have x0 := nxt_ok R0 W k0
      cases q0 : nxt R0 W with
      | some q =>
        rw [q0] at x0
        exact hfo2_0 N hN W h0 h1 hL L c hC hLr hc _ f (rwN (subN W R0)) q R1 x0.2.1.len f1  x0.2.1
      | none =>
        rfl
theorem hjn2_0 (p1 : PV)  (R0 R1 : List Nat) (f0 : R0.length = W.length) (f1 : R1.length = W.length) : m72_2_L7 N (nL [h0, h1]) 0 W.length W.length W.length W.length (nL W) 0 p1 (ce2 R0 R1) = some (0, p1, (ce2 (lst W h0).1 R1)) := by
  have w4 := hL.w4
  have h5 := hL.h5 h0 (by simp)
  have e := le2_0 N hN W.length R0 R1 W h0 f0 f1 rfl w4 (by omega)
  rw [m72_2_L7, kj_t rfl, grd_t (by simp [nL]), gh0, show PV.lst false W.length (nL W) = rwN W from rfl, e, bj_t]
  rfl
theorem hjn2_1  (M : List Nat) (lM : M.length = W.length) (R0 R1 : List Nat) (f0 : R0.length = W.length) (f1 : R1.length = W.length) : m72_2_L7 N (nL [h0, h1]) 0 W.length W.length W.length W.length (nL W) 1 (rwN M) (ce2 R0 R1) = some (1, (rwN M), (ce2 R0 (lst M h1).1)) := by
  have w4 := hL.w4
  have h5 := hL.h5 h1 (by simp)
  have e := le2_1 N hN W.length R0 R1 M h1 f0 f1 lM w4 (by omega)
  rw [m72_2_L7, kj_f (by decide), kj_t rfl, gjL, grd_t (by simp [nL]), gh1, show PV.lst false M.length (nL M) = rwN M from rfl, e, bj_t]
  rfl
theorem heq2 : Eq2 W h0 h1 (chpV L) (fun a => (PV.tup [], o9 a, x9 a, (rwN [h0, h1]))) (fun f (i : Nat) a W1 R0 R1 => m72_2_L6 N (.lst false L.length (rwsP L)) (rwN W) (nL [h0, h1]) W.length (nL W) 0 W.length W.length W.length W.length (nL W) f ((i : Nat) : Int) (o9 a) (x9 a) (rwN [h0, h1]) (rwN W1) (ce2 R0 R1)) where
  e1 := fun f a R0 X k0 s0 hX => by
    have w4 := hL.w4
    have h5 := hL.h5 h1 (by simp)
    have f0 := k0.len
    have g1 := subN_len k0.len
    have hq : h1 ≤ (subN W R0).sum := by have := hL.sum; have s1 := subN_sum k0; simp only [List.sum_cons, List.sum_nil] at this; omega
    have hr := rows_first (subN W R0) h1 hq
    obtain ⟨l1, l2, l3⟩ := lst_low (subN W R0) h1 hq
    have hb := rows_le (ms := (subN W R0)) (n := h1) (by omega) h5
    rw [hr, List.length_cons] at hb
    obtain ⟨X', z1, z2⟩ := hex2 N hN W h0 h1 hL L c hC hLr hc R0 f0 k0 _ (lst (subN W R0) h1).1 a N rfl l3 (by omega)
    have ej := hjn2_1 N hN W h0 h1 hL L c hC hLr hc  (subN W R0) (by omega) R0 X f0 hX
    refine ⟨X', z1, ?_⟩
    have hf : f2 (chpV L) W h1 a R0 = ((lst (subN W R0) h1).1 :: aft (lst (subN W R0) h1).1 (subN W R0)).foldl (fun a R => (chpV L [R0, R] a)) a := by unfold f2; rw [hr]
    show m72_2_L6 N (.lst false L.length (rwsP L)) (rwN W) (nL [h0, h1]) W.length (nL W) 0 W.length W.length W.length W.length (nL W) (f + 1) 1 (o9 a) (x9 a) (rwN [h0, h1]) (rwN (subN W R0)) (ce2 R0 X) = _
    rw [m72_2_L6, ej, bj_t]
    dsimp only
    rw [z2, hf]
    cases nxt R0 W with
    | some q => rfl
    | none =>
      rfl
  e0 := fun f a W1 Z X hZ hX => by
    have hq : h0 ≤ W.sum := by have := hL.sum; simp only [List.sum_cons, List.sum_nil] at this; omega
    obtain ⟨l1, l2, l3⟩ := lst_low W h0 hq
    have ll := lst_len W h0
    have ej := hjn2_0 N hN W h0 h1 hL L c hC hLr hc (rwN W1) Z X hZ hX
    have ef := hfo2_0 N hN W h0 h1 hL L c hC hLr hc a (N - 1) (rwN W1) (lst W h0).1 X (by omega) hX l3
    rw [show N - 1 + 1 = N by omega] at ef
    show m72_2_L6 N (.lst false L.length (rwsP L)) (rwN W) (nL [h0, h1]) W.length (nL W) 0 W.length W.length W.length W.length (nL W) (f + 1) 0 (o9 a) (x9 a) (rwN [h0, h1]) (rwN W1) (ce2 Z X) = _
    rw [m72_2_L6, ej, bj_t]
    dsimp only
    rw [ef]
    rfl
theorem heach2 (hM : 2000000 ≤ N) (a : StC) : m72_2 N (.agg [rwN [h0, h1], rwN W]) (.lst false L.length (rwsP L)) (o9 a) (x9 a) (rwN [h0, h1]) (rwN W) = some (.tup [], o9 ((dealsN [h0, h1] W).foldl (fun a d => chpV L d a) a), x9 ((dealsN [h0, h1] W).foldl (fun a d => chpV L d a) a), (rwN [h0, h1])) := by
  have w1 := hL.w1
  have w4 := hL.w4
  have e1 := tb2 N W.length w4 (nL [h0, h1]) (nL W)
  have e2 := clq_ok N W (by omega) (by omega)
  have e3 := each2 W h0 h1 hL (chpV L) (fun a => (PV.tup [], o9 a, x9 a, (rwN [h0, h1]))) _ (heq2 N hN W h0 h1 hL L c hC hLr hc) N a [] (List.replicate W.length 0) (List.replicate W.length 0) hM (by simp) (by simp)
  skip
  rw [m72_2, gjA2, gjL, gjL, kjN_f (by simp), kjN_t (by rfl), e1, bj_t]
  dsimp only
  rw [e2, bj_t]
  dsimp only
  rw [grd_t (nL_len W), show m72_2_L6 N (.lst false L.length (rwsP L)) (rwN W) (nL [h0, h1]) W.length (nL W) 0 W.length W.length W.length W.length (nL W) N 0 (o9 a) (x9 a) (rwN [h0, h1]) (.lst false 0 []) (ce2 (List.replicate W.length 0) (List.replicate W.length 0)) = _ from e3, bj_t]
end r2
section r3
variable (N : Nat) (hN : 2000 ≤ N) (W : List Nat) (h0 h1 h2 : Nat) (hL : Ldn [h0, h1, h2] W) (L : List (List Int)) (c : Nat) (hC : Okc L c) (hLr : L.length = 3) (hc : W.length = c)
include hN hL hC hLr hc
theorem hcs3_0 (a : StC) (p1 : PV) (p2 : PV) (R0 R1 R2 M : List Nat) (f0 : R0.length = W.length) (f1 : R1.length = W.length) (f2 : R2.length = W.length) (lM : M.length = W.length) (m5 : ∀ x ∈ M, x ≤ 5) (hl : leL R0 M) : ∀ (s j fuel : Nat), M.length - j = s → j ≤ M.length → s < fuel →
    m72_2_L5 N (.lst false L.length (rwsP L)) (rwN W) (nL [h0, h1, h2]) W.length (nL W) 0 W.length W.length W.length (2 * W.length) W.length W.length (nL W) (o9 a) (x9 a) (rwN [h0, h1, h2]) p2 (ce3 R0 R1 R2) M.length fuel (j : Int) (nL ((subN M R0).take j ++ M.drop j)) = some (nL (subN M R0))
  | s, j, 0, _, _, h => by omega
  | s, j, f + 1, hs, hj, hf => by
    have w4 := hL.w4
    have hsl := subN_len hl.len
    have lc := ce3_len R0 R1 R2
    skip
    rw [m72_2_L5]
    by_cases h : j < M.length
    · have ih := hcs3_0 a p1 p2 R0 R1 R2 M f0 f1 f2 lM m5 hl (s - 1) (j + 1) f (by omega) (by omega) (by omega)
      obtain ⟨s1, s2, s3⟩ := sub_step hl h
      have v1 := hl.nn j h
      have v2 := m5 _ (nn_mem h)
      rw [brn_t (by simp; omega), toNatN, grd_t ⟨by omega, by omega⟩, grd_t (by omega), gv3_0 W.length R0 R1 R2 f0 f1 f2 j (by omega), grd_t (by omega), grd_t (by rw [nL_len, s1]; omega), gN (by rw [s1]; omega), s2, grd_t (by rw [nL_len, s1]; omega), wrapN (by omega), wrap64 (n := (nn M j : Int) - (nn R0 j : Int)) (by omega) (by omega), show (nn M j : Int) - (nn R0 j : Int) = ((nn M j - nn R0 j : Nat) : Int) by omega, nL_set, s3]
      exact ih
    · rw [brn_f (by simp; omega), List.take_of_length_le (by omega), List.drop_of_length_le (by omega), List.append_nil]
theorem hcs3_1 (a : StC) (p1 : PV) (p2 : PV) (R0 R1 R2 M : List Nat) (f0 : R0.length = W.length) (f1 : R1.length = W.length) (f2 : R2.length = W.length) (lM : M.length = W.length) (m5 : ∀ x ∈ M, x ≤ 5) (hl : leL R1 M) : ∀ (s j fuel : Nat), M.length - j = s → j ≤ M.length → s < fuel →
    m72_2_L4 N (.lst false L.length (rwsP L)) (rwN W) (nL [h0, h1, h2]) W.length (nL W) 0 W.length W.length W.length (2 * W.length) W.length W.length (nL W) (o9 a) (x9 a) (rwN [h0, h1, h2]) (ce3 R0 R1 R2) M.length (nL M) M.length fuel (j : Int) (nL ((subN M R1).take j ++ M.drop j)) = some (nL (subN M R1))
  | s, j, 0, _, _, h => by omega
  | s, j, f + 1, hs, hj, hf => by
    have w4 := hL.w4
    have hsl := subN_len hl.len
    have lc := ce3_len R0 R1 R2
    skip
    rw [m72_2_L4]
    by_cases h : j < M.length
    · have ih := hcs3_1 a p1 p2 R0 R1 R2 M f0 f1 f2 lM m5 hl (s - 1) (j + 1) f (by omega) (by omega) (by omega)
      obtain ⟨s1, s2, s3⟩ := sub_step hl h
      have v1 := hl.nn j h
      have v2 := m5 _ (nn_mem h)
      rw [brn_t (by simp; omega), toNatN, grd_t ⟨by omega, by omega⟩, grd_t (by omega), gv3_1 W.length R0 R1 R2 f0 f1 f2 j (by omega), grd_t (by omega), grd_t (by rw [nL_len, s1]; omega), gN (by rw [s1]; omega), s2, grd_t (by rw [nL_len, s1]; omega), wrapN (by omega), wrap64 (n := (nn M j : Int) - (nn R1 j : Int)) (by omega) (by omega), show (nn M j : Int) - (nn R1 j : Int) = ((nn M j - nn R1 j : Nat) : Int) by omega, nL_set, s3]
      exact ih
    · rw [brn_f (by simp; omega), List.take_of_length_le (by omega), List.drop_of_length_le (by omega), List.append_nil]
theorem hwh3_0 (a : StC) (f : Nat) (p1 : PV) (p2 : PV) (R0 R1 R2 : List Nat) (f0 : R0.length = W.length) (f1 : R1.length = W.length) (f2 : R2.length = W.length) (k0 : leL R0 W) :
    m72_2_L3 N (.lst false L.length (rwsP L)) (rwN W) (nL [h0, h1, h2]) W.length (nL W) 0 W.length W.length W.length (2 * W.length) W.length W.length (nL W) (o9 a) (x9 a) (rwN [h0, h1, h2]) (f + 1) 0 p1 p2 (ce3 R0 R1 R2) = (match nxt R0 W with | some q => some (.inl (0, p1, p2, (ce3 q R1 R2))) | none => some (.inr (.tup [], o9 a, x9 a, (rwN [h0, h1, h2])))) := by
    have w4 := hL.w4
    skip
    have v5 := k0.le5 hL.w5
    have nx := nx3_0 N hN W.length R0 R1 R2 W f0 f1 f2 rfl w4 v5
    rw [m72_2_L3, kj_t rfl, show PV.lst false W.length (nL W) = rwN W from rfl, nx]
    cases nxt R0 W with
    | some q => rfl
    | none => rfl
theorem hwh3_1 (a : StC) (f : Nat) (p2 : PV) (R0 R1 R2 : List Nat) (f0 : R0.length = W.length) (f1 : R1.length = W.length) (f2 : R2.length = W.length) (k0 : leL R0 W) (k1 : leL R1 (subN W R0)) :
    m72_2_L3 N (.lst false L.length (rwsP L)) (rwN W) (nL [h0, h1, h2]) W.length (nL W) 0 W.length W.length W.length (2 * W.length) W.length W.length (nL W) (o9 a) (x9 a) (rwN [h0, h1, h2]) (f + 2) 1 (rwN (subN W R0)) p2 (ce3 R0 R1 R2) = (match nxt R1 (subN W R0) with | some q => some (.inl (1, (rwN (subN W R0)), p2, (ce3 R0 q R2))) | none => (match nxt R0 W with | some q => some (.inl (0, (rwN (subN W R0)), p2, (ce3 q R1 R2))) | none => some (.inr (.tup [], o9 a, x9 a, (rwN [h0, h1, h2]))))) := by
    have w4 := hL.w4
    have g1 := subN_len k0.len
    have v5 := k1.le5 (k0.sub.le5 hL.w5)
    have nx := nx3_1 N hN W.length R0 R1 R2 (subN W R0) f0 f1 f2 (by omega) w4 v5
    rw [m72_2_L3, kj_f (by decide), kj_t rfl, gjL, show PV.lst false ((subN W R0)).length (nL (subN W R0)) = rwN (subN W R0) from rfl, nx]
    cases nxt R1 (subN W R0) with
    | some q => rfl
    | none => exact hwh3_0 N hN W h0 h1 h2 hL L c hC hLr hc a f  (rwN (subN W R0)) p2 R0 R1 R2 f0 f1 f2 k0
theorem hwh3_2 (a : StC) (f : Nat)  (R0 R1 R2 : List Nat) (f0 : R0.length = W.length) (f1 : R1.length = W.length) (f2 : R2.length = W.length) (k0 : leL R0 W) (k1 : leL R1 (subN W R0)) (k2 : leL R2 (subN (subN W R0) R1)) :
    m72_2_L3 N (.lst false L.length (rwsP L)) (rwN W) (nL [h0, h1, h2]) W.length (nL W) 0 W.length W.length W.length (2 * W.length) W.length W.length (nL W) (o9 a) (x9 a) (rwN [h0, h1, h2]) (f + 3) 2 (rwN (subN W R0)) (rwN (subN (subN W R0) R1)) (ce3 R0 R1 R2) = (match nxt R2 (subN (subN W R0) R1) with | some q => some (.inl (2, (rwN (subN W R0)), (rwN (subN (subN W R0) R1)), (ce3 R0 R1 q))) | none => (match nxt R1 (subN W R0) with | some q => some (.inl (1, (rwN (subN W R0)), (rwN (subN (subN W R0) R1)), (ce3 R0 q R2))) | none => (match nxt R0 W with | some q => some (.inl (0, (rwN (subN W R0)), (rwN (subN (subN W R0) R1)), (ce3 q R1 R2))) | none => some (.inr (.tup [], o9 a, x9 a, (rwN [h0, h1, h2])))))) := by
    have w4 := hL.w4
    have g1 := subN_len k0.len
    have g2 := subN_len k1.len
    have v5 := k2.le5 (k1.sub.le5 (k0.sub.le5 hL.w5))
    have nx := nx3_2 N hN W.length R0 R1 R2 (subN (subN W R0) R1) f0 f1 f2 (by omega) w4 v5
    rw [m72_2_L3, kj_f (by decide), kj_f (by decide), kj_t rfl, gjL, show PV.lst false ((subN (subN W R0) R1)).length (nL (subN (subN W R0) R1)) = rwN (subN (subN W R0) R1) from rfl, nx]
    cases nxt R2 (subN (subN W R0) R1) with
    | some q => rfl
    | none => exact hwh3_1 N hN W h0 h1 h2 hL L c hC hLr hc a f  (rwN (subN (subN W R0) R1)) R0 R1 R2 f0 f1 f2 k0 k1
theorem hfo3_0 (a : StC) (f : Nat) (p1 : PV) (p2 : PV) (R0 R1 R2 : List Nat) (f0 : R0.length = W.length) (f1 : R1.length = W.length) (f2 : R2.length = W.length) (k0 : leL R0 W) :
    m72_2_L2 N (.lst false L.length (rwsP L)) (rwN W) (nL [h0, h1, h2]) W.length (nL W) 0 W.length W.length W.length (2 * W.length) W.length W.length (nL W) (f + 1) 0 (o9 a) (x9 a) (rwN [h0, h1, h2]) p1 p2 (ce3 R0 R1 R2) = some (.inr (1, o9 a, x9 a, (rwN [h0, h1, h2]), (rwN (subN W R0)), p2, (ce3 R0 R1 R2))) := by
  have w1 := hL.w1
  have w4 := hL.w4
  have g0 : W.length = W.length := rfl
  have hs := subN_len k0.len
  have e1 := clq_ok N W (by omega) (by omega)
  have e2 := hcs3_0 N hN W h0 h1 h2 hL L c hC hLr hc a p1 p2 R0 R1 R2 W f0 f1 f2 g0 hL.w5 k0 (W).length 0 N (by omega) (by omega) (by omega)
  rw [List.take_zero, List.nil_append, List.drop_zero] at e2
  rw [m72_2_L2, brn_f (by rfl), kj_t rfl, e1, bj_t]
  dsimp only
  rw [show m72_2_L5 N (.lst false L.length (rwsP L)) (rwN W) (nL [h0, h1, h2]) W.length (nL W) 0 W.length W.length W.length (2 * W.length) W.length W.length (nL W) (o9 a) (x9 a) (rwN [h0, h1, h2]) p2 (ce3 R0 R1 R2) (W).length N 0 (nL W) = _ from e2, bj_t, grd_t (by rw [nL_len]; omega)]
  simp only [rwN, hs]
theorem hfo3_1 (a : StC) (f : Nat) (p2 : PV) (R0 R1 R2 : List Nat) (f0 : R0.length = W.length) (f1 : R1.length = W.length) (f2 : R2.length = W.length) (k0 : leL R0 W) (k1 : leL R1 (subN W R0)) :
    m72_2_L2 N (.lst false L.length (rwsP L)) (rwN W) (nL [h0, h1, h2]) W.length (nL W) 0 W.length W.length W.length (2 * W.length) W.length W.length (nL W) (f + 1) 1 (o9 a) (x9 a) (rwN [h0, h1, h2]) (rwN (subN W R0)) p2 (ce3 R0 R1 R2) = some (.inr (2, o9 a, x9 a, (rwN [h0, h1, h2]), (rwN (subN W R0)), (rwN (subN (subN W R0) R1)), (ce3 R0 R1 R2))) := by
  have w1 := hL.w1
  have w4 := hL.w4
  have g0 := subN_len k0.len
  have hs := subN_len k1.len
  have e1 := clq_ok N (subN W R0) (by omega) (by omega)
  have e2 := hcs3_1 N hN W h0 h1 h2 hL L c hC hLr hc a (rwN (subN W R0)) p2 R0 R1 R2 (subN W R0) f0 f1 f2 g0 (k0.sub.le5 hL.w5) k1 ((subN W R0)).length 0 N (by omega) (by omega) (by omega)
  rw [List.take_zero, List.nil_append, List.drop_zero] at e2
  rw [m72_2_L2, brn_f (by rfl), kj_f (by decide), kj_t rfl, gjL, e1, bj_t]
  dsimp only
  rw [show m72_2_L4 N (.lst false L.length (rwsP L)) (rwN W) (nL [h0, h1, h2]) W.length (nL W) 0 W.length W.length W.length (2 * W.length) W.length W.length (nL W) (o9 a) (x9 a) (rwN [h0, h1, h2]) (ce3 R0 R1 R2) ((subN W R0)).length (nL (subN W R0)) ((subN W R0)).length N 0 (nL (subN W R0)) = _ from e2, bj_t, grd_t (by rw [nL_len]; omega)]
  simp only [rwN, hs]
theorem hfo3_2 (a : StC) (f : Nat) (R0 R1 R2 : List Nat) (f0 : R0.length = W.length) (f1 : R1.length = W.length) (f2 : R2.length = W.length) (k0 : leL R0 W) (k1 : leL R1 (subN W R0)) (k2 : leL R2 (subN (subN W R0) R1)) :
    m72_2_L2 N (.lst false L.length (rwsP L)) (rwN W) (nL [h0, h1, h2]) W.length (nL W) 0 W.length W.length W.length (2 * W.length) W.length W.length (nL W) (f + 1) 2 (o9 a) (x9 a) (rwN [h0, h1, h2]) (rwN (subN W R0)) (rwN (subN (subN W R0) R1)) (ce3 R0 R1 R2) = (match nxt R2 (subN (subN W R0) R1) with | some q => m72_2_L2 N (.lst false L.length (rwsP L)) (rwN W) (nL [h0, h1, h2]) W.length (nL W) 0 W.length W.length W.length (2 * W.length) W.length W.length (nL W) f 2 (o9 (chpV L [R0, R1, R2] a)) (x9 (chpV L [R0, R1, R2] a)) (rwN [h0, h1, h2]) (rwN (subN W R0)) (rwN (subN (subN W R0) R1)) (ce3 R0 R1 q) | none => (match nxt R1 (subN W R0) with | some q => m72_2_L2 N (.lst false L.length (rwsP L)) (rwN W) (nL [h0, h1, h2]) W.length (nL W) 0 W.length W.length W.length (2 * W.length) W.length W.length (nL W) f 1 (o9 (chpV L [R0, R1, R2] a)) (x9 (chpV L [R0, R1, R2] a)) (rwN [h0, h1, h2]) (rwN (subN W R0)) (rwN (subN (subN W R0) R1)) (ce3 R0 q R2) | none => (match nxt R0 W with | some q => m72_2_L2 N (.lst false L.length (rwsP L)) (rwN W) (nL [h0, h1, h2]) W.length (nL W) 0 W.length W.length W.length (2 * W.length) W.length W.length (nL W) f 0 (o9 (chpV L [R0, R1, R2] a)) (x9 (chpV L [R0, R1, R2] a)) (rwN [h0, h1, h2]) (rwN (subN W R0)) (rwN (subN (subN W R0) R1)) (ce3 q R1 R2) | none => some (.inl (.tup [], o9 (chpV L [R0, R1, R2] a), x9 (chpV L [R0, R1, R2] a), (rwN [h0, h1, h2])))))) := by
  have e1 := hvi3 N hN W h0 h1 h2 hL L c hC hLr hc a R0 R1 R2 f0 f1 f2 k0 k1 k2
  have e2 := hwh3_2 N hN W h0 h1 h2 hL L c hC hLr hc (chpV L [R0, R1, R2] a) (N - 3) R0 R1 R2 f0 f1 f2 k0 k1 k2
  rw [show N - 3 + 3 = N by omega] at e2
  rw [m72_2_L2, brn_t (by rfl), e1, bj_t]
  dsimp only
  rw [gjT, show m72_2_L3 N (.lst false L.length (rwsP L)) (rwN W) (nL [h0, h1, h2]) W.length (nL W) 0 W.length W.length W.length (2 * W.length) W.length W.length (nL W) (o9 (chpV L [R0, R1, R2] a)) (x9 (chpV L [R0, R1, R2] a)) (rwN [h0, h1, h2]) N 2 (rwN (subN W R0)) (rwN (subN (subN W R0) R1)) (ce3 R0 R1 R2) = _ from e2]
  cases nxt R2 (subN (subN W R0) R1) with
  | some q => rfl
  | none =>
    cases nxt R1 (subN W R0) with
    | some q => rfl
    | none =>
      cases nxt R0 W with
      | some q => rfl
      | none =>
        rfl
theorem hex3 (R0 R1 : List Nat) (f0 : R0.length = W.length) (f1 : R1.length = W.length) (k0 : leL R0 W) (k1 : leL R1 (subN W R0)) : ∀ (n : Nat) (R2 : List Nat) (a : StC) (fuel : Nat), (aft R2 (subN (subN W R0) R1)).length = n → leL R2 (subN (subN W R0) R1) → n + 2 ≤ fuel →
    ∃ X : List Nat, X.length = W.length ∧ m72_2_L2 N (.lst false L.length (rwsP L)) (rwN W) (nL [h0, h1, h2]) W.length (nL W) 0 W.length W.length W.length (2 * W.length) W.length W.length (nL W) fuel 2 (o9 a) (x9 a) (rwN [h0, h1, h2]) (rwN (subN W R0)) (rwN (subN (subN W R0) R1)) (ce3 R0 R1 R2) = (match nxt R1 (subN W R0) with | some q => some (.inr (2, o9 ((R2 :: aft R2 (subN (subN W R0) R1)).foldl (fun a R => (chpV L [R0, R1, R] a)) a), x9 ((R2 :: aft R2 (subN (subN W R0) R1)).foldl (fun a R => (chpV L [R0, R1, R] a)) a), (rwN [h0, h1, h2]), (rwN (subN W R0)), (rwN (subN (subN W R0) q)), (ce3 R0 q X))) | none => (match nxt R0 W with | some q => some (.inr (1, o9 ((R2 :: aft R2 (subN (subN W R0) R1)).foldl (fun a R => (chpV L [R0, R1, R] a)) a), x9 ((R2 :: aft R2 (subN (subN W R0) R1)).foldl (fun a R => (chpV L [R0, R1, R] a)) a), (rwN [h0, h1, h2]), (rwN (subN W q)), (rwN (subN (subN W R0) R1)), (ce3 q R1 X))) | none => some (.inl (.tup [], o9 ((R2 :: aft R2 (subN (subN W R0) R1)).foldl (fun a R => (chpV L [R0, R1, R] a)) a), x9 ((R2 :: aft R2 (subN (subN W R0) R1)).foldl (fun a R => (chpV L [R0, R1, R] a)) a), (rwN [h0, h1, h2])))))
  | n, R2, a, 0, _, _, hf => by omega
  | n, R2, a, fz + 1, hn, k2, hf => by
    have g1 := subN_len k0.len
    have g2 := subN_len k1.len
    have f2 : R2.length = W.length := by rw [k2.len]; omega
    have x := nxt_ok R2 (subN (subN W R0) R1) k2
    have e := hfo3_2 N hN W h0 h1 h2 hL L c hC hLr hc a fz R0 R1 R2 f0 f1 f2 k0 k1 k2
    cases q : nxt R2 (subN (subN W R0) R1) with
    | some q' =>
      rw [q] at x e
      obtain ⟨y1, y2, y3⟩ := x
      rw [y1] at hn
      obtain ⟨n', rfl⟩ : ∃ n', n = n' + 1 := ⟨n - 1, by simp at hn; omega⟩
      obtain ⟨X, z1, z2⟩ := hex3 R0 R1 f0 f1 k0 k1 n' q' _ fz (by simpa using hn) y2 (by omega)
      refine ⟨X, z1, ?_⟩
      rw [e, y1]
      exact z2
    | none =>
      rw [q] at x e
      have x : aft R2 (subN (subN W R0) R1) = [] := x
      refine ⟨R2, f2, ?_⟩
      obtain ⟨f, rfl⟩ : ∃ f, fz = f + 1 := ⟨fz - 1, by omega⟩
      rw [e, x]
      have x1 := nxt_ok R1 (subN W R0) k1
      cases q1 : nxt R1 (subN W R0) with
      | some q =>
        rw [q1] at x1
        exact hfo3_1 N hN W h0 h1 h2 hL L c hC hLr hc _ f (rwN (subN (subN W R0) R1)) R0 q R2 f0 (x1.2.1.len.trans (by omega)) f2 k0 x1.2.1
      | none =>
        have x0 := nxt_ok R0 W k0
        cases q0 : nxt R0 W with
        | some q =>
          rw [q0] at x0
          exact hfo3_0 N hN W h0 h1 h2 hL L c hC hLr hc _ f (rwN (subN W R0)) (rwN (subN (subN W R0) R1)) q R1 R2 x0.2.1.len f1 f2  x0.2.1
        | none =>
          rfl
theorem hjn3_0 (p1 : PV) (p2 : PV)  (R0 R1 R2 : List Nat) (f0 : R0.length = W.length) (f1 : R1.length = W.length) (f2 : R2.length = W.length) : m72_2_L1 N (nL [h0, h1, h2]) 0 W.length W.length W.length (2 * W.length) W.length W.length (nL W) 0 p1 p2 (ce3 R0 R1 R2) = some (0, p1, p2, (ce3 (lst W h0).1 R1 R2)) := by
  have w4 := hL.w4
  have h5 := hL.h5 h0 (by simp)
  have e := le3_0 N hN W.length R0 R1 R2 W h0 f0 f1 f2 rfl w4 (by omega)
  rw [m72_2_L1, kj_t rfl, grd_t (by simp [nL]), gh0, show PV.lst false W.length (nL W) = rwN W from rfl, e, bj_t]
  rfl
theorem hjn3_1 (p2 : PV) (M : List Nat) (lM : M.length = W.length) (R0 R1 R2 : List Nat) (f0 : R0.length = W.length) (f1 : R1.length = W.length) (f2 : R2.length = W.length) : m72_2_L1 N (nL [h0, h1, h2]) 0 W.length W.length W.length (2 * W.length) W.length W.length (nL W) 1 (rwN M) p2 (ce3 R0 R1 R2) = some (1, (rwN M), p2, (ce3 R0 (lst M h1).1 R2)) := by
  have w4 := hL.w4
  have h5 := hL.h5 h1 (by simp)
  have e := le3_1 N hN W.length R0 R1 R2 M h1 f0 f1 f2 lM w4 (by omega)
  rw [m72_2_L1, kj_f (by decide), kj_t rfl, gjL, grd_t (by simp [nL]), gh1, show PV.lst false M.length (nL M) = rwN M from rfl, e, bj_t]
  rfl
theorem hjn3_2 (p1 : PV) (M : List Nat) (lM : M.length = W.length) (R0 R1 R2 : List Nat) (f0 : R0.length = W.length) (f1 : R1.length = W.length) (f2 : R2.length = W.length) : m72_2_L1 N (nL [h0, h1, h2]) 0 W.length W.length W.length (2 * W.length) W.length W.length (nL W) 2 p1 (rwN M) (ce3 R0 R1 R2) = some (2, p1, (rwN M), (ce3 R0 R1 (lst M h2).1)) := by
  have w4 := hL.w4
  have h5 := hL.h5 h2 (by simp)
  have e := le3_2 N hN W.length R0 R1 R2 M h2 f0 f1 f2 lM w4 (by omega)
  rw [m72_2_L1, kj_f (by decide), kj_f (by decide), kj_t rfl, gjL, grd_t (by simp [nL]), gh2, show PV.lst false M.length (nL M) = rwN M from rfl, e, bj_t]
  rfl
theorem heq3 : Eq3 W h0 h1 h2 (chpV L) (fun a => (PV.tup [], o9 a, x9 a, (rwN [h0, h1, h2]))) (fun f (i : Nat) a W1 W2 R0 R1 R2 => m72_2_L0 N (.lst false L.length (rwsP L)) (rwN W) (nL [h0, h1, h2]) W.length (nL W) 0 W.length W.length W.length (2 * W.length) W.length W.length (nL W) f ((i : Nat) : Int) (o9 a) (x9 a) (rwN [h0, h1, h2]) (rwN W1) (rwN W2) (ce3 R0 R1 R2)) where
  e2 := fun f a R0 R1 X k0 s0 k1 s1 hX => by
    have w4 := hL.w4
    have h5 := hL.h5 h2 (by simp)
    have f0 := k0.len
    have g1 := subN_len k0.len
    have f1 : R1.length = W.length := by rw [k1.len]; omega
    have g2 := subN_len k1.len
    have hq : h2 ≤ (subN (subN W R0) R1).sum := by have := hL.sum; have s1 := subN_sum k0; have s2 := subN_sum k1; simp only [List.sum_cons, List.sum_nil] at this; omega
    have hr := rows_first (subN (subN W R0) R1) h2 hq
    obtain ⟨l1, l2, l3⟩ := lst_low (subN (subN W R0) R1) h2 hq
    have hb := rows_le (ms := (subN (subN W R0) R1)) (n := h2) (by omega) h5
    rw [hr, List.length_cons] at hb
    obtain ⟨X', z1, z2⟩ := hex3 N hN W h0 h1 h2 hL L c hC hLr hc R0 R1 f0 f1 k0 k1 _ (lst (subN (subN W R0) R1) h2).1 a N rfl l3 (by omega)
    have ej := hjn3_2 N hN W h0 h1 h2 hL L c hC hLr hc (rwN (subN W R0)) (subN (subN W R0) R1) (by omega) R0 R1 X f0 f1 hX
    refine ⟨X', z1, ?_⟩
    have hf : f3 (chpV L) W h2 R0 a R1 = ((lst (subN (subN W R0) R1) h2).1 :: aft (lst (subN (subN W R0) R1) h2).1 (subN (subN W R0) R1)).foldl (fun a R => (chpV L [R0, R1, R] a)) a := by unfold f3; rw [hr]
    show m72_2_L0 N (.lst false L.length (rwsP L)) (rwN W) (nL [h0, h1, h2]) W.length (nL W) 0 W.length W.length W.length (2 * W.length) W.length W.length (nL W) (f + 1) 2 (o9 a) (x9 a) (rwN [h0, h1, h2]) (rwN (subN W R0)) (rwN (subN (subN W R0) R1)) (ce3 R0 R1 X) = _
    rw [m72_2_L0, ej, bj_t]
    dsimp only
    rw [z2, hf]
    cases nxt R1 (subN W R0) with
    | some q => rfl
    | none =>
      cases nxt R0 W with
      | some q => rfl
      | none =>
        rfl
  e1 := fun f a R0 W2 Y X k0 s0 hY hX => by
    have f0 := k0.len
    have g1 := subN_len k0.len
    have hq : h1 ≤ (subN W R0).sum := by have := hL.sum; have s1 := subN_sum k0; simp only [List.sum_cons, List.sum_nil] at this; omega
    obtain ⟨l1, l2, l3⟩ := lst_low (subN W R0) h1 hq
    have ll := lst_len (subN W R0) h1
    have ej := hjn3_1 N hN W h0 h1 h2 hL L c hC hLr hc (rwN W2) (subN W R0) (by omega) R0 Y X f0 hY hX
    have ef := hfo3_1 N hN W h0 h1 h2 hL L c hC hLr hc a (N - 1) (rwN W2) R0 (lst (subN W R0) h1).1 X f0 (by omega) hX k0 l3
    rw [show N - 1 + 1 = N by omega] at ef
    show m72_2_L0 N (.lst false L.length (rwsP L)) (rwN W) (nL [h0, h1, h2]) W.length (nL W) 0 W.length W.length W.length (2 * W.length) W.length W.length (nL W) (f + 1) 1 (o9 a) (x9 a) (rwN [h0, h1, h2]) (rwN (subN W R0)) (rwN W2) (ce3 R0 Y X) = _
    rw [m72_2_L0, ej, bj_t]
    dsimp only
    rw [ef]
    rfl
  e0 := fun f a W1 W2 Z Y X hZ hY hX => by
    have hq : h0 ≤ W.sum := by have := hL.sum; simp only [List.sum_cons, List.sum_nil] at this; omega
    obtain ⟨l1, l2, l3⟩ := lst_low W h0 hq
    have ll := lst_len W h0
    have ej := hjn3_0 N hN W h0 h1 h2 hL L c hC hLr hc (rwN W1) (rwN W2) Z Y X hZ hY hX
    have ef := hfo3_0 N hN W h0 h1 h2 hL L c hC hLr hc a (N - 1) (rwN W1) (rwN W2) (lst W h0).1 Y X (by omega) hY hX l3
    rw [show N - 1 + 1 = N by omega] at ef
    show m72_2_L0 N (.lst false L.length (rwsP L)) (rwN W) (nL [h0, h1, h2]) W.length (nL W) 0 W.length W.length W.length (2 * W.length) W.length W.length (nL W) (f + 1) 0 (o9 a) (x9 a) (rwN [h0, h1, h2]) (rwN W1) (rwN W2) (ce3 Z Y X) = _
    rw [m72_2_L0, ej, bj_t]
    dsimp only
    rw [ef]
    rfl
theorem heach3 (hM : 2000000 ≤ N) (a : StC) : m72_2 N (.agg [rwN [h0, h1, h2], rwN W]) (.lst false L.length (rwsP L)) (o9 a) (x9 a) (rwN [h0, h1, h2]) (rwN W) = some (.tup [], o9 ((dealsN [h0, h1, h2] W).foldl (fun a d => chpV L d a) a), x9 ((dealsN [h0, h1, h2] W).foldl (fun a d => chpV L d a) a), (rwN [h0, h1, h2])) := by
  have w1 := hL.w1
  have w4 := hL.w4
  have e1 := tb3 N W.length w4 (nL [h0, h1, h2]) (nL W)
  have e2 := clq_ok N W (by omega) (by omega)
  have e3 := each3 W h0 h1 h2 hL (chpV L) (fun a => (PV.tup [], o9 a, x9 a, (rwN [h0, h1, h2]))) _ (heq3 N hN W h0 h1 h2 hL L c hC hLr hc) N a [] [] (List.replicate W.length 0) (List.replicate W.length 0) (List.replicate W.length 0) hM (by simp) (by simp) (by simp)
  skip
  rw [m72_2, gjA2, gjL, gjL, kjN_f (by simp), kjN_f (by simp), kjN_t (by rfl), e1, bj_t]
  dsimp only
  rw [e2, bj_t]
  dsimp only
  rw [grd_t (nL_len W), show m72_2_L0 N (.lst false L.length (rwsP L)) (rwN W) (nL [h0, h1, h2]) W.length (nL W) 0 W.length W.length W.length (2 * W.length) W.length W.length (nL W) N 0 (o9 a) (x9 a) (rwN [h0, h1, h2]) (.lst false 0 []) (.lst false 0 []) (ce3 (List.replicate W.length 0) (List.replicate W.length 0) (List.replicate W.length 0)) = _ from e3, bj_t]
end r3
theorem wrapM {n : Nat} (h : n ≤ 1000000000) : IntKind.i64.wrap ((n : Int) + 1) = ((n + 1 : Nat) : Int) := by
  rw [wrap64 (by omega) (by omega)]; omega
theorem rwN_cons (x : Nat) (r : List Nat) : PV.lst false (1 + r.length) ([PV.int .i64 (x : Int)] ++ nL r) = rwN (x :: r) := by
  simp [rwN, nL, Nat.add_comm]
theorem dP_cons (r : List Nat) (d : List (List Nat)) : PV.lst false (1 + d.length) ([PV.lst false r.length (nL r)] ++ d.map rwN) = dP (r :: d) := by
  simp [dP, rwN, Nat.add_comm]
theorem gpR {α : Type} (f : α → PV) (l : List α) {i : Nat} (h : i < l.length) : gp (l.map f) i = f l[i] := by
  simp [gp, List.getD, h]
theorem fm_step {α : Type} {g : Nat → List α} {i n : Nat} (h : i < n) : (List.range' i (n - i)).flatMap g = g i ++ (List.range' (i + 1) (n - (i + 1))).flatMap g := by
  rw [range'_step h, List.flatMap_cons]
theorem fm_end {α : Type} {g : Nat → List α} {i n : Nat} (h : ¬ i < n) : (List.range' i (n - i)).flatMap g = [] := by
  rw [show n - i = 0 by omega]; rfl
theorem leL_of_mem {ms : List Nat} {n : Nat} {r : List Nat} (h : r ∈ rowsN ms n) : r.length = ms.length := (rowsN_mem ms n r h).1.len
theorem rows_L1 (N : Nat) (rec : PV → Int → Option PV) (n0 : Int) (nm : Nat) (cm : List PV) (x : Nat) (T : List (List Nat)) (hT : T.length ≤ 10000) (hr : ∀ r ∈ T, r.length ≤ 100) : ∀ (s i fuel : Nat) (A : List (List Nat)), T.length - i = s → i ≤ T.length → s < fuel → A.length + s ≤ 100000 →
    m97_L1 N rec n0 nm cm (x : Int) T.length (T.map rwN) fuel A.length (i : Int) (A.map rwN) = some ((A ++ (T.drop i).map (x :: ·)).length, (A ++ (T.drop i).map (x :: ·)).map rwN)
  | s, i, 0, A, _, _, h, _ => by omega
  | s, i, f + 1, A, hs, hi, hf, hA => by
    rw [m97_L1]
    by_cases h : i < T.length
    · have lm : (T.map rwN).length = T.length := by simp
      have la : (A.map rwN).length = A.length := by simp
      have ln := nL_len T[i]
      have lr := hr T[i] (List.getElem_mem h)
      have e := rwN_cons x T[i]
      have ed : T.drop i = T[i] :: T.drop (i + 1) := by rw [List.drop_eq_getElem_cons h]
      have ih := rows_L1 N rec n0 nm cm x T hT hr (s - 1) (i + 1) f (A ++ [x :: T[i]]) (by omega) (by omega) (by omega) (by simp; omega)
      rw [List.length_append, List.map_append] at ih
      rw [brn_t (by simp; omega), grd_t ⟨by omega, by omega⟩, toNatN, grd_t (by rw [List.length_drop]; omega), gpR rwN T h, gjL, grd_t ln]
      have fin : some ((A ++ [x :: T[i]] ++ (T.drop (i + 1)).map (x :: ·)).length, (A ++ [x :: T[i]] ++ (T.drop (i + 1)).map (x :: ·)).map rwN) = some ((A ++ (T.drop i).map (x :: ·)).length, (A ++ (T.drop i).map (x :: ·)).map rwN) := by
        rw [ed, List.map_cons, List.append_assoc, List.cons_append, List.nil_append]
      by_cases hz : 0 < T[i].length
      · rw [brn_t (by simpa using hz), grd_t (by omega), grd_t (by omega), grd_t la, e, wrapM (by omega)]
        exact ih.trans fin
      · rw [brn_f (by simpa using hz), grd_t (by omega), grd_t (by omega), grd_t la, e, wrapM (by omega)]
        exact ih.trans fin
    · rw [brn_f (by simp; omega), List.drop_of_length_le (by omega)]
      simp
theorem rows_ok (N : Nat) (hN : 20000 ≤ N) : ∀ (ms : List Nat) (fu n : Nat), ms.length ≤ 4 → (∀ m ∈ ms, m ≤ 5) → n ≤ 5 → ms.length < fu →
    m97 N fu (rwN ms) (n : Int) = some (.lst false (rowsN ms n).length ((rowsN ms n).map rwN))
  | _, 0, _, _, _, _, h => by omega
  | [], f + 1, n, _, _, _, _ => by
    rw [m97, gjL, brn_t (by rfl)]
    by_cases h : n = 0
    · subst h; rw [brn_t (by rfl)]; rfl
    · rw [brn_f (by rw [beq_eq_false_iff_ne]; omega), rowsN, if_neg h]; rfl
  | m :: ms, f + 1, n, hl, h5, hn, hf => by
    have hm := h5 m (.head _)
    have hl' : ms.length ≤ 3 := by simpa using hl
    have ih := fun k (hk : k ≤ 5) => rows_ok N hN ms f k (by omega) (fun z hz => h5 z (.tail _ hz)) hk (by simpa using hf)
    have hb := fun k (hk : k ≤ 5) => rows_le (ms := ms) (n := k) (by omega) hk
    have lnm := nL_len (m :: ms)
    have loop : ∀ (s x fuel : Nat) (A : List (List Nat)), min m n + 1 - x = s → x ≤ min m n + 1 → s < fuel → A.length + 1300 * s ≤ 50000 →
        m97_L0 N (m97 N f) (n : Int) (m :: ms).length (nL (m :: ms)) fuel A.length (x : Int) (A.map rwN) = some ((A ++ (List.range' x (min m n + 1 - x)).flatMap fun x => (rowsN ms (n - x)).map (x :: ·)).length, (A ++ (List.range' x (min m n + 1 - x)).flatMap fun x => (rowsN ms (n - x)).map (x :: ·)).map rwN) := by
      intro s
      induction s with
      | zero =>
        intro x fuel A hs hx hf hA
        obtain ⟨g, rfl⟩ : ∃ g, fuel = g + 1 := ⟨fuel - 1, by omega⟩
        rw [m97_L0, grd_t (by simp), grd_t (by simp [nL]), gh0, fm_end (by omega), List.append_nil]
        by_cases h1 : x ≤ m
        · rw [brn_t (by simp; omega), brn_f (by simp; omega)]
        · rw [brn_f (by simp; omega)]
      | succ s ihs =>
        intro x fuel A hs hx hf hA
        obtain ⟨g, rfl⟩ : ∃ g, fuel = g + 1 := ⟨fuel - 1, by omega⟩
        have r1 := ih (n - x) (by omega)
        have b1 := hb (n - x) (by omega)
        have h1 := rows_L1 N (m97 N f) (n : Int) (m :: ms).length (nL (m :: ms)) x (rowsN ms (n - x)) (by omega) (fun r hr => by rw [leL_of_mem hr]; omega) (rowsN ms (n - x)).length 0 N A (by omega) (by omega) (by omega) (by omega)
        rw [List.drop_zero] at h1
        rw [m97_L0, grd_t (by simp), grd_t (by simp [nL]), gh0, brn_t (by simp; omega), brn_t (by simp; omega), grd_t ⟨by rw [List.length_cons]; omega, by simp⟩, grd_t lnm]
        have ea : PV.lst false (Int.toNat (((m :: ms).length : Int) - 1)) (List.drop 1 (nL (m :: ms))) = rwN ms := by
          simp [rwN, nL]
        rw [ea, wrap64 (by omega) (by omega), show (n : Int) - (x : Int) = ((n - x : Nat) : Int) by omega, r1, bj_t]
        rw [show getL (PV.lst false (rowsN ms (n - x)).length ((rowsN ms (n - x)).map rwN)) = fun f => f (rowsN ms (n - x)).length ((rowsN ms (n - x)).map rwN) from rfl]
        dsimp only
        rw [show m97_L1 N (m97 N f) (n : Int) (m :: ms).length (nL (m :: ms)) (x : Int) (rowsN ms (n - x)).length ((rowsN ms (n - x)).map rwN) N A.length 0 (A.map rwN) = _ from h1, bj_t]
        dsimp only
        rw [wrapM (by omega), ihs (x + 1) g _ (by omega) (by omega) (by omega) (by simp only [List.length_append, List.length_map]; omega), fm_step (g := fun x => (rowsN ms (n - x)).map (x :: ·)) (i := x) (n := min m n + 1) (by omega), List.append_assoc]
    have h0 := loop (min m n + 1) 0 N [] (by omega) (by omega) (by omega) (by simp; omega)
    rw [m97, gjL, brn_f (by rw [beq_eq_false_iff_ne, List.length_cons]; omega), show m97_L0 N (m97 N f) (n : Int) (m :: ms).length (nL (m :: ms)) N 0 0 [] = _ from h0, bj_t]
    dsimp only
    rw [List.nil_append, Nat.sub_zero, ← List.range_eq_range', grd_t (by rw [List.length_map])]
    rfl
theorem aft_self : ∀ (w : List Nat), aft w w = []
  | [] => rfl
  | m :: w => by
    rw [aft, aft_self w, List.map_nil, List.nil_append, show min m (m + w.sum) - m = 0 by omega]; rfl
theorem rows_one (w : List Nat) : rowsN w w.sum = [w] := by
  rw [rows_first w w.sum (Nat.le_refl _), lst_full w w.sum (Nat.le_refl _), aft_self]
def dB : Nat → Nat
  | 0 => 1
  | 1 => 1
  | n + 2 => 1296 * dB (n + 1)
theorem deals_len : ∀ (hs w : List Nat), hs.sum = w.sum → (∀ h ∈ hs, h ≤ 5) → w.length ≤ 4 → (dealsN hs w).length ≤ dB hs.length
  | [], w, _, _, _ => by simp [dealsN, dB]
  | [h], w, hs, _, _ => by
    have e : h = w.sum := by simpa using hs
    rw [dealsN, e, rows_one]; simp [dealsN, dB]
  | h :: g :: hs, w, hs', h5, w4 => by
    rw [dealsN]
    have hh := h5 h (.head _)
    have := fm_len (dB (g :: hs).length) (fun r => (dealsN (g :: hs) (subN w r)).map (r :: ·)) (rowsN w h) fun r hr => by
      obtain ⟨l1, l2⟩ := rowsN_mem w h r hr
      rw [List.length_map]
      refine deals_len (g :: hs) (subN w r) ?_ (fun z hz => h5 z (.tail _ hz)) (by rw [subN_len l1.len]; exact w4)
      rw [subN_sum l1]
      rw [List.sum_cons] at hs'
      omega
    have hb := rows_le (ms := w) (n := h) w4 hh
    refine Nat.le_trans this ?_
    exact Nat.mul_le_mul_right _ hb
theorem deals_le {H W : List Nat} (hL : Ldn H W) (h3 : H.length ≤ 3) : (dealsN H W).length ≤ 1679616 := by
  have h := deals_len H W hL.sum hL.h5 hL.w4
  refine Nat.le_trans h ?_
  have : H.length = 0 ∨ H.length = 1 ∨ H.length = 2 ∨ H.length = 3 := by omega
  rcases this with e | e | e | e <;> rw [e] <;> decide
def Dvl (r c : Nat) (d : List (List Nat)) : Prop := d.length = r ∧ ∀ x ∈ d, x.length = c ∧ ∀ y ∈ x, y ≤ 5
theorem deals_mem : ∀ (hs w : List Nat) (d : List (List Nat)), (∀ x ∈ w, x ≤ 5) → d ∈ dealsN hs w → Dvl hs.length w.length d
  | [], w, d, _, h => by simp [dealsN] at h; subst h; exact ⟨rfl, by simp⟩
  | h :: hs, w, d, h5, hd => by
    rw [dealsN, List.mem_flatMap] at hd
    obtain ⟨r, hr, hd⟩ := hd
    obtain ⟨d', hd', rfl⟩ := List.mem_map.1 hd
    obtain ⟨l1, l2⟩ := rowsN_mem w h r hr
    obtain ⟨i1, i2⟩ := deals_mem hs (subN w r) d' (l1.sub.le5 h5) hd'
    refine ⟨by simp [i1], fun x hx => ?_⟩
    rcases List.mem_cons.1 hx with rfl | hx
    · exact ⟨l1.len, l1.le5 h5⟩
    · obtain ⟨j1, j2⟩ := i2 x hx
      exact ⟨by rw [j1, subN_len l1.len], j2⟩
theorem left_L (N : Nat) (rec : PV → PV → Option PV) (nh : Nat) (ch : List PV) (w : List Nat) (hw : w.length ≤ 4) (w5 : ∀ x ∈ w, x ≤ 5) (T : List (List Nat)) (i : Nat) (hi : i < T.length) (hl : leL T[i] w) (na : Nat) (ca : List PV) : ∀ (s j fuel : Nat), w.length - j = s → j ≤ w.length → s < fuel →
    m74_L1 N rec nh ch w.length (nL w) T.length (T.map rwN) na (i : Int) ca fuel j (j : Int) (nL ((subN w T[i]).take j)) = some (w.length, nL (subN w T[i]))
  | s, j, 0, _, _, h => by omega
  | s, j, f + 1, hs, hj, hf => by
    have lm : (T.map rwN).length = T.length := by simp
    have ls := subN_len hl.len
    have lr := hl.len
    rw [m74_L1]
    by_cases h : j < w.length
    · have v1 := hl.nn j h
      have v2 := w5 _ (nn_mem h)
      have lw := nL_len w
      have lt := nL_len T[i]
      have ltk : (nL ((subN w T[i]).take j)).length = j := by rw [nL_len, List.length_take]; omega
      rw [brn_t (by simp; omega), toNatN, toNatN, grd_t ⟨by omega, by omega⟩, grd_t (by rw [List.length_drop]; omega), gN h, grd_t ⟨by omega, by omega⟩, grd_t (by rw [List.length_drop]; omega), gpR rwN T hi, gjL, grd_t (by omega), grd_t (by rw [List.length_drop]; omega), gN (by omega), grd_t (by omega), grd_t ltk]
      rw [wrap64 (n := (nn w j : Int) - (nn T[i] j : Int)) (by omega) (by omega), show (nn w j : Int) - (nn T[i] j : Int) = ((nn w j - nn T[i] j : Nat) : Int) by omega, wrapN (by omega)]
      have e : nL ((subN w T[i]).take j) ++ [PV.int .i64 ((nn w j - nn T[i] j : Nat) : Int)] = nL ((subN w T[i]).take (j + 1)) := by
        rw [take_nn (by omega), subN_nn hl.len h, nL_ap]; rfl
      rw [e]
      exact left_L N rec nh ch w hw w5 T i hi hl na ca (s - 1) (j + 1) f (by omega) (by omega) (by omega)
    · rw [brn_f (by simp; omega), List.take_of_length_le (by omega), show j = w.length by omega]
theorem put_L (N : Nat) (rec : PV → PV → Option PV) (nh : Nat) (ch : List PV) (nw : Nat) (cw : List PV) (T : List (List Nat)) (i : Nat) (hi : i < T.length) (hT : T.length ≤ 10000) (Q : List (List (List Nat))) (hQ : Q.length ≤ 2000000) (hq : ∀ d ∈ Q, d.length ≤ 3) : ∀ (s k fuel : Nat) (A : List (List (List Nat))), Q.length - k = s → k ≤ Q.length → s < fuel → A.length + s ≤ 100000000000 →
    m74_L2 N rec nh ch nw cw T.length (T.map rwN) (i : Int) Q.length (Q.map dP) fuel A.length (k : Int) (A.map dP) = some ((A ++ (Q.drop k).map (T[i] :: ·)).length, (A ++ (Q.drop k).map (T[i] :: ·)).map dP)
  | s, k, 0, A, _, _, h, _ => by omega
  | s, k, f + 1, A, hs, hk, hf, hA => by
    have lm : (T.map rwN).length = T.length := by simp
    have lq : (Q.map dP).length = Q.length := by simp
    have la : (A.map dP).length = A.length := by simp
    rw [m74_L2]
    by_cases h : k < Q.length
    · have ed : Q.drop k = Q[k] :: Q.drop (k + 1) := by rw [List.drop_eq_getElem_cons h]
      have ld := hq _ (List.getElem_mem h)
      have ih := put_L N rec nh ch nw cw T i hi hT Q hQ hq (s - 1) (k + 1) f (A ++ [T[i] :: Q[k]]) (by omega) (by omega) (by omega) (by simp; omega)
      rw [List.length_append, List.map_append] at ih
      have fin : some ((A ++ [T[i] :: Q[k]] ++ (Q.drop (k + 1)).map (T[i] :: ·)).length, (A ++ [T[i] :: Q[k]] ++ (Q.drop (k + 1)).map (T[i] :: ·)).map dP) = some ((A ++ (Q.drop k).map (T[i] :: ·)).length, (A ++ (Q.drop k).map (T[i] :: ·)).map dP) := by
        rw [ed, List.map_cons, List.append_assoc, List.cons_append, List.nil_append]
      have e := dP_cons T[i] Q[k]
      rw [brn_t (by simp; omega), toNatN, toNatN, grd_t ⟨by omega, by omega⟩, grd_t (by rw [List.length_drop]; omega), gpR rwN T hi, gjL, grd_t ⟨by omega, by omega⟩, grd_t (by rw [List.length_drop]; omega), gpR dP Q h]
      rw [show getL (dP Q[k]) = fun f => f Q[k].length (Q[k].map rwN) from rfl]
      dsimp only
      rw [grd_t (by rw [List.length_map])]
      by_cases hz : 0 < Q[k].length
      · rw [brn_t (by simpa using hz), grd_t (by omega), grd_t (by omega), grd_t la, e, wrapM (by omega)]
        exact ih.trans fin
      · rw [brn_f (by simpa using hz), grd_t (by omega), grd_t (by omega), grd_t la, e, wrapM (by omega)]
        exact ih.trans fin
    · rw [brn_f (by simp; omega), List.drop_of_length_le (by omega)]
      simp
theorem dB_le {n : Nat} (h : n ≤ 3) : dB n ≤ 1679616 := by
  have : n = 0 ∨ n = 1 ∨ n = 2 ∨ n = 3 := by omega
  rcases this with e | e | e | e <;> rw [e] <;> decide
theorem deals_ok (N : Nat) (hN : 2000000 ≤ N) : ∀ (hs : List Nat) (fu : Nat) (w : List Nat), hs.length ≤ 3 → hs.sum = w.sum → (∀ h ∈ hs, h ≤ 5) → (∀ x ∈ w, x ≤ 5) → w.length ≤ 4 → hs.length < fu →
    m74 N fu (rwN hs) (rwN w) = some (.lst false (dealsN hs w).length ((dealsN hs w).map dP))
  | _, 0, _, _, _, _, _, _, h => by omega
  | [], f + 1, w, _, _, _, _, _, _ => by
    rw [m74, gjL, gjL, brn_t (by rfl)]; rfl
  | h :: hs, f + 1, w, l3, hsum, h5, w5, w4, hf => by
    have hh := h5 h (.head _)
    have l2 : hs.length ≤ 2 := by simpa using l3
    have lnh := nL_len (h :: hs)
    rw [List.sum_cons] at hsum
    have hrow := rows_ok N (by omega) w N h w4 w5 hh (by omega)
    have hb := rows_le (ms := w) (n := h) w4 hh
    have hmem := fun r (hr : r ∈ rowsN w h) => rowsN_mem w h r hr
    generalize hT : rowsN w h = T at hrow hb hmem
    have lm : (T.map rwN).length = T.length := by simp
    have hsub : ∀ r ∈ T, (dealsN hs (subN w r)).length ≤ 1679616 ∧ m74 N f (rwN hs) (rwN (subN w r)) = some (.lst false (dealsN hs (subN w r)).length ((dealsN hs (subN w r)).map dP)) := fun r hr => by
      obtain ⟨m1, m2⟩ := hmem r hr
      have es : hs.sum = (subN w r).sum := by rw [subN_sum m1]; omega
      have el := subN_len m1.len
      exact ⟨Nat.le_trans (deals_len hs (subN w r) es (fun z hz => h5 z (.tail _ hz)) (by omega)) (dB_le (by omega)),
        deals_ok N hN hs f (subN w r) (by omega) es (fun z hz => h5 z (.tail _ hz)) (m1.sub.le5 w5) (by omega) (by simpa using hf)⟩
    have loop : ∀ (s i fuel : Nat) (A : List (List (List Nat))), T.length - i = s → i ≤ T.length → s < fuel → A.length + 1679616 * s ≤ 10000000000 →
        m74_L0 N (m74 N f) (h :: hs).length (nL (h :: hs)) w.length (nL w) T.length (T.map rwN) fuel A.length (i : Int) (A.map dP) = some ((A ++ (T.drop i).flatMap fun r => (dealsN hs (subN w r)).map (r :: ·)).length, (A ++ (T.drop i).flatMap fun r => (dealsN hs (subN w r)).map (r :: ·)).map dP) := by
      intro s
      induction s with
      | zero =>
        intro i fuel A hs' hi hf' hA
        obtain ⟨g, rfl⟩ : ∃ g, fuel = g + 1 := ⟨fuel - 1, by omega⟩
        rw [m74_L0, brn_f (by simp; omega), List.drop_of_length_le (by omega), List.flatMap_nil, List.append_nil]
      | succ s ihs =>
        intro i fuel A hs' hi hf' hA
        obtain ⟨g, rfl⟩ : ∃ g, fuel = g + 1 := ⟨fuel - 1, by omega⟩
        have hi' : i < T.length := by omega
        obtain ⟨m1, m2⟩ := hmem _ (List.getElem_mem hi')
        obtain ⟨c1, c2⟩ := hsub _ (List.getElem_mem hi')
        have h1 := left_L N (m74 N f) (h :: hs).length (nL (h :: hs)) w w4 w5 T i hi' m1 A.length (A.map dP) w.length 0 N (by omega) (by omega) (by omega)
        have h2 := put_L N (m74 N f) (h :: hs).length (nL (h :: hs)) w.length (nL w) T i hi' (by omega) (dealsN hs (subN w T[i])) (by omega) (fun d hd => by have := (deals_mem hs _ d (m1.sub.le5 w5) hd).1; omega) (dealsN hs (subN w T[i])).length 0 N A (by omega) (by omega) (by omega) (by omega)
        rw [List.drop_zero] at h2
        rw [List.take_zero] at h1
        have el := subN_len m1.len
        have ed : T.drop i = T[i] :: T.drop (i + 1) := by rw [List.drop_eq_getElem_cons hi']
        rw [m74_L0, brn_t (by simp; omega), show m74_L1 N (m74 N f) (h :: hs).length (nL (h :: hs)) w.length (nL w) T.length (T.map rwN) A.length (i : Int) (A.map dP) N 0 0 [] = _ from h1, bj_t]
        dsimp only
        rw [grd_t (by rw [nL_len]; omega), grd_t ⟨by rw [List.length_cons]; omega, by simp⟩, grd_t lnh]
        have ea : PV.lst false (Int.toNat (((h :: hs).length : Int) - 1)) (List.drop 1 (nL (h :: hs))) = rwN hs := by simp [rwN, nL]
        have eb : PV.lst false w.length (nL (subN w T[i])) = rwN (subN w T[i]) := by rw [← el]; rfl
        rw [ea, eb, c2, bj_t, show getL (PV.lst false (dealsN hs (subN w T[i])).length ((dealsN hs (subN w T[i])).map dP)) = fun f => f (dealsN hs (subN w T[i])).length ((dealsN hs (subN w T[i])).map dP) from rfl]
        dsimp only
        rw [show m74_L2 N (m74 N f) (h :: hs).length (nL (h :: hs)) w.length (nL w) T.length (T.map rwN) (i : Int) (dealsN hs (subN w T[i])).length ((dealsN hs (subN w T[i])).map dP) N A.length 0 (A.map dP) = _ from h2, bj_t]
        dsimp only
        rw [wrapM (by omega), ihs (i + 1) g _ (by omega) (by omega) (by omega) (by simp only [List.length_append, List.length_map]; omega), ed, List.flatMap_cons, List.append_assoc]
    have h0 := loop T.length 0 N [] (by omega) (by omega) (by omega) (by simp only [List.length_nil]; omega)
    rw [m74, gjL, gjL, brn_f (by rw [beq_eq_false_iff_ne, List.length_cons]; omega), grd_t (by simp), grd_t (by simp [nL]), gh0, show m97 N N (PV.lst false w.length (nL w)) (h : Int) = _ from hrow, bj_t]
    rw [show getL (PV.lst false T.length (T.map rwN)) = fun f => f T.length (T.map rwN) from rfl]
    dsimp only
    rw [show m74_L0 N (m74 N f) (h :: hs).length (nL (h :: hs)) w.length (nL w) T.length (T.map rwN) N 0 0 [] = _ from h0, bj_t]
    dsimp only
    rw [List.nil_append, List.drop_zero, grd_t (by rw [List.length_map]), dealsN, hT]
def tI (r : List Nat) : List Int := r.map fun (x : Nat) => (x : Int)
theorem tI_rw (r : List Nat) : rwP (tI r) = rwN r := by simp [rwP, rwN, tI, iL, nL]
theorem tI_rws (d : List (List Nat)) : rwsP (d.map tI) = d.map rwN := by simp [rwsP, tI_rw]
theorem tI_len (r : List Nat) : (tI r).length = r.length := by simp [tI]
theorem tI_en (r : List Nat) (j : Nat) : en (tI r) j = (nn r j : Int) := by
  simp only [en, tI, nn, List.getD, List.getElem?_map]
  cases r[j]? <;> rfl
theorem tI_bad {r : List Nat} (h : ∀ x ∈ r, x ≤ 5) : (tI r).any (bad 0 5) = false := by
  rw [List.any_eq_false]
  intro y hy
  obtain ⟨x, hx, rfl⟩ := List.mem_map.1 hy
  have := h x hx
  simp [bad]; omega
theorem rcF_crow (L : List (List Int)) (i : Nat) (r : List Nat) (c : Nat) (hr : r.length = c) (hl : (ro L i).length = c) : ∀ (s j : Nat), c - j = s → j ≤ c → rcF L i (tI r) c j = crow (r.drop j) ((ro L i).drop j)
  | 0, j, hs, hj => by
    rw [rcF, List.drop_of_length_le (by omega), List.drop_of_length_le (by omega), show c - j = 0 by omega]; rfl
  | s + 1, j, hs, hj => by
    have ih := rcF_crow L i r c hr hl s (j + 1) (by omega) (by omega)
    rw [crow_drop (by omega) (by omega), ← ih]
    unfold rcF
    rw [range'_step (by omega), List.map_cons, List.sum_cons, tI_en]
    rfl
theorem cF_costD (L : List (List Int)) (c : Nat) (hC : Okc L c) : ∀ (d : List (List Nat)) (i : Nat), d.length + i ≤ L.length → (∀ x ∈ d, x.length = c) → cF L c i (d.map tI) = costD d (L.drop i)
  | [], i, _, _ => by simp [cF, costD]
  | r :: d, i, h, hx => by
    have hi : i < L.length := by simp at h; omega
    rw [List.map_cons, cF, cF_costD L c hC d (i + 1) (by simp at h; omega) (fun x hx' => hx x (.tail _ hx')), drop_ro hi, costD]
    rw [rcF_crow L i r c (hx r (.head _)) (hC.row i hi) c 0 (by omega) (by omega)]
    rfl
theorem refcost_ok (N : Nat) (hN : 2000 ≤ N) (L : List (List Int)) (c : Nat) (hC : Okc L c) (d : List (List Nat)) (hd : Dvl L.length c d) : m71 N (.lst false L.length (rwsP L)) (dP d) = some (.int .i64 (costD d L)) := by
  obtain ⟨h1, h2⟩ := hd
  have h := rc_L0 N hN L c hC (d.map tI) (by simp [h1]) (fun r hr => by
    obtain ⟨x, hx, rfl⟩ := List.mem_map.1 hr
    exact ⟨by rw [tI_len]; exact (h2 x hx).1, tI_bad (h2 x hx).2⟩) L.length 0 N 0 (by omega) (by have := hC.r3; omega) (by omega) (by omega)
  rw [List.drop_zero, cF_costD L c hC d 0 (by omega) (fun x hx => (h2 x hx).1), List.drop_zero, Int.zero_add, List.length_map, tI_rws] at h
  rw [m71, gjL', show getL (dP d) = fun f => f d.length (d.map rwN) from rfl]
  dsimp only
  rw [show m71_L0 N L.length (rwsP L) d.length (d.map rwN) N 0 0 = _ from h, bj_t]
theorem cnt_fold : ∀ (D : List (List (List Nat))) (k : Nat), k + D.length ≤ 1000000000 → D.foldl (fun a d => cntV d a) (k : Int) = ((k + D.length : Nat) : Int)
  | [], k, _ => rfl
  | d :: D, k, h => by
    rw [List.foldl_cons, List.length_cons, show cntV d (k : Int) = ((k + 1 : Nat) : Int) from wrapM (by simp at h; omega), cnt_fold D (k + 1) (by simp at h; omega)]
    congr 1; omega
def bestF (L : List (List Int)) (b : List (List Nat)) (D : List (List (List Nat))) : List (List Nat) := D.foldl (fun b d => if costD d L < costD b L then d else b) b
def hdt (b : List (List Nat)) : List Nat × List (List Nat) := (b.headD [], b.tail)
theorem hdt_ne {b : List (List Nat)} (h : b ≠ []) (x : Int) : o9 (some (hdt b), x) = dP b := by
  cases b with
  | nil => exact absurd rfl h
  | cons r b => rfl
theorem chp_fold (L : List (List Int)) : ∀ (D : List (List (List Nat))) (b : List (List Nat)), D.foldl (fun a d => chpV L d a) (some (hdt b), costD b L) = (some (hdt (bestF L b D)), costD (bestF L b D) L)
  | [], b => rfl
  | d :: D, b => by
    rw [List.foldl_cons]
    have e : bestF L b (d :: D) = bestF L (if costD d L < costD b L then d else b) D := rfl
    rw [e]
    by_cases h : costD d L < costD b L
    · rw [if_pos h, ← chp_fold L D d]
      have : chpV L d (some (hdt b), costD b L) = (some (hdt d), costD d L) := by
        show (if costD b L ≤ costD d L then _ else _) = _
        rw [if_neg (by omega)]; rfl
      rw [this]
    · rw [if_neg h, ← chp_fold L D b]
      have : chpV L d (some (hdt b), costD b L) = (some (hdt b), costD b L) := by
        show (if costD b L ≤ costD d L then _ else _) = _
        rw [if_pos (by omega)]
      rw [this]
theorem best_mem (L : List (List Int)) : ∀ (D : List (List (List Nat))) (b : List (List Nat)), bestF L b D = b ∨ bestF L b D ∈ D
  | [], b => .inl rfl
  | d :: D, b => by
    have e : bestF L b (d :: D) = bestF L (if costD d L < costD b L then d else b) D := rfl
    rw [e]
    rcases best_mem L D (if costD d L < costD b L then d else b) with h | h
    · rw [h]
      split
      · exact .inr (.head _)
      · exact .inl rfl
    · exact .inr (.tail _ h)
def cheapD (L : List (List Int)) (H W : List Nat) : List (List Nat) := match dealsN H W with | [] => [] | b :: D => bestF L b D
theorem deals_ne {H W : List Nat} : H.sum = W.sum → dealsN H W ≠ [] := by
  induction H generalizing W with
  | nil => intro _; simp [dealsN]
  | cons h hs ih =>
    intro hsum
    rw [List.sum_cons] at hsum
    obtain ⟨l1, l2, l3⟩ := lst_low W h (by omega)
    have hr := rows_first W h (by omega)
    rw [dealsN, hr, List.flatMap_cons]
    have := ih (W := subN W (lst W h).1) (by rw [subN_sum l3]; omega)
    intro e
    rw [List.append_eq_nil_iff, List.map_eq_nil_iff] at e
    exact this e.1
theorem cheap_mem {L : List (List Int)} {H W : List Nat} (hL : Ldn H W) : cheapD L H W ∈ dealsN H W := by
  unfold cheapD
  cases e : dealsN H W with
  | nil => exact absurd e (deals_ne hL.sum)
  | cons b D =>
    rcases best_mem L D b with h | h
    · rw [show (match b :: D with | [] => [] | b :: D => bestF L b D) = bestF L b D from rfl, h]; exact .head _
    · exact .tail _ h
theorem cheap_fold {L : List (List Int)} {H W : List Nat} (hL : Ldn H W) : (dealsN H W).foldl (fun a d => chpV L d a) (none, 0) = (some (hdt (cheapD L H W)), costD (cheapD L H W) L) := by
  unfold cheapD
  cases e : dealsN H W with
  | nil => exact absurd e (deals_ne hL.sum)
  | cons b D =>
    rw [List.foldl_cons]
    exact chp_fold L D b
def tN (X : List Int) : List Nat := X.map Int.toNat
theorem tI_tN {X : List Int} (h : X.any (bad 0 5) = false) : tI (tN X) = X := by
  rw [List.any_eq_false] at h
  unfold tI tN
  rw [List.map_map]
  conv => rhs; rw [← List.map_id X]
  refine List.map_congr_left fun x hx => ?_
  have := h x hx
  simp only [bad, Bool.or_eq_true, decide_eq_true_eq, not_or] at this
  simp only [Function.comp, id]
  omega
theorem tI_sum : ∀ (r : List Nat), (tI r).sum = (r.sum : Int)
  | [] => rfl
  | x :: r => by
    have ih := tI_sum r
    simp only [tI, List.map_cons, List.sum_cons] at ih ⊢
    rw [ih]; omega
theorem tN_le {X : List Int} (h : X.any (bad 0 5) = false) : ∀ x ∈ tN X, x ≤ 5 := by
  rw [List.any_eq_false] at h
  intro x hx
  obtain ⟨y, hy, rfl⟩ := List.mem_map.1 hx
  have := h y hy
  simp only [bad, Bool.or_eq_true, decide_eq_true_eq, not_or] at this
  omega
theorem ldn_of {L : List (List Int)} {H W : List Int} (h : ldE L H W = 0) : Okc L W.length ∧ (tN H).length = L.length ∧ (tN W).length = W.length ∧ Ldn (tN H) (tN W) ∧ tI (tN H) = H ∧ tI (tN W) = W := by
  obtain ⟨h1, h2, h3, h4, h5⟩ := ldE_zero h
  have e1 := tI_tN h3
  have e2 := tI_tN h4
  have c1 := h1.c1
  have c4 := h1.c4
  refine ⟨h1, by simp [tN, h2], by simp [tN], ⟨?_, tN_le h3, tN_le h4, by simpa [tN] using c4, by simpa [tN] using c1⟩, e1, e2⟩
  have s1 := tI_sum (tN H)
  have s2 := tI_sum (tN W)
  rw [e1] at s1
  rw [e2] at s2
  omega
section
variable (N : Nat) (hN : 2000000 ≤ N) (L : List (List Int)) (c : Nat) (hC : Okc L c) (H W : List Nat) (hL : Ldn H W) (hH : H.length = L.length) (hW : W.length = c)
include hN hC hL hH hW
theorem each_cnt : m72 N (.agg [rwN H, rwN W]) 0 = some (.tup [], (((dealsN H W).length : Nat) : Int)) := by
  have r1 := hC.r1
  have r3 := hC.r3
  have hd := deals_le hL (by omega)
  have e := cnt_fold (dealsN H W) 0 (by omega)
  rw [Nat.zero_add] at e
  match H, hL, hH, e with
  | [], _, hH, _ => simp at hH; omega
  | [h0], hL, _, e => have := neach1 N (by omega) W h0 hL hN 0; rw [show ((0 : Nat) : Int) = 0 from rfl] at e; rw [this, e]
  | [h0, h1], hL, _, e => have := neach2 N (by omega) W h0 h1 hL hN 0; rw [show ((0 : Nat) : Int) = 0 from rfl] at e; rw [this, e]
  | [h0, h1, h2], hL, _, e => have := neach3 N (by omega) W h0 h1 h2 hL hN 0; rw [show ((0 : Nat) : Int) = 0 from rfl] at e; rw [this, e]
  | _ :: _ :: _ :: _ :: _, _, hH, _ => simp at hH; omega
theorem each_chp : m72_2 N (.agg [rwN H, rwN W]) (.lst false L.length (rwsP L)) .nl 0 (rwN H) (rwN W) = some (.tup [], o9 (some (hdt (cheapD L H W)), costD (cheapD L H W) L), costD (cheapD L H W) L, rwN H) := by
  have r1 := hC.r1
  have r3 := hC.r3
  have e := cheap_fold (L := L) hL
  match H, hL, hH, e with
  | [], _, hH, _ => simp at hH; omega
  | [h0], hL, hH, e =>
    have := heach1 N (by omega) W h0 hL L c hC (by simpa using hH.symm) hW hN (none, 0)
    rw [e] at this
    exact this
  | [h0, h1], hL, hH, e =>
    have := heach2 N (by omega) W h0 h1 hL L c hC (by simpa using hH.symm) hW hN (none, 0)
    rw [e] at this
    exact this
  | [h0, h1, h2], hL, hH, e =>
    have := heach3 N (by omega) W h0 h1 h2 hL L c hC (by simpa using hH.symm) hW hN (none, 0)
    rw [e] at this
    exact this
  | _ :: _ :: _ :: _ :: _, _, hH, _ => simp at hH; omega
theorem cheap_dvl : Dvl L.length c (cheapD L H W) := by
  have := deals_mem H W _ hL.w5 (cheap_mem (L := L) hL)
  rwa [hH, hW] at this
theorem cheap_ne : cheapD L H W ≠ [] := by
  have r1 := hC.r1
  have h := (cheap_dvl N hN L c hC H W hL hH hW).1
  intro e
  rw [e] at h
  simp at h; omega
theorem rb_L (D : List (List (List Nat))) (hD : D.length ≤ 2000000) (hv : ∀ d ∈ D, Dvl L.length c d) : ∀ (s k fuel : Nat) (b : List (List Nat)), D.length - k = s → k ≤ D.length → s < fuel → Dvl L.length c b →
    m28_L0 N L.length (rwsP L) D.length (D.map dP) fuel (dP b) (k : Int) = some (dP (bestF L b (D.drop k)))
  | s, k, 0, b, _, _, h, _ => by omega
  | s, k, f + 1, b, hs, hk, hf, hb => by
    have lq : (D.map dP).length = D.length := by simp
    have gb : ∀ {α : Type} {x : List (List Nat)} {f : Nat → List PV → Option α}, getL (dP x) f = f x.length (x.map rwN) := rfl
    rw [m28_L0, gb]
    by_cases h : k < D.length
    · have ed : D.drop k = D[k] :: D.drop (k + 1) := by rw [List.drop_eq_getElem_cons h]
      have hk' := hv _ (List.getElem_mem h)
      have e1 := refcost_ok N (by omega) L c hC _ hk'
      have e2 := refcost_ok N (by omega) L c hC _ hb
      have eb : bestF L b (D.drop k) = bestF L (if costD D[k] L < costD b L then D[k] else b) (D.drop (k + 1)) := by rw [ed]; rfl
      rw [brn_t (by simp; omega), toNatN, grd_t ⟨by omega, by omega⟩, grd_t (by rw [List.length_drop]; omega), gpR dP D h, gb, show m71 N (.lst false L.length (rwsP L)) (.lst false D[k].length (D[k].map rwN)) = _ from e1, bj_t, getI_t, show m71 N (.lst false L.length (rwsP L)) (.lst false b.length (b.map rwN)) = _ from e2, bj_t, getI_t, wrapM (by omega), eb]
      by_cases hlt : costD D[k] L < costD b L
      · rw [brn_t (by simpa using hlt), if_pos hlt]
        exact rb_L D hD hv (s - 1) (k + 1) f D[k] (by omega) (by omega) (by omega) hk'
      · rw [brn_f (by simpa using hlt), if_neg hlt]
        exact rb_L D hD hv (s - 1) (k + 1) f b (by omega) (by omega) (by omega) hb
    · rw [brn_f (by simp; omega), List.drop_of_length_le (by omega)]
      rfl
end
def cheE (L : List (List Int)) (H W : List Int) : List (List Nat) := if ldE L H W ≠ 0 then [] else cheapD L (tN H) (tN W)
def cntE (L : List (List Int)) (H W : List Int) : Nat := if ldE L H W ≠ 0 then 0 else (dealsN (tN H) (tN W)).length
section
variable (N : Nat) (hN : 2000000 ≤ N) (L : List (List Int)) (hl : lgL L = false) (H W : List Int) (hH : H.length ≤ 20) (hW : W.length ≤ 20)
include hN hl hH hW
theorem count_ok : m29 N (.lst false L.length (rwsP L)) (.agg [rwP H, rwP W]) = some (.tup [.int .i64 ((cntE L H W : Nat) : Int), .int .i64 (ldE L H W)]) := by
  obtain ⟨c1, _⟩ := loaded_ok N (by omega) L hl H W hH hW
  rw [m29, gjL', gjA2, c1, bj_t, getI_t]
  unfold cntE
  by_cases h : ldE L H W = 0
  · obtain ⟨g1, g2, g3, g4, g5, g6⟩ := ldn_of h
    have e := each_cnt N hN L W.length g1 (tN H) (tN W) g4 g2 g3
    rw [← tI_rw, ← tI_rw, g5, g6] at e
    rw [h, brn_f (by rfl), e, bj_t, if_neg (by simp)]
    rfl
  · rw [brn_t (by simpa using h), if_pos h]; rfl
theorem cheapest_ok : m27 N (.lst false L.length (rwsP L)) (.agg [rwP H, rwP W]) = some (.tup [dP (cheE L H W), .int .i64 (ldE L H W)]) := by
  obtain ⟨c1, _⟩ := loaded_ok N (by omega) L hl H W hH hW
  rw [m27, gjL', gjA2, c1, bj_t, getI_t]
  unfold cheE
  by_cases h : ldE L H W = 0
  · obtain ⟨g1, g2, g3, g4, g5, g6⟩ := ldn_of h
    have e := each_chp N hN L W.length g1 (tN H) (tN W) g4 g2 g3
    have ne := cheap_ne N hN L W.length g1 (tN H) (tN W) g4 g2 g3
    rw [hdt_ne ne, ← tI_rw, ← tI_rw, g5, g6] at e
    rw [h, brn_f (by rfl), e, bj_t, if_neg (by simp)]
    rfl
  · rw [brn_t (by simpa using h), if_pos h]; rfl
theorem rcount_ok : m30 N (.lst false L.length (rwsP L)) (.agg [rwP H, rwP W]) = some (.tup [.int .i64 ((cntE L H W : Nat) : Int), .int .i64 (ldE L H W)]) := by
  obtain ⟨_, c1⟩ := loaded_ok N (by omega) L hl H W hH hW
  rw [m30, gjL', gjA2, c1, bj_t, getI_t]
  unfold cntE
  by_cases h : ldE L H W = 0
  · obtain ⟨g1, g2, g3, g4, g5, g6⟩ := ldn_of h
    have r3 := g1.r3
    have e := deals_ok N hN (tN H) N (tN W) (by omega) g4.sum g4.h5 g4.w5 g4.w4 (by omega)
    rw [← tI_rw, ← tI_rw, g5, g6] at e
    rw [h, brn_f (by rfl), show getL (rwP H) = fun f => f H.length (iL H) from rfl, show getL (rwP W) = fun f => f W.length (iL W) from rfl]
    dsimp only
    rw [show m74 N N (.lst false H.length (iL H)) (.lst false W.length (iL W)) = _ from e, bj_t, if_neg (by simp)]
    rfl
  · rw [brn_t (by simpa using h), if_pos h]; rfl
theorem rcheapest_ok : m28 N (.lst false L.length (rwsP L)) (.agg [rwP H, rwP W]) = some (.tup [dP (cheE L H W), .int .i64 (ldE L H W)]) := by
  obtain ⟨_, c1⟩ := loaded_ok N (by omega) L hl H W hH hW
  rw [m28, gjL', gjA2, c1, bj_t, getI_t]
  unfold cheE
  by_cases h : ldE L H W = 0
  · obtain ⟨g1, g2, g3, g4, g5, g6⟩ := ldn_of h
    have r3 := g1.r3
    have e := deals_ok N hN (tN H) N (tN W) (by omega) g4.sum g4.h5 g4.w5 g4.w4 (by omega)
    have hle := deals_le g4 (by omega)
    have hm := fun d (hd : d ∈ dealsN (tN H) (tN W)) => deals_mem (tN H) (tN W) d g4.w5 hd
    rw [g2, g3] at hm
    rw [← tI_rw, ← tI_rw, g5, g6] at e
    rw [h, brn_f (by rfl), show getL (rwP H) = fun f => f H.length (iL H) from rfl, show getL (rwP W) = fun f => f W.length (iL W) from rfl]
    dsimp only
    rw [show m74 N N (.lst false H.length (iL H)) (.lst false W.length (iL W)) = _ from e, bj_t, if_neg (by simp)]
    unfold cheapD
    cases q : dealsN (tN H) (tN W) with
    | nil => exact absurd q (deals_ne g4.sum)
    | cons b D =>
      rw [q] at hm hle
      have hl2 := rb_L N hN L W.length g1 (tN H) (tN W) g4 g2 g3 (b :: D) (by omega) hm D.length 1 N b (by simp) (by simp) (by simp at hle; omega) (hm b (.head _))
      have gb : ∀ {α : Type} {x : List (List Nat)} {f : Nat → List PV → Option α}, getL (dP x) f = f x.length (x.map rwN) := rfl
      rw [gjL', grd_t (by simp), grd_t (by simp), show gp (List.map dP (b :: D)) 0 = dP b from rfl, gb, show m28_L0 N L.length (rwsP L) (b :: D).length (List.map dP (b :: D)) N (.lst false b.length (b.map rwN)) 1 = _ from hl2, bj_t, gb]
      rfl
  · rw [brn_t (by simpa using h), if_pos h]; rfl
end
end Go.Proofs.Yteidcinajdehkaa
namespace Go.Proofs.Yteidcinajdehkaa
open Go.V
set_option linter.unusedSimpArgs false
set_option linter.unusedVariables false
theorem brn_dt {α : Type} {p : Prop} [Decidable p] {x y : Option α} (h : p) : brn (decide p) x y = x := brn_t (decide_eq_true h)
theorem brn_df {α : Type} {p : Prop} [Decidable p] {x y : Option α} (h : ¬ p) : brn (decide p) x y = y := brn_f (decide_eq_false h)
theorem brn_et {α : Type} {a b : Int} {x y : Option α} (h : a = b) : brn (a == b) x y = x := brn_t (by simpa using h)
theorem brn_nf {α : Type} {a b : Int} {x y : Option α} (h : a = b) : brn (a != b) x y = y := brn_f (by simpa using h)
theorem gX_i {α : Type} {X : List Int} {i : Nat} {f : Int → Option α} (h : i < X.length) : getI .i64 (gp (iL X) (Int.toNat (i : Int))) f = f (en X i) := by
  rw [toNatN, iL_gp h]; simp [getI]
theorem isame_L (N : Nat) (X : List Int) (hX : X.length ≤ 1000) : ∀ (s i fuel : Nat), X.length - i = s → s < fuel →
    m37_L0 N X.length (iL X) X.length (iL X) fuel (i : Int) = some (.inr ())
  | s, i, 0, _, h => by omega
  | s, i, f + 1, hs, hf => by
    rw [m37_L0]
    by_cases hi : i < X.length
    · have ih := isame_L N X hX (s - 1) (i + 1) f (by omega) (by omega)
      rw [brn_dt (by omega)]
      simp (disch := (try simp only [List.length_drop, iL_len, rws_len, toNatN]) <;> omega) only [↓grd_t, ↓gX_i]
      rw [brn_nf rfl, wrapN (by omega), ih]
    · rw [brn_df (by omega)]
theorem isame_ok (N : Nat) (hN : 2000 ≤ N) (X : List Int) (hX : X.length ≤ 1000) : m37 N (.lst false X.length (iL X)) (.lst false X.length (iL X)) = some (.bool true) := by
  have := isame_L N X hX X.length 0 N (by omega) (by omega)
  rw [m37, getL_t, getL_t, brn_nf rfl, show m37_L0 N X.length (iL X) X.length (iL X) N 0 = _ from this]
  rfl
def hvL (H W : List Int) : Bool := decide (20 < H.length) || decide (20 < W.length)
theorem heavy_ok (N : Nat) (H W : List Int) : m16 N (.agg [rwP H, rwP W]) = some (.bool (hvL H W)) := by
  rw [m16, getA2_t]
  unfold rwP hvL
  rw [getL_t]
  by_cases h : 20 < H.length
  · rw [brn_dt (by omega), decide_eq_true h]; rfl
  · rw [brn_df (by omega), decide_eq_false h, getL_t, Bool.false_or]
    congr 2
    exact decide_eq_decide.2 (by omega)
theorem alD_L (N : Nat) (hN : 2000 ≤ N) (d : List (List Nat)) (hd : d.length ≤ 20) (hr : ∀ r ∈ d, r.length ≤ 1000) : ∀ (s i fuel : Nat), d.length - i = s → s < fuel → m22_L0 N d.length (d.map rwN) d.length (d.map rwN) fuel (i : Int) = some (.inr ())
  | s, i, 0, _, h => by omega
  | s, i, f + 1, h1, h2 => by
    have lT : (d.map rwN).length = d.length := by simp
    rw [m22_L0]
    by_cases h : i < d.length
    · have e := isame_ok N hN (tI d[i]) (by rw [tI_len]; exact hr _ (List.getElem_mem h))
      have e' : m37 N (.lst false d[i].length (nL d[i])) (.lst false d[i].length (nL d[i])) = some (.bool true) := by
        have q := tI_rw d[i]
        unfold rwP rwN at q
        rw [← q]; exact e
      rw [brn_dt (by omega), toNatN, grd_t ⟨by omega, by omega⟩, grd_t (by rw [List.length_drop]; omega), gpR rwN d h, gjL, grd_t (by omega), grd_t (by rw [List.length_drop]; omega), gjL, e', bj_t, gjB, brn_t rfl, wrapN (by omega)]
      exact alD_L N hN d hd hr (s - 1) (i + 1) f (by omega) (by omega)
    · rw [brn_df (by omega)]
theorem alD_ok (N : Nat) (hN : 2000 ≤ N) (d : List (List Nat)) (hd : d.length ≤ 20) (hr : ∀ r ∈ d, r.length ≤ 1000) : m22 N (dP d) (dP d) = some (.bool true) := by
  have e := alD_L N hN d hd hr d.length 0 N (by omega) (by omega)
  rw [m22, show getL (dP d) = fun f => f d.length (d.map rwN) from rfl]
  dsimp only
  rw [brn_f (by simp), show m22_L0 N d.length (d.map rwN) d.length (d.map rwN) N 0 = _ from e, bj_t]
theorem cheE_b (N : Nat) (hN : 2000000 ≤ N) (L : List (List Int)) (H W : List Int) : (cheE L H W).length ≤ 20 ∧ ∀ r ∈ cheE L H W, r.length ≤ 1000 := by
  unfold cheE
  by_cases h : ldE L H W = 0
  · obtain ⟨g1, g2, g3, g4, g5, g6⟩ := ldn_of h
    obtain ⟨h1, h2⟩ := cheap_dvl N hN L W.length g1 (tN H) (tN W) g4 g2 g3
    have r3 := g1.r3
    have c4 := g1.c4
    rw [if_neg (by simpa using h)]
    exact ⟨by omega, fun r hr => by have := (h2 r hr).1; omega⟩
  · rw [if_pos h]; exact ⟨by simp, by simp⟩
theorem law4 (L : List (List Int)) (H W : List Int) : m4 2000000 (.lst false L.length (rwsP L)) (.agg [rwP H, rwP W]) = some (.bool true) := by
  have w : (bnd' (m17 2000000) fun p => getB p fun b => some (PV.bool b)) = some (.bool true) := rfl
  rw [m4, getL_t, getA2_t, large_ok 2000000 (by omega) L, bnd_t, getB_t]
  cases hl : lgL L with
  | true => rfl
  | false =>
    rw [brn_f rfl, heavy_ok, bnd_t, getB_t]
    cases hh : hvL H W with
    | true => rfl
    | false =>
      unfold hvL at hh
      simp only [Bool.or_eq_false_iff, decide_eq_false_iff_not] at hh
      have e1 := cheapest_ok 2000000 (Nat.le_refl _) L hl H W (by omega) (by omega)
      have e2 := rcheapest_ok 2000000 (Nat.le_refl _) L hl H W (by omega) (by omega)
      have e3 := count_ok 2000000 (Nat.le_refl _) L hl H W (by omega) (by omega)
      have e4 := rcount_ok 2000000 (Nat.le_refl _) L hl H W (by omega) (by omega)
      obtain ⟨x1, x2⟩ := cheE_b 2000000 (Nat.le_refl _) L H W
      have e5 := alD_ok 2000000 (by omega) _ x1 x2
      have gb : ∀ {α : Type} {x : List (List Nat)} {f : Nat → List PV → Option α}, getL (dP x) f = f x.length (x.map rwN) := rfl
      rw [brn_f rfl, e1, bnd_t, getT2_t, gb, getI_t, e2, bnd_t, getT2_t, gb, getI_t, e3, bnd_t, getT2_t, getI_t, getI_t, e4, bnd_t, getT2_t, getI_t, getI_t]
      rw [show m22 2000000 (.lst false (cheE L H W).length ((cheE L H W).map rwN)) (.lst false (cheE L H W).length ((cheE L H W).map rwN)) = _ from e5, bnd_t, getB_t, brn_t rfl, brn_et rfl, brn_et rfl, brn_et rfl]
      exact w
end Go.Proofs.Yteidcinajdehkaa
namespace Go.Proofs.Yteidcinajdehkaa
open Go.V
theorem row_of {x : List PV} (h : PT tab 23 x) : ∃ (y : PV) (r : List Int), x = [y] ∧ PLe y (rwP r) := by
  rcases h.slice' tl23 rfl with h | ⟨xs, h, hx⟩
  · exact ⟨.nl, [], h, .nl false⟩
  · obtain ⟨L, h1, h2, _⟩ := opened (fun p : Int => [PV.int .i64 p]) (fun x => PT tab 3 x) (fun _ => True)
      (fun x hx => by obtain ⟨n, e, _⟩ := hx.int' tl3 rfl; exact ⟨n, e, trivial⟩) xs hx
    refine ⟨_, L, h, ?_⟩
    rw [h2, ← h1]
    have : L.flatMap (fun p : Int => [PV.int .i64 p]) = iL L := by
      clear h1 h2
      induction L with
      | nil => rfl
      | cons a L ih => simpa [iL] using ih
    rw [this]
    exact .refl _
theorem rows_of' : ∀ (xs : List (List PV)), (∀ x ∈ xs, PT tab 23 x) → ∃ L : List (List Int), L.length = xs.length ∧ PLes xs.flatten (rwsP L)
  | [], _ => ⟨[], rfl, .nil⟩
  | x :: xs, h => by
    obtain ⟨L, h1, h2⟩ := rows_of' xs fun y hy => h y (.tail _ hy)
    obtain ⟨y, r, rfl, hr⟩ := row_of (h x (.head _))
    exact ⟨r :: L, by simp [h1], .cons _ _ _ _ hr h2⟩
theorem rows_of {x : PV} (h : PT tab 22 [x]) : ∃ L : List (List Int), PLe x (.lst false L.length (rwsP L)) := by
  rcases h.slice' tl22 rfl with h | ⟨xs, h, hx⟩
  · cases h; exact ⟨[], .nl false⟩
  · cases h
    obtain ⟨L, h1, h2⟩ := rows_of' xs hx
    refine ⟨L, ?_⟩
    rw [h1]
    exact .lst false false _ _ _ (fun h => h) h2
theorem two_of {qs : List PV} (h : PTs tab [(0, 23), (1, 23)] qs) : ∃ H W : List Int, PLes qs [rwP H, rwP W] := by
  obtain ⟨x, rs, rfl, hx, h⟩ := h.cons'
  obtain ⟨y, rs, rfl, hy, h⟩ := h.cons'
  obtain rfl := h.nil'
  obtain ⟨a, H, rfl, hH⟩ := row_of hx
  obtain ⟨b, W, rfl, hW⟩ := row_of hy
  exact ⟨H, W, .cons _ _ _ _ hH (.cons _ _ _ _ hW .nil)⟩
theorem con4 (x0 : PV) (h0 : PT tab 22 [x0]) (x1 : List PV) (h1 : PT tab 25 x1) : FnP Try.prog 4 [x0, .agg x1] (.bool true) := by
  obtain ⟨L, hL⟩ := rows_of h0
  obtain ⟨H, W, hl⟩ := two_of (h1.structs tl25 rfl)
  exact FnP_le (c4 2000000 _ _ _ (law4 L H W)) (.cons _ _ _ _ hL (.cons _ _ _ _ (.agg _ _ hl) .nil)) (.refl _)
end Go.Proofs.Yteidcinajdehkaa
namespace Go.Proofs.Yteidcinajdehkaa.dealFinds
open Go.ChangeShapes Go.WideShapes Go.ChangeAt Go.RowKit Go.V
theorem own : ownKnob Try.prog.godebug = none := by kernel_rfl
theorem laid : laidOutB Try.prog = true := by kernel_rfl
set_option maxRecDepth 100000 in
theorem lifted (os : Os) (started : os.Started) (H : Type) (enc : TypeId × Value → H) :
    ReturnsInHanded {} Try.checked os 4 .any (Rows.dealFindsSpec.pre6 enc Try.prog Try.f4 Rows.dealFindsRow.domain false) (Rows.dealFindsSpec.post enc Try.prog Try.f4 false true false false) := by
  refine returnsInHanded_of_change (C := Try.checked) own started (by kernel_rfl) Try.func4
    (ChangeSpec.witness6 (enc := enc) (C := Try.checked) false ⟨#[], #[.slice none 0 0, .agg #[.slice none 0 0, .slice none 0 0]], []⟩ 8 (by kernel_rfl) (by kernel_rfl) (by kernel_rfl) (by kernel_rfl)) ?_
  intro W base args ds gs before hval0 hW hcnd _
  have hW' := hW
  obtain ⟨p, q, hA0, hV, rfl, hfz, hnd⟩ := hW
  have hA : DataW.TrodAll enc Try.prog W 0 (fun _ => true) true Try.f4.params.toList args.toList ds p := hA0
  rw [Try.params4] at hA
  obtain ⟨v0, vs0, d0, ds0, p0, q0, e0, rfl, rfl, h0, hr0⟩ := trodAll_cons hA
  obtain ⟨v1, vs1, d1, ds1, p1, q1, e1, rfl, rfl, h1, hr1⟩ := trodAll_cons hr0
  obtain ⟨rfl, rfl, rfl⟩ := trodAll_nil hr1
  subst e1
  obtain rfl : args = #[v0, v1] := by cases args; simp_all
  obtain ⟨x0, k0, t0⟩ := arg_one (n := 8) tab_ok (hval0 0 22 v0 rfl rfl) h0 (by kernel_rfl) (by kernel_rfl)
  obtain ⟨x1, k1, t1⟩ := arg_agg (n := 8) tab_ok (hval0 1 25 v1 rfl rfl) h1 (by kernel_rfl) (by kernel_rfl)
  obtain ⟨rfl, rfl⟩ := trodVars_none hV
  clear hA0 hval0
  simp only [List.append_nil] at hW'
  refine (FnP.calls (W := W) (vals := #[v0, v1]) (con4 x0 t0 x1 t1) (.cons _ _ _ _ k0 (.cons _ _ _ _ k1 .nil)) (fun x hx => by simp [Gv] at hx)).mono fun e W' ⟨he, hg⟩ => ?_
  subst he
  exact ⟨_, rfl, post_of_kept (pv := []) hW' (fun _ _ _ => trodAll_cons_mk (shut_bool Try.underlying4 _) trodAll_mk0) (fun sp hsp => trodAll_cons_mk (Kept.trod hg laid (by kernel_rfl) (of_decide_eq_true (by kernel_rfl)) h0 (fun y hy => hsp y (by simp [hy]))) (trodAll_cons_mk (Kept.trod hg laid (by kernel_rfl) (of_decide_eq_true (by kernel_rfl)) h1 (fun y hy => hsp y (by simp [hy]))) (trodAll_mk0))) (fun _ _ => rfl) (by simp)
    hg (ok_one (by kernel_rfl) rfl (okWide_bool_mk Try.underlying4 _))⟩
theorem over : Rows.dealFindsRow.holds Try.pinned (OpenSpec.ofChange Rows.dealFindsSpec) :=
  OpenClaim.holds_of_wide 4 Try.f4 rfl rfl rfl rfl rfl rfl rfl ⟨rfl, rfl, rfl, rfl, rfl⟩ rfl rfl rfl rfl rfl (by kernel_rfl) Try.func4 (by kernel_rfl)
    (of_decide_eq_true (by kernel_rfl)) (by unfold Func.isWrapper; first | (rw [if_pos (by decide +kernel)]; kernel_rfl) | (rw [if_neg (by decide +kernel)]; exact ⟨rfl, rfl⟩))
    (fun os started H enc _ => lifted os started H enc)
end Go.Proofs.Yteidcinajdehkaa.dealFinds
namespace Go.Proofs.Yteidcinajdehkaa
/-- the statement -/
theorem dealFinds_holds : Rows.DealFindsSaid := dealFinds.over
#print axioms dealFinds_holds
end Go.Proofs.Yteidcinajdehkaa
