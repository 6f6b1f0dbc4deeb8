/-
  DealPrices: the law returns true.
-/
import Derived.Test.YteidcinajdehkaaPOrdA
import Derived.Test.YteidcinajdehkaaPCstA
import Derived.Test.YteidcinajdehkaaPPriA
import Derived.Test.YteidcinajdehkaaPV32
import Derived.Test.YteidcinajdehkaaRows
import Derived.Test.YteidcinajdehkaaPV31
import Derived.WalkKit
import Derived.ProofKit
import Derived.OpenShut
set_option linter.unusedSimpArgs false
set_option linter.unusedVariables false
namespace Go.Proofs.Yteidcinajdehkaa
open Go.V
theorem brn_t {α : Type} {b : Bool} {x y : Option α} (h : b = true) : brn b x y = x := by subst h; rfl
theorem brn_f {α : Type} {b : Bool} {x y : Option α} (h : b = false) : brn b x y = y := by subst h; rfl
theorem grd_t {α : Type} {p : Prop} [Decidable p] {k : Option α} (h : p) : grd p k = k := by simp [grd, h]
theorem wrapN {n : Nat} (h : n ≤ 100000) : IntKind.i64.wrap ((n : Int) + 1) = ((n + 1 : Nat) : Int) := by
  rw [wrap64 (by omega) (by omega)]; omega
theorem toNatN (n : Nat) : Int.toNat (n : Int) = n := by omega
theorem eq0_t {n : Nat} (h : n = 0) : ((n : Int) == 0) = true := by subst h; rfl
theorem eq0_f {n : Nat} (h : n ≠ 0) : ((n : Int) == 0) = false := by
  rw [beq_eq_false_iff_ne]; omega
theorem range'_step {i n : Nat} (h : i < n) : List.range' i (n - i) = i :: List.range' (i + 1) (n - (i + 1)) := by
  rw [show n - i = (n - (i + 1)) + 1 by omega, List.range'_succ]
def iL (X : List Int) : List PV := X.map (PV.int .i64)
theorem iL_len (X : List Int) : (iL X).length = X.length := by simp [iL]
def en (X : List Int) (i : Nat) : Int := X.getD i 0
theorem iL_gp {X : List Int} {i : Nat} (h : i < X.length) : gp (iL X) i = .int .i64 (en X i) := by
  simp [iL, gp, en, List.getD, h]
def nL (X : List Nat) : List PV := X.map fun (k : Nat) => PV.int .i64 (k : Int)
theorem nL_len (X : List Nat) : (nL X).length = X.length := by simp [nL]
def nn (X : List Nat) (i : Nat) : Nat := X.getD i 0
theorem nL_gp {X : List Nat} {i : Nat} (h : i < X.length) : gp (nL X) i = .int .i64 (nn X i : Int) := by
  simp [nL, gp, nn, List.getD, h]
theorem nn_mem {X : List Nat} {i : Nat} (h : i < X.length) : nn X i ∈ X := by
  simp [nn, List.getD, h]
def rwP (r : List Int) : PV := .lst false r.length (iL r)
def rwN (r : List Nat) : PV := .lst false r.length (nL r)
def rwsP (L : List (List Int)) : List PV := L.map rwP
theorem rws_len (L : List (List Int)) : (rwsP L).length = L.length := by simp [rwsP]
def ro (L : List (List Int)) (i : Nat) : List Int := L.getD i []
theorem rws_gp {L : List (List Int)} {i : Nat} (h : i < L.length) : gp (rwsP L) i = .lst false (ro L i).length (iL (ro L i)) := by
  simp [rwsP, gp, ro, rwP, List.getD, h]
theorem ro_mem {L : List (List Int)} {i : Nat} (h : i < L.length) : ro L i ∈ L := by
  simp [ro, List.getD, h]
theorem en_mem {X : List Int} {i : Nat} (h : i < X.length) : en X i ∈ X := by
  simp [en, List.getD, h]
theorem drop_ro {L : List (List Int)} {i : Nat} (h : i < L.length) : L.drop i = ro L i :: L.drop (i + 1) := by
  rw [List.drop_eq_getElem_cons h]; simp [ro, List.getD, h]
theorem drop_en {L : List Int} {i : Nat} (h : i < L.length) : L.drop i = en L i :: L.drop (i + 1) := by
  rw [List.drop_eq_getElem_cons h]; simp [en, List.getD, h]
def lgL (L : List (List Int)) : Bool := decide (20 < L.length) || L.any fun r => decide (20 < r.length)
theorem large_L (N : Nat) (L : List (List Int)) (hL : L.length ≤ 20) : ∀ (r i fuel : Nat), L.length - i = r → r < fuel →
    m15_L0 N L.length (rwsP L) fuel (i : Int) = some (if (L.drop i).any (fun r => decide (20 < r.length)) then .inl (.bool true) else .inr ())
  | r, i, 0, _, h => by omega
  | r, i, f + 1, hr, hf => by
    have hl := rws_len L
    rw [m15_L0]
    by_cases hi : i < L.length
    · have ih := large_L N L hL (r - 1) (i + 1) f (by omega) (by omega)
      rw [brn_t (by simp; omega), toNatN, grd_t ⟨by omega, by omega⟩, grd_t (by simp only [List.length_drop]; omega), rws_gp hi, drop_ro hi]
      simp only [getL, List.any_cons]
      by_cases h : 20 < (ro L i).length
      · rw [brn_t (by simp; omega)]; simp [h]
      · rw [brn_f (by simp; omega), wrapN (by omega), ih]; simp [h]
    · rw [brn_f (by simp; omega), List.drop_eq_nil_of_le (by omega)]; rfl
theorem large_ok (N : Nat) (hN : 100 ≤ N) (L : List (List Int)) : m15 N (.lst false L.length (rwsP L)) = some (.bool (lgL L)) := by
  simp only [m15, getL]
  by_cases h : 20 < L.length
  · rw [brn_t (by simp; omega)]; simp [lgL, h]
  · have := large_L N L (by omega) L.length 0 N (by omega) (by omega)
    rw [brn_f (by simp; omega), show m15_L0 N L.length (rwsP L) N 0 = _ from this, List.drop_zero]
    simp only [lgL, h, decide_false, Bool.false_or]
    cases L.any fun r => decide (20 < r.length) <;> rfl
def bad (lo hi n : Int) : Bool := decide (n < lo) || decide (n > hi)
theorem wrong_L (N : Nat) (lo hi : Int) (X : List Int) (hX : X.length ≤ 1000) : ∀ (r i fuel : Nat), X.length - i = r → r < fuel →
    ∃ o, m103_L0 N lo hi X.length (iL X) fuel (i : Int) = some o ∧ ((X.drop i).any (bad lo hi) = true → ∃ k : Nat, o = .inl (.int .i64 (k : Int))) ∧ ((X.drop i).any (bad lo hi) = false → o = .inr ())
  | r, i, 0, _, h => by omega
  | r, i, f + 1, hr, hf => by
    have hl := iL_len X
    rw [m103_L0]
    by_cases hi' : i < X.length
    · obtain ⟨o, o1, o2, o3⟩ := wrong_L N lo hi X hX (r - 1) (i + 1) f (by omega) (by omega)
      have hb : m93 N (en X i) lo hi = some (.bool (bad lo hi (en X i))) := by
        unfold m93 bad
        by_cases h : en X i < lo
        · rw [brn_t (by simpa using h)]; simp [h]
        · rw [brn_f (by simpa using h)]; simp [h]
      rw [brn_t (by simp; omega), toNatN, grd_t ⟨by omega, by omega⟩, grd_t (by simp only [List.length_drop]; omega), iL_gp hi', drop_en hi']
      simp only [getI, if_true, hb, bnd', getB, List.any_cons]
      cases h : bad lo hi (en X i) with
      | true => rw [brn_t rfl]; exact ⟨_, rfl, fun _ => ⟨i, rfl⟩, fun h => by simp at h⟩
      | false =>
        rw [brn_f rfl, wrapN (by omega)]
        exact ⟨o, o1, fun h => o2 (by simpa using h), fun h => o3 (by simpa using h)⟩
    · rw [brn_f (by simp; omega), List.drop_eq_nil_of_le (by omega)]
      exact ⟨_, rfl, fun h => by simp at h, fun _ => rfl⟩
theorem wrong_ok (N : Nat) (hN : 2000 ≤ N) (lo hi : Int) (X : List Int) (hX : X.length ≤ 1000) : m68 N (.lst false X.length (iL X)) lo hi = some (.bool (X.any (bad lo hi))) := by
  obtain ⟨o, o1, o2, o3⟩ := wrong_L N lo hi X hX X.length 0 N (by omega) (by omega)
  rw [List.drop_zero] at o2 o3
  simp only [m68, m92, m103, getL]
  rw [show m103_L0 N lo hi X.length (iL X) N 0 = some o from o1]
  cases h : X.any (bad lo hi) with
  | true =>
    obtain ⟨k, hk⟩ := o2 h
    rw [hk]; simp [bnd', getI, getB]
  | false => rw [o3 h]; simp [bnd', getI, getB]
def selF : Bool → PV ⊕ Unit
  | true => .inl (.bool false)
  | false => .inr ()
theorem within_L (N : Nat) (lo hi : Int) (X : List Int) (hX : X.length ≤ 1000) : ∀ (r i fuel : Nat), X.length - i = r → r < fuel →
    m70_L0 N lo hi X.length (iL X) fuel (i : Int) = some (selF ((X.drop i).any (bad lo hi)))
  | r, i, 0, _, h => by omega
  | r, i, f + 1, hr, hf => by
    have hl := iL_len X
    rw [m70_L0]
    by_cases hi' : i < X.length
    · have ih := within_L N lo hi X hX (r - 1) (i + 1) f (by omega) (by omega)
      have hb : m94 N (en X i) lo hi = some (.bool (!bad lo hi (en X i))) := by
        unfold m94 bad
        by_cases h : en X i < lo
        · rw [brn_f (by simp; omega)]; simp [h]
        · rw [brn_t (by simp; omega)]
          by_cases h2 : en X i > hi
          · have : ¬ en X i ≤ hi := by omega
            simp [h, h2, this]
          · have : en X i ≤ hi := by omega
            simp [h, h2, this]
      rw [brn_t (by simp; omega), toNatN, grd_t ⟨by omega, by omega⟩, grd_t (by simp only [List.length_drop]; omega), iL_gp hi', drop_en hi']
      simp only [getI, if_true, hb, bnd', getB, List.any_cons]
      rcases Bool.eq_false_or_eq_true (bad lo hi (en X i)) with h | h
      · rw [h, Bool.not_true, brn_f rfl, Bool.true_or]; rfl
      · rw [h, Bool.not_false, brn_t rfl, wrapN (by omega), ih, Bool.false_or]
    · rw [brn_f (by simp; omega), List.drop_eq_nil_of_le (by omega)]; rfl
theorem within_ok (N : Nat) (hN : 2000 ≤ N) (lo hi : Int) (X : List Int) (hX : X.length ≤ 1000) : m70 N (.lst false X.length (iL X)) lo hi = some (.bool (!X.any (bad lo hi))) := by
  have := within_L N lo hi X hX X.length 0 N (by omega) (by omega)
  simp only [m70, getL]
  rw [show m70_L0 N lo hi X.length (iL X) N 0 = _ from this, List.drop_zero]
  cases X.any (bad lo hi) <;> rfl
def chR (c : Nat) : List (List Int) → Int
  | [] => 0
  | r :: rs => if r.length ≠ c then 5 else if r.any (bad 0 20) then 1 else chR c rs
def chk (L : List (List Int)) : Int :=
  if L.length = 0 then 4 else if (ro L 0).length = 0 then 4 else if 3 < L.length then 3 else if 4 < (ro L 0).length then 3 else chR (ro L 0).length L
def outE (e : Int) : PV ⊕ Unit := if e = 0 then .inr () else .inl (.int .i64 e)
theorem check_L (N : Nat) (hN : 2000 ≤ N) (L : List (List Int)) (hL : L.length ≤ 20) (hr20 : ∀ r ∈ L, r.length ≤ 20) (c : Nat) : ∀ (r i fuel : Nat), L.length - i = r → r < fuel →
    m23_L0 N L.length (rwsP L) c fuel (i : Int) = some (outE (chR c (L.drop i))) ∧ m24_L0 N L.length (rwsP L) c fuel (i : Int) = some (outE (chR c (L.drop i)))
  | r, i, 0, _, h => by omega
  | r, i, f + 1, hr, hf => by
    have hl := rws_len L
    rw [m23_L0, m24_L0]
    by_cases hi : i < L.length
    · obtain ⟨i1, i2⟩ := check_L N hN L hL hr20 c (r - 1) (i + 1) f (by omega) (by omega)
      have hm := hr20 _ (ro_mem hi)
      have q1 : ∀ {α : Type} (y z : Option α), brn (decide ((i : Int) < (L.length : Int))) y z = y := fun y z => brn_t (by simp; omega)
      rw [q1, q1, toNatN, grd_t ⟨by omega, by omega⟩, grd_t (by simp only [List.length_drop]; omega), grd_t ⟨by omega, by omega⟩, grd_t (by simp only [List.length_drop]; omega), rws_gp hi, drop_ro hi]
      simp only [getL, wrong_ok N hN 0 20 (ro L i) (by omega), within_ok N hN 0 20 (ro L i) (by omega), bnd', getB, chR]
      by_cases h : (ro L i).length = c
      · have q2 : ∀ {α : Type} (y z : Option α), brn (((ro L i).length : Int) != (c : Int)) y z = z := fun y z => brn_f (by simp; omega)
        rw [q2, q2, if_neg (by simpa using h)]
        cases hb : (ro L i).any (bad 0 20) with
        | true => rw [brn_t rfl, if_pos rfl]; exact ⟨rfl, rfl⟩
        | false =>
          rw [brn_f rfl, wrapN (by omega), if_neg (by simp)]
          exact ⟨i1, i2⟩
      · have q2 : ∀ {α : Type} (y z : Option α), brn (((ro L i).length : Int) != (c : Int)) y z = y := fun y z => brn_t (by simp; omega)
        rw [q2, q2, if_pos h]
        exact ⟨rfl, rfl⟩
    · have q1 : ∀ {α : Type} (y z : Option α), brn (decide ((i : Int) < (L.length : Int))) y z = z := fun y z => brn_f (by simp; omega)
      rw [q1, q1, List.drop_eq_nil_of_le (by omega)]
      exact ⟨rfl, rfl⟩
theorem outE_end {x : Int} : (match outE x with | .inl p => some p | .inr () => some (PV.int .i64 0)) = some (.int .i64 x) := by
  unfold outE
  by_cases h : x = 0
  · rw [if_pos h, h]
  · rw [if_neg h]
theorem check_ok (N : Nat) (hN : 2000 ≤ N) (L : List (List Int)) (hL : lgL L = false) : m23 N (.lst false L.length (rwsP L)) = some (.int .i64 (chk L)) ∧ m24 N (.lst false L.length (rwsP L)) = some (.int .i64 (chk L)) := by
  simp only [lgL, Bool.or_eq_false_iff, decide_eq_false_iff_not] at hL
  have hL1 : L.length ≤ 20 := by omega
  have hr20 : ∀ r ∈ L, r.length ≤ 20 := fun r hr => by
    have h := hL.2
    rw [List.any_eq_false] at h
    have := h r hr
    simp at this; exact this
  have hl := rws_len L
  simp only [m23, m24, getL]
  unfold chk
  by_cases h0 : L.length = 0
  · have q : ∀ {α : Type} (y z : Option α), brn ((L.length : Int) == 0) y z = y := fun y z => brn_t (eq0_t h0)
    rw [q, q, if_pos h0]; exact ⟨rfl, rfl⟩
  · have q : ∀ {α : Type} (y z : Option α), brn ((L.length : Int) == 0) y z = z := fun y z => brn_f (eq0_f h0)
    rw [q, q, if_neg h0, grd_t (by omega), grd_t (by omega), grd_t (by omega), grd_t (by omega), rws_gp (by omega)]
    simp only []
    by_cases h1 : (ro L 0).length = 0
    · have q : ∀ {α : Type} (y z : Option α), brn (((ro L 0).length : Int) == 0) y z = y := fun y z => brn_t (eq0_t h1)
      rw [q, q, if_pos h1]; exact ⟨rfl, rfl⟩
    · have q : ∀ {α : Type} (y z : Option α), brn (((ro L 0).length : Int) == 0) y z = z := fun y z => brn_f (eq0_f h1)
      rw [q, q, if_neg h1]
      by_cases h2 : 3 < L.length
      · have q : ∀ {α : Type} (y z : Option α), brn (decide ((L.length : Int) > 3)) y z = y := fun y z => brn_t (by simp; omega)
        rw [q, q, if_pos h2]; exact ⟨rfl, rfl⟩
      · have q : ∀ {α : Type} (y z : Option α), brn (decide ((L.length : Int) > 3)) y z = z := fun y z => brn_f (by simp; omega)
        rw [q, q, if_neg h2]
        by_cases h3 : 4 < (ro L 0).length
        · have q : ∀ {α : Type} (y z : Option α), brn (decide (((ro L 0).length : Int) > 4)) y z = y := fun y z => brn_t (by simp; omega)
          rw [q, q, if_pos h3]; exact ⟨rfl, rfl⟩
        · have q : ∀ {α : Type} (y z : Option α), brn (decide (((ro L 0).length : Int) > 4)) y z = z := fun y z => brn_f (by simp; omega)
          obtain ⟨e1, e2⟩ := check_L N hN L hL1 hr20 (ro L 0).length L.length 0 N (by omega) (by omega)
          rw [List.drop_zero] at e1 e2
          rw [q, q, if_neg h3, show m23_L0 N L.length (rwsP L) (ro L 0).length N 0 = _ from e1, show m24_L0 N L.length (rwsP L) (ro L 0).length N 0 = _ from e2]
          simp only [bnd']
          exact ⟨outE_end, outE_end⟩
structure Okc (L : List (List Int)) (c : Nat) : Prop where
  r1 : 1 ≤ L.length
  r3 : L.length ≤ 3
  c1 : 1 ≤ c
  c4 : c ≤ 4
  row : ∀ i, i < L.length → (ro L i).length = c
  val : ∀ i j, i < L.length → j < c → 0 ≤ en (ro L i) j ∧ en (ro L i) j ≤ 20
theorem chR_zero {c : Nat} : ∀ {L : List (List Int)}, chR c L = 0 → ∀ r ∈ L, r.length = c ∧ r.any (bad 0 20) = false
  | [], _, _, h => by simp at h
  | r :: rs, h, x, hx => by
    unfold chR at h
    split at h
    · cases h
    · rename_i h1
      split at h
      · cases h
      · rename_i h2
        rcases List.mem_cons.1 hx with rfl | hx
        · exact ⟨by omega, by simpa using h2⟩
        · exact chR_zero h x hx
theorem chk_zero {L : List (List Int)} (h : chk L = 0) : Okc L (ro L 0).length := by
  unfold chk at h
  split at h
  · cases h
  · split at h
    · cases h
    · split at h
      · cases h
      · split at h
        · cases h
        · have hz := chR_zero h
          refine ⟨by omega, by omega, by omega, by omega, fun i hi => (hz _ (ro_mem hi)).1, fun i j hi hj => ?_⟩
          obtain ⟨h1, h2⟩ := hz _ (ro_mem hi)
          rw [List.any_eq_false] at h2
          have := h2 _ (en_mem (X := ro L i) (i := j) (by omega))
          simp only [bad, Bool.or_eq_true, decide_eq_true_eq, not_or] at this
          omega
theorem numbers_L (N n : Nat) (hn : n ≤ 1000) : ∀ (r i fuel : Nat), n - i = r → i ≤ n → r < fuel →
    m77_L0 N (n : Int) fuel (i : Int) (nL (List.range i) ++ List.replicate (n - i) (.int .i64 0)) = some (nL (List.range n))
  | r, i, 0, _, _, h => by omega
  | r, i, f + 1, hr, hi, hf => by
    have hl := nL_len (List.range i)
    simp only [List.length_range] at hl
    rw [m77_L0, toNatN]
    by_cases h : i < n
    · have ih := numbers_L N n hn (r - 1) (i + 1) f (by omega) (by omega) (by omega)
      have e : (nL (List.range i) ++ List.replicate (n - i) (PV.int .i64 0)).set i (.int .i64 (i : Int)) = nL (List.range (i + 1)) ++ List.replicate (n - (i + 1)) (.int .i64 0) := by
        rw [show n - i = (n - (i + 1)) + 1 by omega, List.replicate_succ, List.set_append_right _ _ (by omega), hl, Nat.sub_self, List.set_cons_zero]
        simp [nL, List.range_succ]
      rw [brn_t (by simp; omega), grd_t ⟨by omega, by omega⟩, toNatN, grd_t (by simp only [List.length_append, List.length_replicate]; omega), e, wrapN (by omega), ih]
    · have : i = n := by omega
      subst this
      rw [brn_f (by simp)]; simp
theorem numbers_ok (N n : Nat) (hN : 2000 ≤ N) (hn : n ≤ 1000) : m77 N (n : Int) = some (rwN (List.range n)) := by
  have := numbers_L N n hn n 0 N (by omega) (by omega) (by omega)
  simp only [List.range_zero, Nat.sub_zero] at this
  rw [m77, grd_t ⟨by omega, by omega, by omega⟩, toNatN]
  rw [show m77_L0 N (n : Int) N 0 (List.replicate n (.int .i64 0)) = _ from this]
  simp only [bnd']
  rw [grd_t (by rw [nL_len]; simp)]
  simp [rwN]
def cst (L : List (List Int)) (i j : Nat) : Int := en (ro L i) j
def crB (M : Nat → Nat → Int) (i k j l : Nat) : Bool := decide (M i j + M k l > M i l + M k j)
def adjR (M : Nat → Nat → Int) (x : Nat) (c : Nat) : Bool := (List.range' 1 (c - 1)).all fun y => !crB M (x - 1) x (y - 1) y
def adjB (M : Nat → Nat → Int) (r c : Nat) : Bool := (List.range' 1 (r - 1)).all fun x => adjR M x c
def ordM (L : List (List Int)) (H B : List Nat) : Nat → Nat → Int := fun x y => cst L (nn H x) (nn B y)
theorem all_step {p : Nat → Bool} {i n : Nat} (h : i < n) : (List.range' i (n - i)).all p = (p i && (List.range' (i + 1) (n - (i + 1))).all p) := by
  rw [range'_step h, List.all_cons]
theorem all_end {p : Nat → Bool} {i n : Nat} (h : ¬ i < n) : (List.range' i (n - i)).all p = true := by
  rw [show n - i = 0 by omega]; rfl
theorem str_L1 (N : Nat) (L : List (List Int)) (c : Nat) (hL : Okc L c) (H B : List Nat) (hHl : H.length ≤ 100) (hBl : B.length ≤ 100) (hB : ∀ b ∈ B, b < c) (x : Nat) (hx1 : 1 ≤ x) (hx : x < H.length) (h1 : nn H (x - 1) < L.length) (h2 : nn H x < L.length) : ∀ (r y fuel : Nat), B.length - y = r → r < fuel → 1 ≤ y →
    m76_L1 N L.length (rwsP L) H.length (nL H) B.length (nL B) (x : Int) (ro L (nn H (x - 1))).length (iL (ro L (nn H (x - 1)))) (ro L (nn H x)).length (iL (ro L (nn H x))) fuel (y : Int) =
      some (selF (!((List.range' y (B.length - y)).all fun y => !crB (ordM L H B) (x - 1) x (y - 1) y)))
  | r, y, 0, _, h, _ => by omega
  | r, y, f + 1, hr, hf, hy => by
    have hbl := nL_len B
    have l1 := hL.row _ h1
    have l2 := hL.row _ h2
    have i1 := iL_len (ro L (nn H (x - 1)))
    have i2 := iL_len (ro L (nn H x))
    rw [m76_L1]
    by_cases h : y < B.length
    · have ih := str_L1 N L c hL H B hHl hBl hB x hx1 hx h1 h2 (r - 1) (y + 1) f (by omega) (by omega) (by omega)
      have hw : IntKind.i64.wrap ((y : Int) - 1) = ((y - 1 : Nat) : Int) := by rw [wrap64 (by omega) (by omega)]; omega
      have b1 := hB _ (nn_mem (X := B) (i := y - 1) (by omega))
      have b2 := hB _ (nn_mem h)
      have v1 := hL.val _ _ h1 b1
      have v2 := hL.val _ _ h1 b2
      have v3 := hL.val _ _ h2 b1
      have v4 := hL.val _ _ h2 b2
      rw [brn_t (by simp; omega), hw, toNatN, toNatN, grd_t ⟨by omega, by omega⟩, grd_t (by simp only [List.length_drop]; omega), nL_gp (by omega)]
      simp only [getI, if_true]
      rw [grd_t ⟨by omega, by omega⟩, grd_t (by simp only [List.length_drop]; omega), nL_gp h]
      simp only [if_true]
      rw [toNatN, toNatN, grd_t ⟨by omega, by omega⟩, grd_t (by simp only [List.length_drop]; omega), iL_gp (by omega)]
      simp only [if_true]
      rw [grd_t ⟨by omega, by omega⟩, grd_t (by simp only [List.length_drop]; omega), iL_gp (by omega)]
      simp only [if_true]
      rw [grd_t (by omega), grd_t (by simp only [List.length_drop]; omega), iL_gp (by omega)]
      simp only [if_true]
      rw [grd_t (by omega), grd_t (by simp only [List.length_drop]; omega), iL_gp (by omega)]
      simp only [if_true]
      rw [wrap64 (n := en (ro L (nn H (x - 1))) (nn B (y - 1)) + en (ro L (nn H x)) (nn B y)) (by omega) (by omega), wrap64 (n := en (ro L (nn H (x - 1))) (nn B y) + en (ro L (nn H x)) (nn B (y - 1))) (by omega) (by omega), all_step h]
      have e : crB (ordM L H B) (x - 1) x (y - 1) y = decide (en (ro L (nn H (x - 1))) (nn B (y - 1)) + en (ro L (nn H x)) (nn B y) > en (ro L (nn H (x - 1))) (nn B y) + en (ro L (nn H x)) (nn B (y - 1))) := rfl
      rw [e]
      by_cases hc : en (ro L (nn H (x - 1))) (nn B (y - 1)) + en (ro L (nn H x)) (nn B y) > en (ro L (nn H (x - 1))) (nn B y) + en (ro L (nn H x)) (nn B (y - 1))
      · rw [brn_t (by simpa using hc), decide_eq_true hc, Bool.not_true, Bool.false_and]; rfl
      · rw [brn_f (by simpa using hc), decide_eq_false hc, Bool.not_false, Bool.true_and, wrapN (by omega), ih]
    · rw [brn_f (by simp; omega), all_end h]; rfl
theorem str_L0 (N : Nat) (hN : 2000 ≤ N) (L : List (List Int)) (c : Nat) (hL : Okc L c) (H B : List Nat) (hHl : H.length ≤ 100) (hBl : B.length ≤ 100) (hH : ∀ a ∈ H, a < L.length) (hB : ∀ b ∈ B, b < c) : ∀ (r x fuel : Nat), H.length - x = r → r < fuel → 1 ≤ x →
    m76_L0 N L.length (rwsP L) H.length (nL H) B.length (nL B) fuel (x : Int) = some (selF (!((List.range' x (H.length - x)).all fun x => adjR (ordM L H B) x B.length)))
  | r, x, 0, _, h, _ => by omega
  | r, x, f + 1, hr, hf, hx => by
    have hhl := nL_len H
    have hrl := rws_len L
    rw [m76_L0]
    by_cases h : x < H.length
    · have ih := str_L0 N hN L c hL H B hHl hBl hH hB (r - 1) (x + 1) f (by omega) (by omega) (by omega)
      have hw : IntKind.i64.wrap ((x : Int) - 1) = ((x - 1 : Nat) : Int) := by rw [wrap64 (by omega) (by omega)]; omega
      have a1 := hH _ (nn_mem (X := H) (i := x - 1) (by omega))
      have a2 := hH _ (nn_mem h)
      have h1 := str_L1 N L c hL H B hHl hBl hB x hx h a1 a2 (B.length - 1) 1 N rfl (by omega) (by omega)
      rw [brn_t (by simp; omega), hw, toNatN, toNatN, grd_t ⟨by omega, by omega⟩, grd_t (by simp only [List.length_drop]; omega), nL_gp (by omega)]
      simp only [getI, if_true]
      rw [toNatN, grd_t ⟨by omega, by omega⟩, grd_t (by simp only [List.length_drop]; omega), rws_gp a1]
      simp only [getL]
      rw [grd_t ⟨by omega, by omega⟩, grd_t (by simp only [List.length_drop]; omega), nL_gp h]
      simp only [if_true]
      rw [toNatN, grd_t ⟨by omega, by omega⟩, grd_t (by simp only [List.length_drop]; omega), rws_gp a2]
      simp only []
      rw [show m76_L1 N L.length (rwsP L) H.length (nL H) B.length (nL B) (x : Int) (ro L (nn H (x - 1))).length (iL (ro L (nn H (x - 1)))) (ro L (nn H x)).length (iL (ro L (nn H x))) N 1 = _ from h1, all_step h]
      have e : ((List.range' 1 (B.length - 1)).all fun y => !crB (ordM L H B) (x - 1) x (y - 1) y) = adjR (ordM L H B) x B.length := rfl
      rw [e]
      cases adjR (ordM L H B) x B.length with
      | false => rfl
      | true =>
        rw [Bool.not_true, Bool.true_and]
        show m76_L0 N L.length (rwsP L) H.length (nL H) B.length (nL B) f (IntKind.i64.wrap ((x : Int) + 1)) = _
        rw [wrapN (by omega), ih]
    · rw [brn_f (by simp; omega), all_end h]; rfl
theorem straight_ok (N : Nat) (hN : 2000 ≤ N) (L : List (List Int)) (c : Nat) (hL : Okc L c) (H B : List Nat) (hHl : H.length ≤ 100) (hBl : B.length ≤ 100) (hH : ∀ a ∈ H, a < L.length) (hB : ∀ b ∈ B, b < c) :
    m76 N (.lst false L.length (rwsP L)) (rwN H) (rwN B) = some (.bool (adjB (ordM L H B) H.length B.length)) := by
  have h := str_L0 N hN L c hL H B hHl hBl hH hB (H.length - 1) 1 N rfl (by omega) (by omega)
  simp only [m76, getL, rwN]
  rw [show m76_L0 N L.length (rwsP L) H.length (nL H) B.length (nL B) N 1 = _ from h]
  have e : ((List.range' 1 (H.length - 1)).all fun x => adjR (ordM L H B) x B.length) = adjB (ordM L H B) H.length B.length := rfl
  rw [e]
  cases adjB (ordM L H B) H.length B.length <;> rfl
def Str (M : Nat → Nat → Int) (r c : Nat) : Prop := ∀ i k j l, i < k → k < r → j < l → l < c → M i j + M k l ≤ M i l + M k j
theorem adj_str {M : Nat → Nat → Int} {r c : Nat} : adjB M r c = true ↔ Str M r c := by
  constructor
  · intro h
    have h0 : ∀ x y, x + 1 < r → y + 1 < c → M x y + M (x + 1) (y + 1) ≤ M x (y + 1) + M (x + 1) y := fun x y hx hy => by
      have h1 := List.all_eq_true.1 h (x + 1) (List.mem_range'_1.2 ⟨by omega, by omega⟩)
      have h2 := List.all_eq_true.1 h1 (y + 1) (List.mem_range'_1.2 ⟨by omega, by omega⟩)
      simp only [Nat.add_sub_cancel, crB, Bool.not_eq_true', decide_eq_false_iff_not] at h2
      omega
    have h1 : ∀ x d y, x + 1 < r → y + 1 + d < c → M x y + M (x + 1) (y + 1 + d) ≤ M x (y + 1 + d) + M (x + 1) y := by
      intro x d
      induction d with
      | zero => intro y hx hy; exact h0 x y hx hy
      | succ d ih =>
        intro y hx hy
        have e1 := ih y hx (by omega)
        have e2 := h0 x (y + 1 + d) hx (by omega)
        rw [show y + 1 + (d + 1) = y + 1 + d + 1 by omega]
        omega
    have h2 : ∀ d x j l, x + 1 + d < r → j < l → l < c → M x j + M (x + 1 + d) l ≤ M x l + M (x + 1 + d) j := by
      intro d
      induction d with
      | zero =>
        intro x j l hx hj hl
        have := h1 x (l - (j + 1)) j hx (by omega)
        rw [show j + 1 + (l - (j + 1)) = l by omega] at this
        exact this
      | succ d ih =>
        intro x j l hx hj hl
        have e1 := ih x j l (by omega) hj hl
        have e2 := h1 (x + 1 + d) (l - (j + 1)) j (by omega) (by omega)
        rw [show j + 1 + (l - (j + 1)) = l by omega] at e2
        rw [show x + 1 + (d + 1) = x + 1 + d + 1 by omega]
        omega
    intro i k j l hi hk hj hl
    have := h2 (k - (i + 1)) i j l (by omega) hj hl
    rw [show i + 1 + (k - (i + 1)) = k by omega] at this
    exact this
  · intro h
    refine List.all_eq_true.2 fun x hx => List.all_eq_true.2 fun y hy => ?_
    have hx := List.mem_range'_1.1 hx
    have hy := List.mem_range'_1.1 hy
    have := h (x - 1) x (y - 1) y (by omega) (by omega) (by omega) (by omega)
    simp only [crB, Bool.not_eq_true', decide_eq_false_iff_not]
    omega
def fL3 (M : Nat → Nat → Int) (c i k j l0 : Nat) : Option (Nat × Nat × Nat × Nat) := (List.range' l0 (c - l0)).findSome? fun l => if crB M i k j l then some (i, k, j, l) else none
def fL2 (M : Nat → Nat → Int) (c i k j0 : Nat) : Option (Nat × Nat × Nat × Nat) := (List.range' j0 (c - j0)).findSome? fun j => fL3 M c i k j (j + 1)
def fL1 (M : Nat → Nat → Int) (r c i k0 : Nat) : Option (Nat × Nat × Nat × Nat) := (List.range' k0 (r - k0)).findSome? fun k => fL2 M c i k 0
def fL0 (M : Nat → Nat → Int) (r c i0 : Nat) : Option (Nat × Nat × Nat × Nat) := (List.range' i0 (r - i0)).findSome? fun i => fL1 M r c i (i + 1)
def crk (M : Nat → Nat → Int) (r c : Nat) : Option (Nat × Nat × Nat × Nat) := fL0 M r c 0
theorem fs_step {α : Type} {g : Nat → Option α} {i n : Nat} (h : i < n) : (List.range' i (n - i)).findSome? g = (match g i with | some x => some x | none => (List.range' (i + 1) (n - (i + 1))).findSome? g) := by
  rw [range'_step h, List.findSome?_cons]
  cases g i <;> rfl
theorem fs_end {α : Type} {g : Nat → Option α} {i n : Nat} (h : ¬ i < n) : (List.range' i (n - i)).findSome? g = none := by
  rw [show n - i = 0 by omega]; rfl
theorem crk_none {M : Nat → Nat → Int} {r c : Nat} : crk M r c = none ↔ Str M r c := by
  unfold crk fL0 fL1 fL2 fL3
  simp only [List.findSome?_eq_none_iff, List.mem_range'_1]
  constructor
  · intro h i k j l hi hk hj hl
    have := h i ⟨by omega, by omega⟩ k ⟨by omega, by omega⟩ j ⟨by omega, by omega⟩ l ⟨by omega, by omega⟩
    unfold crB at this
    by_cases hc : M i j + M k l > M i l + M k j
    · rw [if_pos (by simpa using hc)] at this; cases this
    · omega
  · intro h i hi k hk j hj l hl
    have := h i k j l (by omega) (by omega) (by omega) (by omega)
    rw [if_neg]
    unfold crB
    simp only [decide_eq_true_eq]
    omega
theorem crk_adj (M : Nat → Nat → Int) (r c : Nat) : adjB M r c = (crk M r c).isNone := by
  have h1 := adj_str (M := M) (r := r) (c := c)
  have h2 := crk_none (M := M) (r := r) (c := c)
  rw [← h2] at h1
  cases h : crk M r c with
  | none => rw [h1.2 h]; rfl
  | some x =>
    have : adjB M r c ≠ true := fun e => by rw [h1.1 e] at h; cases h
    simpa using this
def q4 (x : Nat × Nat × Nat × Nat) : List Nat := [x.1, x.2.1, x.2.2.1, x.2.2.2]
def oP : Option (Nat × Nat × Nat × Nat) → PV ⊕ Unit
  | some x => .inl (rwN (q4 x))
  | none => .inr ()
structure Tbl (L : List (List Int)) (r c : Nat) : Prop where
  len : L.length = r
  r1 : 1 ≤ r
  r3 : r ≤ 3
  c4 : c ≤ 4
  row : ∀ i, i < r → (ro L i).length = c
  val : ∀ i j, i < r → j < c → 0 ≤ en (ro L i) j ∧ en (ro L i) j ≤ 20
theorem Okc.tbl {L : List (List Int)} {c : Nat} (h : Okc L c) : Tbl L L.length c := ⟨rfl, h.r1, h.r3, h.c4, h.row, h.val⟩
theorem cr_L3 (N : Nat) (L : List (List Int)) (r c : Nat) (hL : Tbl L r c) (i k j : Nat) (hi : i < r) (hk : k < r) (hj : j < c) : ∀ (s l fuel : Nat), c - l = s → s < fuel →
    m78_L3 N r (rwsP L) (i : Int) (k : Int) (j : Int) c fuel (l : Int) = some (oP (fL3 (cst L) c i k j l))
  | s, l, 0, _, h => by omega
  | s, l, f + 1, hs, hf => by
    have hrl := rws_len L
    have hlen := hL.len
    have l1 := hL.row _ hi
    have l2 := hL.row _ hk
    have c4 := hL.c4
    have i1 := iL_len (ro L i)
    have i2 := iL_len (ro L k)
    rw [m78_L3]
    unfold fL3
    by_cases h : l < c
    · have ih := cr_L3 N L r c hL i k j hi hk hj (s - 1) (l + 1) f (by omega) (by omega)
      have v1 := hL.val _ _ hi hj
      have v2 := hL.val _ _ hk h
      have v3 := hL.val _ _ hi h
      have v4 := hL.val _ _ hk hj
      rw [brn_t (by simp; omega), toNatN, toNatN, toNatN, toNatN, grd_t ⟨by omega, by omega⟩, grd_t (by simp only [List.length_drop]; omega), rws_gp (by omega)]
      simp only [getL]
      rw [grd_t ⟨by omega, by omega⟩, grd_t (by simp only [List.length_drop]; omega), iL_gp (by omega)]
      simp only [getI, if_true]
      rw [grd_t ⟨by omega, by omega⟩, grd_t (by simp only [List.length_drop]; omega), rws_gp (by omega)]
      simp only []
      rw [grd_t ⟨by omega, by omega⟩, grd_t (by simp only [List.length_drop]; omega), iL_gp (by omega)]
      simp only [if_true]
      rw [grd_t (by omega), grd_t (by simp only [List.length_drop]; omega), iL_gp (by omega)]
      simp only [if_true]
      rw [grd_t (by omega), grd_t (by simp only [List.length_drop]; omega), iL_gp (by omega)]
      simp only [if_true]
      rw [wrap64 (n := en (ro L i) j + en (ro L k) l) (by omega) (by omega), wrap64 (n := en (ro L i) l + en (ro L k) j) (by omega) (by omega), fs_step h]
      by_cases hc : en (ro L i) j + en (ro L k) l > en (ro L i) l + en (ro L k) j
      · have e : crB (cst L) i k j l = true := by unfold crB cst; simpa using hc
        rw [brn_t (by simpa using hc), if_pos e]; rfl
      · have e : crB (cst L) i k j l = false := by unfold crB cst; simpa using hc
        rw [brn_f (by simpa using hc), if_neg (by simp [e]), wrapN (by omega), ih]; rfl
    · rw [brn_f (by simp; omega), fs_end h]; rfl
theorem cr_L2 (N : Nat) (hN : 2000 ≤ N) (L : List (List Int)) (r c : Nat) (hL : Tbl L r c) (i k : Nat) (hi : i < r) (hk : k < r) : ∀ (s j fuel : Nat), c - j = s → s < fuel →
    m78_L2 N r (rwsP L) (i : Int) (k : Int) fuel (j : Int) = some (oP (fL2 (cst L) c i k j))
  | s, j, 0, _, h => by omega
  | s, j, f + 1, hs, hf => by
    have hrl := rws_len L
    have hlen := hL.len
    have hr1 := hL.r1
    have c4 := hL.c4
    have l0 := hL.row 0 (by omega)
    rw [m78_L2, grd_t (by omega), grd_t (by omega), rws_gp (by omega)]
    simp only [getL, l0]
    unfold fL2
    by_cases h : j < c
    · have ih := cr_L2 N hN L r c hL i k hi hk (s - 1) (j + 1) f (by omega) (by omega)
      have h3 := cr_L3 N L r c hL i k j hi hk h (c - (j + 1)) (j + 1) N rfl (by omega)
      rw [brn_t (by simp; omega), wrapN (by omega), h3, fs_step h]
      cases fL3 (cst L) c i k j (j + 1) with
      | some x => rfl
      | none => simp only [oP, bnd']; rw [ih]; rfl
    · rw [brn_f (by simp; omega), fs_end h]; rfl
theorem cr_L1 (N : Nat) (hN : 2000 ≤ N) (L : List (List Int)) (r c : Nat) (hL : Tbl L r c) (i : Nat) (hi : i < r) : ∀ (s k fuel : Nat), r - k = s → s < fuel →
    m78_L1 N r (rwsP L) (i : Int) fuel (k : Int) = some (oP (fL1 (cst L) r c i k))
  | s, k, 0, _, h => by omega
  | s, k, f + 1, hs, hf => by
    have r3 := hL.r3
    have c4 := hL.c4
    rw [m78_L1]
    unfold fL1
    by_cases h : k < r
    · have ih := cr_L1 N hN L r c hL i hi (s - 1) (k + 1) f (by omega) (by omega)
      have h3 := cr_L2 N hN L r c hL i k hi h c 0 N (by omega) (by omega)
      rw [brn_t (by simp; omega), wrapN (by omega), show m78_L2 N r (rwsP L) (i : Int) (k : Int) N 0 = _ from h3, fs_step h]
      cases fL2 (cst L) c i k 0 with
      | some x => rfl
      | none => simp only [oP, bnd']; rw [ih]; rfl
    · rw [brn_f (by simp; omega), fs_end h]; rfl
theorem cr_L0 (N : Nat) (hN : 2000 ≤ N) (L : List (List Int)) (r c : Nat) (hL : Tbl L r c) : ∀ (s i fuel : Nat), r - i = s → s < fuel →
    m78_L0 N r (rwsP L) fuel (i : Int) = some (oP (fL0 (cst L) r c i))
  | s, i, 0, _, h => by omega
  | s, i, f + 1, hs, hf => by
    have r3 := hL.r3
    rw [m78_L0]
    unfold fL0
    by_cases h : i < r
    · have ih := cr_L0 N hN L r c hL (s - 1) (i + 1) f (by omega) (by omega)
      have h3 := cr_L1 N hN L r c hL i h (r - (i + 1)) (i + 1) N rfl (by omega)
      rw [brn_t (by simp; omega), wrapN (by omega), h3, fs_step h]
      cases fL1 (cst L) r c i (i + 1) with
      | some x => rfl
      | none => simp only [oP, bnd']; rw [ih]; rfl
    · rw [brn_f (by simp; omega), fs_end h]; rfl
def crL : Option (Nat × Nat × Nat × Nat) → List Nat
  | some x => q4 x
  | none => []
theorem crooked_ok (N : Nat) (hN : 2000 ≤ N) (L : List (List Int)) (r c : Nat) (hL : Tbl L r c) : m78 N (.lst false r (rwsP L)) = some (rwN (crL (crk (cst L) r c))) := by
  have r3 := hL.r3
  have h := cr_L0 N hN L r c hL r 0 N (by omega) (by omega)
  simp only [m78, getL]
  rw [show m78_L0 N r (rwsP L) N 0 = _ from h]
  show bnd' (some (oP (crk (cst L) r c))) _ = _
  cases crk (cst L) r c <;> rfl
theorem crL_len (o : Option (Nat × Nat × Nat × Nat)) : (((crL o).length : Int) == 0) = o.isNone := by cases o <;> rfl
theorem ord_id {L : List (List Int)} {c : Nat} : ∀ i j, i < L.length → j < c → ordM L (List.range L.length) (List.range c) i j = cst L i j := fun i j hi hj => by
  simp [ordM, nn, List.getD, hi, hj]
theorem Str_congr {M M' : Nat → Nat → Int} {r c : Nat} (h : ∀ i j, i < r → j < c → M i j = M' i j) (hs : Str M r c) : Str M' r c := fun i k j l hi hk hj hl => by
  have := hs i k j l hi hk hj hl
  rw [h i j (by omega) (by omega), h k l (by omega) (by omega), h i l (by omega) (by omega), h k j (by omega) (by omega)] at this
  exact this
def strE (L : List (List Int)) : Bool × Int := if chk L ≠ 0 then (false, chk L) else ((crk (cst L) L.length (ro L 0).length).isNone, 0)
theorem strt_ok (N : Nat) (hN : 2000 ≤ N) (L : List (List Int)) (hl : lgL L = false) : m31 N (.lst false L.length (rwsP L)) = some (.tup [.bool (strE L).1, .int .i64 (strE L).2]) ∧ m32 N (.lst false L.length (rwsP L)) = some (.tup [.bool (strE L).1, .int .i64 (strE L).2]) := by
  obtain ⟨e1, e2⟩ := check_ok N hN L hl
  simp only [m31, m32, getL, e1, e2, bnd', getI, if_true]
  unfold strE
  by_cases h : chk L = 0
  · have hL := chk_zero h
    have hrl := rws_len L
    have r1 := hL.r1
    have r3 := hL.r3
    have c4 := hL.c4
    have h1 := crooked_ok N hN L L.length _ hL.tbl
    have h0 := straight_ok N hN L _ hL (List.range L.length) (List.range (ro L 0).length) (by simp; omega) (by simp; omega) (by simp) (by simp)
    simp only [List.length_range] at h0
    have ea : adjB (ordM L (List.range L.length) (List.range (ro L 0).length)) L.length (ro L 0).length = (crk (cst L) L.length (ro L 0).length).isNone := by
      rw [← crk_adj]
      have k1 := adj_str (M := ordM L (List.range L.length) (List.range (ro L 0).length)) (r := L.length) (c := (ro L 0).length)
      have k2 := adj_str (M := cst L) (r := L.length) (c := (ro L 0).length)
      rw [Bool.eq_iff_iff, k1, k2]
      exact ⟨Str_congr ord_id, Str_congr fun i j hi hj => (ord_id i j hi hj).symm⟩
    rw [if_neg (by simpa using h)]
    have q : ∀ {α : Type} (y z : Option α), brn (chk L != 0) y z = z := fun y z => brn_f (by simpa using h)
    rw [q, q, h1, numbers_ok N _ hN (by omega)]
    simp only [bnd', rwN, getL]
    rw [grd_t (by omega), grd_t (by omega), rws_gp (by omega)]
    simp only [numbers_ok N _ hN (show (ro L 0).length ≤ 1000 by omega), rwN]
    rw [crL_len, show m76 N (.lst false L.length (rwsP L)) (.lst false (List.range L.length).length (nL (List.range L.length))) (.lst false (List.range (ro L 0).length).length (nL (List.range (ro L 0).length))) = _ from h0, ea]
    exact ⟨rfl, rfl⟩
  · have q : ∀ {α : Type} (y z : Option α), brn (chk L != 0) y z = y := fun y z => brn_t (by simpa using h)
    rw [q, q, if_pos h]
    exact ⟨rfl, rfl⟩
end Go.Proofs.Yteidcinajdehkaa
namespace Go.Proofs.Yteidcinajdehkaa
open Go.V
set_option linter.unusedSectionVars false
theorem bnd_t {α β : Type} {x : α} {f : α → Option β} : bnd' (some x) f = f x := rfl
theorem getI_t {α : Type} {k : IntKind} {x : Int} {f : Int → Option α} : getI k (.int k x) f = f x := by simp [getI]
theorem getB_t {α : Type} {b : Bool} {f : Bool → Option α} : getB (.bool b) f = f b := rfl
theorem getL_t {α : Type} {n : Nat} {c : List PV} {f : Nat → List PV → Option α} : getL (.lst false n c) f = f n c := rfl
theorem getA2_t {α : Type} {a b : PV} {f : PV → PV → Option α} : getA2 (.agg [a, b]) f = f a b := rfl
theorem getT2_t {α : Type} {a b : PV} {f : PV → PV → Option α} : getT2 (.tup [a, b]) f = f a b := rfl
theorem any_bad {lo hi : Int} {X : List Int} (h : X.any (bad lo hi) = false) {i : Nat} (hi' : i < X.length) : lo ≤ en X i ∧ en X i ≤ hi := by
  rw [List.any_eq_false] at h
  have := h _ (en_mem hi')
  simp only [bad, Bool.or_eq_true, decide_eq_true_eq, not_or] at this
  omega
theorem sum_L (N : Nat) (X : List Int) (hX : X.length ≤ 20) (h5 : X.any (bad 0 5) = false) : ∀ (r i fuel : Nat) (a : Int), X.length - i = r → r < fuel → 0 ≤ a → a ≤ 5 * i →
    m69_L0 N X.length (iL X) fuel a (i : Int) = some (a + (X.drop i).sum) ∧ m64_L0 N X.length (iL X) fuel a (i : Int) = some (a + (X.drop i).sum)
  | r, i, 0, _, _, h, _, _ => by omega
  | r, i, f + 1, a, hr, hf, h0, h1 => by
    by_cases h : i < X.length
    · have b := any_bad h5 h
      obtain ⟨e1, e2⟩ := sum_L N X hX h5 (r - 1) (i + 1) f (a + en X i) (by omega) (by omega) (by omega) (by omega)
      have hl := iL_len X
      have e3 : a + (X.drop i).sum = a + en X i + (X.drop (i + 1)).sum := by rw [drop_en h, List.sum_cons]; omega
      rw [e3, ← e1]
      constructor
      · rw [m69_L0, brn_t (decide_eq_true (by omega)), grd_t ⟨by omega, by omega⟩, toNatN, grd_t (by rw [List.length_drop]; omega), iL_gp h, getI_t, wrap64 (n := a + en X i) (by omega) (by omega), wrapN (by omega)]
      · rw [m64_L0, brn_t (decide_eq_true (by omega)), grd_t ⟨by omega, by omega⟩, toNatN, grd_t (by rw [List.length_drop]; omega), iL_gp h, getI_t, wrap64 (n := a + en X i) (by omega) (by omega), wrapN (by omega), e1, e2]
    · rw [m69_L0, m64_L0, brn_f (decide_eq_false (by omega)), brn_f (decide_eq_false (by omega)), List.drop_eq_nil_of_le (by omega)]
      simp
theorem sum_ok (N : Nat) (hN : 2000 ≤ N) (X : List Int) (hX : X.length ≤ 20) (h5 : X.any (bad 0 5) = false) : m69 N (rwP X) = some (.int .i64 X.sum) ∧ m64 N (rwP X) = some (.int .i64 X.sum) := by
  obtain ⟨e1, e2⟩ := sum_L N X hX h5 X.length 0 N 0 (by omega) (by omega) (by omega) (by omega)
  rw [List.drop_zero, Int.zero_add] at e1 e2
  unfold rwP
  rw [m69, m64, getL_t, getL_t, show m69_L0 N _ _ N 0 0 = _ from e1, show m64_L0 N _ _ N 0 0 = _ from e2]
  exact ⟨rfl, rfl⟩
def ldE (L : List (List Int)) (H W : List Int) : Int :=
  if chk L ≠ 0 then chk L else if H.length ≠ L.length then 5 else if W.length ≠ (ro L 0).length then 5 else if H.any (bad 0 5) then 1 else if W.any (bad 0 5) then 1 else if H.sum ≠ W.sum then 17 else 0
theorem loaded_ok (N : Nat) (hN : 2000 ≤ N) (L : List (List Int)) (hL : lgL L = false) (H W : List Int) (hH : H.length ≤ 20) (hW : W.length ≤ 20) :
    m25 N (.lst false L.length (rwsP L)) (.agg [rwP H, rwP W]) = some (.int .i64 (ldE L H W)) ∧ m26 N (.lst false L.length (rwsP L)) (.agg [rwP H, rwP W]) = some (.int .i64 (ldE L H W)) := by
  obtain ⟨c1, c2⟩ := check_ok N hN L hL
  have w1 := wrong_ok N hN 0 5 H (by omega)
  have w2 := wrong_ok N hN 0 5 W (by omega)
  have v1 := within_ok N hN 0 5 H (by omega)
  have v2 := within_ok N hN 0 5 W (by omega)
  constructor
  · rw [m25, getL_t, getA2_t, c1, bnd_t, getI_t]
    unfold ldE
    by_cases h : chk L = 0
    · have ok := chk_zero h
      have r1 := ok.r1
      rw [h, brn_f (b := ((0 : Int) != 0)) rfl, if_neg (show ¬ ((0 : Int) ≠ 0) by simp)]
      unfold rwP
      rw [getL_t]
      by_cases h1 : H.length = L.length
      · rw [brn_f (bne_eq_false_iff_eq.2 (by omega)), if_neg (by simpa using h1), getL_t, grd_t (by omega), grd_t (by rw [rws_len]; omega), rws_gp (by omega), getL_t]
        by_cases h2 : W.length = (ro L 0).length
        · rw [brn_f (bne_eq_false_iff_eq.2 (by omega)), if_neg (by simpa using h2), w1, bnd_t, getB_t]
          cases h3 : H.any (bad 0 5) with
          | true => rfl
          | false =>
            rw [brn_f rfl, w2, bnd_t, getB_t]
            cases h4 : W.any (bad 0 5) with
            | true => rfl
            | false =>
              have s1 := (sum_ok N hN H hH h3).1
              have t1 := (sum_ok N hN W hW h4).1
              unfold rwP at s1 t1
              rw [brn_f rfl, s1, bnd_t, getI_t, t1, bnd_t, getI_t]
              by_cases h5 : H.sum = W.sum
              · rw [brn_f (by simp [h5])]; simp [h5]
              · rw [brn_t (by simp [h5])]; simp [h5]
        · rw [brn_t (bne_iff_ne.2 (by omega)), if_pos h2]
      · rw [brn_t (bne_iff_ne.2 (by omega)), if_pos h1]
    · rw [brn_t (by simpa using h), if_pos h]
  · rw [m26, getL_t, getA2_t, c2, bnd_t, getI_t]
    unfold ldE
    by_cases h : chk L = 0
    · have ok := chk_zero h
      have r1 := ok.r1
      rw [h, brn_f (b := ((0 : Int) != 0)) rfl, if_neg (show ¬ ((0 : Int) ≠ 0) by simp)]
      unfold rwP
      rw [getL_t]
      by_cases h1 : H.length = L.length
      · rw [brn_f (bne_eq_false_iff_eq.2 (by omega)), if_neg (by simpa using h1), getL_t, grd_t (by omega), grd_t (by rw [rws_len]; omega), rws_gp (by omega), getL_t]
        by_cases h2 : W.length = (ro L 0).length
        · rw [brn_f (bne_eq_false_iff_eq.2 (by omega)), if_neg (by simpa using h2), v1, bnd_t, getB_t]
          cases h3 : H.any (bad 0 5) with
          | true => rfl
          | false =>
            rw [brn_t (b := !false) rfl, v2, bnd_t, getB_t]
            cases h4 : W.any (bad 0 5) with
            | true => rfl
            | false =>
              have s1 := (sum_ok N hN H hH h3).2
              have t1 := (sum_ok N hN W hW h4).2
              unfold rwP at s1 t1
              rw [brn_t (b := !false) rfl, s1, bnd_t, getI_t, t1, bnd_t, getI_t]
              by_cases h5 : H.sum = W.sum
              · rw [brn_f (by simp [h5])]; simp [h5]
              · rw [brn_t (by simp [h5])]; simp [h5]
        · rw [brn_t (bne_iff_ne.2 (by omega)), if_pos h2]
      · rw [brn_t (bne_iff_ne.2 (by omega)), if_pos h1]
    · rw [brn_t (by simpa using h), if_pos h]
def fiR (p : List Int → Bool) : Nat → List (List Int) → PV ⊕ Unit
  | _, [] => .inr ()
  | i, r :: rs => if p r then .inl (.int .i64 (i : Int)) else fiR p (i + 1) rs
theorem shp_L (N : Nat) (p : PV) (W : List Int) (D : List (List Int)) (hD : D.length ≤ 20) : ∀ (r i fuel : Nat), D.length - i = r → r < fuel →
    m91_L0 N p (rwP W) D.length (rwsP D) fuel (i : Int) = some (fiR (fun r => r.length != W.length) i (D.drop i))
  | r, i, 0, _, h => by omega
  | r, i, f + 1, hr, hf => by
    rw [m91_L0]
    by_cases h : i < D.length
    · have hl := rws_len D
      rw [brn_t (decide_eq_true (by omega)), grd_t ⟨by omega, by omega⟩, toNatN, grd_t (by rw [List.length_drop]; omega), rws_gp h, getL_t, drop_ro h, fiR]
      unfold rwP
      rw [m66, getL_t, getL_t, bnd_t, getB_t]
      by_cases e : (ro D i).length = W.length
      · rw [brn_f (bne_eq_false_iff_eq.2 (by omega)), if_neg (by simpa using e), wrapN (by omega)]
        exact shp_L N p W D hD (r - 1) (i + 1) f (by omega) (by omega)
      · rw [brn_t (bne_iff_ne.2 (by omega)), if_pos (by simpa using e)]
    · rw [brn_f (decide_eq_false (by omega)), List.drop_eq_nil_of_le (by omega)]; rfl
def fiO : PV ⊕ Unit → Option PV
  | .inl q => some q
  | .inr () => some (.int .i64 (-1))
theorem fiR_any {p : List Int → Bool} : ∀ (D : List (List Int)) (i : Nat), fiO (fiR p i D) = some (.int .i64 (if D.any p then (((D.findIdx p + i : Nat) : Int)) else -1))
  | [], i => rfl
  | r :: D, i => by
    rw [fiR, List.any_cons, List.findIdx_cons]
    cases h : p r with
    | true => simp [fiO]
    | false =>
      rw [if_neg (by simp), fiR_any D (i + 1)]
      simp only [Bool.false_or, cond_false]
      congr 2
      split <;> simp <;> omega
theorem shp_ok (N : Nat) (hN : 2000 ≤ N) (p : PV) (W : List Int) (D : List (List Int)) (hD : D.length ≤ 20) : m65 N (.lst false D.length (rwsP D)) p (rwP W) = some (.bool (D.any fun r => r.length != W.length)) := by
  have e := shp_L N p W D hD D.length 0 N (by omega) (by omega)
  rw [List.drop_zero] at e
  rw [m65, getL_t, m91, getL_t, show m91_L0 N p (rwP W) D.length (rwsP D) N 0 = _ from e, bnd_t]
  have := fiR_any (p := fun r : List Int => r.length != W.length) D 0
  show bnd' (fiO (fiR _ 0 D)) _ = _
  rw [this, bnd_t, getI_t]
  cases D.any fun r => r.length != W.length
  · rfl
  · rw [if_pos rfl, decide_eq_true (show ((D.findIdx _ + 0 : Nat) : Int) ≥ 0 by omega)]
theorem rng_L (N : Nat) (hN : 2000 ≤ N) (D : List (List Int)) (hD : D.length ≤ 20) (hr : ∀ r ∈ D, r.length ≤ 20) : ∀ (r i fuel : Nat), D.length - i = r → r < fuel →
    m91_2_L0 N D.length (rwsP D) fuel (i : Int) = some (fiR (fun r => r.any (bad 0 5)) i (D.drop i))
  | r, i, 0, _, h => by omega
  | r, i, f + 1, hr', hf => by
    rw [m91_2_L0]
    by_cases h : i < D.length
    · have hl := rws_len D
      have h2 := hr _ (ro_mem h)
      rw [brn_t (decide_eq_true (by omega)), grd_t ⟨by omega, by omega⟩, toNatN, grd_t (by rw [List.length_drop]; omega), rws_gp h, getL_t, drop_ro h, fiR]
      rw [m67, getL_t, wrong_ok N hN 0 5 (ro D i) (by omega), bnd_t, getB_t, bnd_t, getB_t]
      cases (ro D i).any (bad 0 5) with
      | true => rw [brn_t rfl, if_pos rfl]
      | false =>
        rw [brn_f rfl, if_neg (by simp), wrapN (by omega)]
        exact rng_L N hN D hD hr (r - 1) (i + 1) f (by omega) (by omega)
    · rw [brn_f (decide_eq_false (by omega)), List.drop_eq_nil_of_le (by omega)]; rfl
theorem rng_ok (N : Nat) (hN : 2000 ≤ N) (D : List (List Int)) (hD : D.length ≤ 20) (hr : ∀ r ∈ D, r.length ≤ 20) : m65_2 N (.lst false D.length (rwsP D)) = some (.bool (D.any fun r => r.any (bad 0 5))) := by
  have e := rng_L N hN D hD hr D.length 0 N (by omega) (by omega)
  rw [List.drop_zero] at e
  rw [m65_2, getL_t, m91_2, getL_t, show m91_2_L0 N D.length (rwsP D) N 0 = _ from e, bnd_t]
  have := fiR_any (p := fun r : List Int => r.any (bad 0 5)) D 0
  show bnd' (fiO (fiR _ 0 D)) _ = _
  rw [this, bnd_t, getI_t]
  cases D.any fun r => r.any (bad 0 5)
  · rfl
  · rw [if_pos rfl, decide_eq_true (show ((D.findIdx _ + 0 : Nat) : Int) ≥ 0 by omega)]
def subF (w r : List Int) (j : Nat) : List Int := (List.range w.length).map fun k => if j ≤ k then en w k - en r k else en w k
theorem en_map {f : Nat → Int} {n k : Nat} (h : k < n) : en ((List.range n).map f) k = f k := by simp [en, List.getD, h]
theorem en_set {w : List Int} {j k : Nat} {x : Int} (hj : j < w.length) : en (w.set j x) k = if k = j then x else en w k := by
  unfold en
  by_cases h : k = j
  · subst h; simp [List.getD, hj]
  · rw [if_neg h]; simp [List.getD, List.getElem?_set_ne (Ne.symm h)]
theorem subF_step {w r : List Int} {j : Nat} (hj : j < w.length) : subF (w.set j (en w j - en r j)) r (j + 1) = subF w r j := by
  unfold subF
  rw [List.length_set]
  refine List.map_congr_left fun k _ => ?_
  rw [en_set hj]
  by_cases h : k = j
  · subst h; rw [if_neg (by omega), if_pos rfl, if_pos (by omega)]
  · by_cases h2 : j ≤ k
    · rw [if_pos (by omega), if_neg h, if_pos h2]
    · rw [if_neg (by omega), if_neg h, if_neg h2]
theorem list_en (w : List Int) : (List.range w.length).map (en w) = w := by
  apply List.ext_getElem
  · simp
  · intro i h1 h2
    simp [en, List.getD, h2]
theorem subF_end {w r : List Int} {j : Nat} (hj : w.length ≤ j) : subF w r j = w := by
  have : subF w r j = (List.range w.length).map (en w) := List.map_congr_left fun k hk => by
    rw [List.mem_range] at hk
    rw [if_neg (by omega)]
  rw [this, list_en]
def rcF (L : List (List Int)) (i : Nat) (r : List Int) (c j : Nat) : Int := ((List.range' j (c - j)).map fun k => en r k * cst L i k).sum
theorem iL_set (w : List Int) (j : Nat) (x : Int) : (iL w).set j (.int .i64 x) = iL (w.set j x) := by simp [iL, List.map_set]
theorem mul_b {a b : Int} (h1 : 0 ≤ a) (h2 : a ≤ 5) (h3 : 0 ≤ b) (h4 : b ≤ 20) : 0 ≤ a * b ∧ a * b ≤ 100 :=
  ⟨Int.mul_nonneg h1 h3, Int.le_trans (Int.mul_le_mul h2 h4 h3 (by omega)) (by decide)⟩
theorem row_L (N : Nat) (L : List (List Int)) (c : Nat) (hL : Okc L c) (nd : Nat) (cd : List PV) (nw : Nat) (cw : List PV) (nh : Nat) (ch : List PV) (i : Nat) (hi : i < L.length) (x : List Int) (hx : x.length = c) (h5 : x.any (bad 0 5) = false) :
    ∀ (r j fuel : Nat) (a : Int) (w : List Int), c - j = r → r < fuel → w.length = c → (∀ k, j ≤ k → k < c → -1000 ≤ en w k ∧ en w k ≤ 1000) → 0 ≤ a → a ≤ 100 * 4 * i + 100 * j → j ≤ c →
    m20_L1 N L.length (rwsP L) nd cd nw cw c (i : Int) c (iL x) nh ch fuel a (j : Int) (iL w) = some (a + rcF L i x c j, iL (subF w x j))
  | r, j, 0, _, _, _, h, _, _, _, _, _ => by omega
  | r, j, f + 1, a, w, hr, hf, hw, hb, h0, h1, hj => by
    have hc4 := hL.c4
    have hr3 := hL.r3
    rw [m20_L1]
    by_cases h : j < c
    · have bx := any_bad h5 (i := j) (by omega)
      have bw := hb j (by omega) h
      have bc := hL.val i j hi h
      have hm := mul_b bx.1 bx.2 bc.1 bc.2
      have lx := iL_len x
      have lw := iL_len w
      have ll := rws_len L
      have lr := hL.row i hi
      have lri := iL_len (ro L i)
      rw [brn_t (decide_eq_true (by omega)), grd_t ⟨by omega, by omega⟩, toNatN, grd_t (by rw [List.length_drop]; omega), iL_gp (by omega), getI_t, grd_t (by omega), grd_t (by omega), iL_gp (by omega), getI_t, grd_t (by omega), grd_t (by omega), toNatN, grd_t (by rw [List.length_drop]; omega), rws_gp hi, getL_t, grd_t (by omega), grd_t (by rw [List.length_drop]; omega), iL_gp (by omega), getI_t]
      rw [wrap64 (n := en x j * en (ro L i) j) (by omega) (by omega), wrap64 (n := a + en x j * en (ro L i) j) (by omega) (by omega), wrapN (by omega), wrap64 (n := en w j - en x j) (by omega) (by omega), iL_set]
      have ih := row_L N L c hL nd cd nw cw nh ch i hi x hx h5 (r - 1) (j + 1) f (a + en x j * en (ro L i) j) (w.set j (en w j - en x j)) (by omega) (by omega) (by rw [List.length_set]; exact hw) (fun k hk hk2 => by
        rw [en_set (by omega), if_neg (by omega)]
        exact hb k (by omega) hk2) (by omega) (by omega) (by omega)
      rw [ih, subF_step (by omega)]
      have e : rcF L i x c j = en x j * en (ro L i) j + rcF L i x c (j + 1) := by
        unfold rcF
        rw [range'_step h, List.map_cons, List.sum_cons]; rfl
      rw [e, Int.add_assoc]
    · rw [brn_f (decide_eq_false (by omega)), subF_end (by omega)]
      unfold rcF
      rw [Nat.sub_eq_zero_of_le (by omega)]
      simp
def runC (L : List (List Int)) (c : Nat) (H : List Int) : Nat → List (List Int) → Int → List Int → PV ⊕ (Int × List PV)
  | _, [], a, w => .inr (a, iL w)
  | i, r :: rs, a, w => if r.sum ≠ en H i then .inl (.tup [.int .i64 0, .int .i64 17]) else runC L c H (i + 1) rs (a + rcF L i r c 0) (subF w r 0)
theorem subF_len (w r : List Int) (j : Nat) : (subF w r j).length = w.length := by simp [subF]
theorem en_subF {w r : List Int} {k : Nat} (h : k < w.length) : en (subF w r 0) k = en w k - en r k := by
  unfold subF
  rw [en_map h, if_pos (by omega)]
theorem rcF_b {L : List (List Int)} {c : Nat} (hL : Okc L c) {i : Nat} (hi : i < L.length) {x : List Int} (hx : x.length = c) (h5 : x.any (bad 0 5) = false) : ∀ (r j : Nat), c - j = r → 0 ≤ rcF L i x c j ∧ rcF L i x c j ≤ 100 * r
  | 0, j, h => by unfold rcF; rw [h]; simp
  | r + 1, j, h => by
    have hj : j < c := by omega
    have ih := rcF_b hL hi hx h5 r (j + 1) (by omega)
    have bx := any_bad h5 (i := j) (by omega)
    have bc := hL.val i j hi hj
    have hm := mul_b bx.1 bx.2 bc.1 bc.2
    have e : rcF L i x c j = en x j * en (ro L i) j + rcF L i x c (j + 1) := by
      unfold rcF
      rw [range'_step hj, List.map_cons, List.sum_cons]; rfl
    omega
theorem cost_L (N : Nat) (hN : 2000 ≤ N) (L : List (List Int)) (c : Nat) (hL : Okc L c) (H W : List Int) (hH : H.length = L.length) (D : List (List Int)) (hD : D.length = L.length) (hr : ∀ r ∈ D, r.length = c ∧ r.any (bad 0 5) = false) :
    ∀ (s i fuel : Nat) (a : Int) (w : List Int), D.length - i = s → s < fuel → w.length = c → (∀ k, k < c → -5 * (i : Int) ≤ en w k ∧ en w k ≤ 5) → 0 ≤ a → a ≤ 400 * i →
    m20_L0 N L.length (rwsP L) D.length (rwsP D) W.length (iL W) c fuel (rwP H) a (i : Int) (iL w) = some (runC L c H i (D.drop i) a w)
  | s, i, 0, _, _, _, h, _, _, _, _ => by omega
  | s, i, f + 1, a, w, hs, hf, hw, hb, h0, h1 => by
    have hc4 := hL.c4
    have hr3 := hL.r3
    rw [m20_L0]
    by_cases h : i < D.length
    · obtain ⟨r1, r2⟩ := hr _ (ro_mem h)
      have lD := rws_len D
      have lH := iL_len H
      have S := (sum_ok N hN (ro D i) (by omega) r2).1
      rw [brn_t (decide_eq_true (by omega)), grd_t ⟨by omega, by omega⟩, toNatN, grd_t (by rw [List.length_drop]; omega), rws_gp h, getL_t]
      unfold rwP at S ⊢
      rw [S, bnd_t, getI_t, getL_t, grd_t (by omega), grd_t (by rw [List.length_drop]; omega), iL_gp (by omega), getI_t, drop_ro h, runC]
      by_cases e : (ro D i).sum = en H i
      · rw [brn_f (bne_eq_false_iff_eq.2 e), if_neg (by simpa using e), r1]
        have R := row_L N L c hL D.length (rwsP D) W.length (iL W) H.length (iL H) i (by omega) (ro D i) r1 r2 c 0 N a w (by omega) (by omega) hw (fun k _ hk => by have := hb k hk; omega) h0 (by omega) (by omega)
        rw [show m20_L1 N L.length (rwsP L) D.length (rwsP D) W.length (iL W) c (i : Int) c (iL (ro D i)) H.length (iL H) N a 0 (iL w) = _ from R, bnd_t]
        have rb := rcF_b hL (i := i) (by omega) r1 r2 c 0 (by omega)
        show m20_L0 N _ _ _ _ _ _ _ f _ _ _ _ = _
        rw [wrapN (by omega)]
        exact cost_L N hN L c hL H W hH D hD hr (s - 1) (i + 1) f (a + rcF L i (ro D i) c 0) (subF w (ro D i) 0) (by omega) (by omega) (by rw [subF_len]; exact hw) (fun k hk => by
          rw [en_subF (by omega)]
          have b1 := hb k hk
          have b2 := any_bad r2 (i := k) (by omega)
          omega) (by omega) (by omega)
      · rw [brn_t (bne_iff_ne.2 e), if_pos e]
    · rw [brn_f (decide_eq_false (by omega)), List.drop_eq_nil_of_le (by omega)]; rfl
def rwB (H : List Int) : Nat → List (List Int) → Bool
  | _, [] => true
  | i, r :: rs => decide (r.sum = en H i) && rwB H (i + 1) rs
def cF (L : List (List Int)) (c : Nat) : Nat → List (List Int) → Int
  | _, [] => 0
  | i, r :: rs => rcF L i r c 0 + cF L c (i + 1) rs
def leftF : List Int → List (List Int) → List Int
  | w, [] => w
  | w, r :: rs => leftF (subF w r 0) rs
def colS (D : List (List Int)) (k : Nat) : Int := (D.map fun r => en r k).sum
theorem runC_eq (L : List (List Int)) (c : Nat) (H : List Int) : ∀ (D : List (List Int)) (i : Nat) (a : Int) (w : List Int), runC L c H i D a w = if rwB H i D then .inr (a + cF L c i D, iL (leftF w D)) else .inl (.tup [.int .i64 0, .int .i64 17])
  | [], i, a, w => by simp [runC, rwB, cF, leftF]
  | r :: D, i, a, w => by
    rw [runC, rwB, cF, leftF]
    by_cases h : r.sum = en H i
    · rw [if_neg (by simpa using h), runC_eq L c H D, decide_eq_true h, Bool.true_and, Int.add_assoc]
    · rw [if_pos h, decide_eq_false h, Bool.false_and, if_neg (by simp)]
theorem leftF_len : ∀ (D : List (List Int)) (w : List Int), (leftF w D).length = w.length
  | [], _ => rfl
  | r :: D, w => by rw [leftF, leftF_len D, subF_len]
theorem en_left : ∀ (D : List (List Int)) (w : List Int) {k : Nat}, k < w.length → en (leftF w D) k = en w k - colS D k
  | [], w, k, _ => by simp [leftF, colS]
  | r :: D, w, k, h => by
    rw [leftF, en_left D _ (by rw [subF_len]; exact h), en_subF h]
    unfold colS
    rw [List.map_cons, List.sum_cons]
    omega
def clB (W : List Int) (D : List (List Int)) : Bool := (List.range W.length).all fun k => decide (colS D k = en W k)
theorem left_bad (W : List Int) (D : List (List Int)) : (leftF W D).any (bad 0 0) = !clB W D := by
  rw [Bool.eq_iff_iff, List.any_eq_true]
  unfold clB
  rw [Bool.not_eq_true', List.all_eq_false]
  constructor
  · rintro ⟨x, hx, hb⟩
    obtain ⟨k, hk, rfl⟩ := List.getElem_of_mem hx
    have hk' : k < W.length := by rwa [leftF_len] at hk
    refine ⟨k, List.mem_range.2 hk', ?_⟩
    have e := en_left D W hk'
    have : (leftF W D)[k] = en (leftF W D) k := by simp [en, List.getD, hk]
    rw [this, e] at hb
    simp [bad] at hb
    simp; omega
  · rintro ⟨k, hk, hb⟩
    have hk' := List.mem_range.1 hk
    have e := en_left D W hk'
    refine ⟨_, en_mem (X := leftF W D) (i := k) (by rw [leftF_len]; exact hk'), ?_⟩
    rw [e]
    simp [bad]
    simp at hb
    omega
def cstE (L : List (List Int)) (H W : List Int) (D : List (List Int)) : Int × Int :=
  if ldE L H W ≠ 0 then (0, ldE L H W) else if D.length ≠ L.length then (0, 5) else if D.any (fun r => r.length != W.length) then (0, 5) else if D.any (fun r => r.any (bad 0 5)) then (0, 1)
  else if rwB H 0 D then (if clB W D then (cF L W.length 0 D, 0) else (0, 17)) else (0, 17)
theorem ldE_zero {L : List (List Int)} {H W : List Int} (h : ldE L H W = 0) : Okc L W.length ∧ H.length = L.length ∧ H.any (bad 0 5) = false ∧ W.any (bad 0 5) = false ∧ H.sum = W.sum := by
  unfold ldE at h
  by_cases h1 : chk L = 0
  · rw [if_neg (by simpa using h1)] at h
    split at h
    · cases h
    · rename_i h2
      split at h
      · cases h
      · rename_i h3
        split at h
        · cases h
        · rename_i h4
          split at h
          · cases h
          · rename_i h5
            split at h
            · cases h
            · rename_i h6
              have h3 : W.length = (ro L 0).length := by omega
              exact ⟨h3 ▸ chk_zero h1, by omega, by simpa using h4, by simpa using h5, by omega⟩
  · rw [if_pos h1] at h; exact absurd h h1
theorem cost_ok (N : Nat) (hN : 2000 ≤ N) (L : List (List Int)) (hL : lgL L = false) (H W : List Int) (hH : H.length ≤ 20) (hW : W.length ≤ 20) (D : List (List Int)) (hD : lgL D = false) :
    m20 N (.lst false L.length (rwsP L)) (.agg [rwP H, rwP W]) (.lst false D.length (rwsP D)) = some (.tup [.int .i64 (cstE L H W D).1, .int .i64 (cstE L H W D).2]) := by
  have ld := (loaded_ok N hN L hL H W hH hW).1
  rw [m20, getL_t, getA2_t, getL_t, ld, bnd_t, getI_t]
  unfold cstE
  by_cases h : ldE L H W = 0
  · obtain ⟨ok, k1, k2, k3, k4⟩ := ldE_zero h
    have hc4 := ok.c4
    have hr3 := ok.r3
    rw [h, brn_f (b := ((0 : Int) != 0)) rfl, if_neg (show ¬ ((0 : Int) ≠ 0) by simp)]
    by_cases h1 : D.length = L.length
    · rw [brn_f (bne_eq_false_iff_eq.2 (by omega)), if_neg (by simpa using h1), shp_ok N hN (rwP H) W D (by omega), bnd_t, getB_t]
      cases h2 : D.any fun r => r.length != W.length with
      | true => rfl
      | false =>
        have rows : ∀ r ∈ D, r.length = W.length := fun r hr => by
          have := List.any_eq_false.1 h2 r hr
          simpa using this
        rw [brn_f rfl, rng_ok N hN D (by omega) (fun r hr => by have := rows r hr; omega), bnd_t, getB_t]
        cases h3 : D.any fun r => r.any (bad 0 5) with
        | true => rfl
        | false =>
          have vals : ∀ r ∈ D, r.length = W.length ∧ r.any (bad 0 5) = false := fun r hr => by
            have := List.any_eq_false.1 h3 r hr
            exact ⟨rows r hr, by simpa using this⟩
          have C := cost_L N hN L W.length ok H W k1 D h1 vals D.length 0 N 0 W (by omega) (by omega) rfl (fun k hk => by have := any_bad k3 (i := k) hk; omega) (by omega) (by omega)
          rw [List.drop_zero, runC_eq, Int.zero_add] at C
          have lW := iL_len W
          have c1 := ok.c1
          rw [brn_f rfl]
          unfold rwP
          rw [getL_t, m53, getL_t, grd_t (by omega), grd_t (by omega), grd_t (by omega), bnd_t]
          show bnd' (m20_L0 N _ _ _ _ _ _ _ N _ 0 0 _) _ = _
          rw [show m20_L0 N L.length (rwsP L) D.length (rwsP D) W.length (iL W) W.length N (.lst false H.length (iL H)) 0 0 (iL W) = _ from C]
          cases h4 : rwB H 0 D with
          | false => rfl
          | true =>
            rw [if_pos rfl, bnd_t]
            have ll := leftF_len D W
            have wr := wrong_ok N hN 0 0 (leftF W D) (by omega)
            rw [left_bad, ll] at wr
            have li := iL_len (leftF W D)
            show grd _ _ = _
            rw [grd_t (by omega), wr, bnd_t, getB_t]
            cases clB W D <;> rfl
    · rw [brn_t (bne_iff_ne.2 (by omega)), if_pos h1]
  · rw [brn_t (by simpa using h), if_pos h]
def e2 (n : Int) : PV := .tup [.int .i64 0, .int .i64 n]
section
variable (N : Nat) (hN : 2000 ≤ N) (L : List (List Int)) (H W : List Int) (D : List (List Int)) (hD : D.length ≤ 20)
include hD
theorem rs_L0 : ∀ (r i fuel : Nat), D.length - i = r → r < fuel →
    m21_L0 N L.length (rwsP L) D.length (rwsP D) H.length (iL H) fuel (i : Int) (rwP W) = some (if (D.drop i).any (fun r => r.length != W.length) then .inl (e2 5) else .inr (rwP W))
  | r, i, 0, _, h => by omega
  | r, i, f + 1, hr, hf => by
    rw [m21_L0]
    by_cases h : i < D.length
    · have hl := rws_len D
      rw [brn_t (decide_eq_true (by omega)), grd_t ⟨by omega, by omega⟩, toNatN, grd_t (by rw [List.length_drop]; omega), rws_gp h, getL_t, drop_ro h, List.any_cons]
      unfold rwP
      rw [getL_t]
      by_cases e : (ro D i).length = W.length
      · rw [brn_f (bne_eq_false_iff_eq.2 (by omega)), wrapN (by omega), show ((ro D i).length != W.length) = false by simpa using e, Bool.false_or]
        exact rs_L0 (r - 1) (i + 1) f (by omega) (by omega)
      · rw [brn_t (bne_iff_ne.2 (by omega)), show ((ro D i).length != W.length) = true by simpa using e, Bool.true_or, if_pos rfl]; rfl
    · rw [brn_f (decide_eq_false (by omega)), List.drop_eq_nil_of_le (by omega)]; rfl
end
def addF (w r : List Int) (j : Nat) : List Int := (List.range w.length).map fun k => if j ≤ k then en w k + en r k else en w k
theorem addF_step {w r : List Int} {j : Nat} (hj : j < w.length) : addF (w.set j (en w j + en r j)) r (j + 1) = addF w r j := by
  unfold addF
  rw [List.length_set]
  refine List.map_congr_left fun k _ => ?_
  rw [en_set hj]
  by_cases h : k = j
  · subst h; rw [if_neg (by omega), if_pos rfl, if_pos (by omega)]
  · by_cases h2 : j ≤ k
    · rw [if_pos (by omega), if_neg h, if_pos h2]
    · rw [if_neg (by omega), if_neg h, if_neg h2]
theorem addF_end {w r : List Int} {j : Nat} (hj : w.length ≤ j) : addF w r j = w := by
  have : addF w r j = (List.range w.length).map (en w) := List.map_congr_left fun k hk => by
    rw [List.mem_range] at hk
    rw [if_neg (by omega)]
  rw [this, list_en]
theorem addF_len (w r : List Int) (j : Nat) : (addF w r j).length = w.length := by simp [addF]
theorem en_addF {w r : List Int} {k : Nat} (h : k < w.length) : en (addF w r 0) k = en w k + en r k := by
  unfold addF
  rw [en_map h, if_pos (by omega)]
theorem add_L (N : Nat) (nl : Nat) (cl : List PV) (nd : Nat) (cd : List PV) (nh : Nat) (ch : List PV) (cw : List PV) (i : Int) (c : Nat) (hc : c ≤ 4) (x : List Int) (hx : x.length = c) (h5 : x.any (bad 0 5) = false) :
    ∀ (r j fuel : Nat) (w : List Int), c - j = r → r < fuel → w.length = c → (∀ k, j ≤ k → k < c → -1000 ≤ en w k ∧ en w k ≤ 1000) → j ≤ c →
    m21_L2 N nl cl nd cd nh ch c cw i c (iL x) fuel (j : Int) (iL w) = some (iL (addF w x j))
  | r, j, 0, _, _, h, _, _, _ => by omega
  | r, j, f + 1, w, hr, hf, hw, hb, hj => by
    rw [m21_L2]
    by_cases h : j < c
    · have bx := any_bad h5 (i := j) (by omega)
      have bw := hb j (by omega) h
      have lx := iL_len x
      have lw := iL_len w
      rw [brn_t (decide_eq_true (by omega)), grd_t ⟨by omega, by omega⟩, toNatN, grd_t (by omega), iL_gp (by omega), getI_t, grd_t (by omega), grd_t (by rw [List.length_drop]; omega), iL_gp (by omega), getI_t, grd_t (by omega)]
      rw [wrap64 (n := en w j + en x j) (by omega) (by omega), wrapN (by omega), iL_set]
      rw [add_L N nl cl nd cd nh ch cw i c hc x hx h5 (r - 1) (j + 1) f (w.set j (en w j + en x j)) (by omega) (by omega) (by rw [List.length_set]; exact hw) (fun k hk hk2 => by
        rw [en_set (by omega), if_neg (by omega)]
        exact hb k (by omega) hk2) (by omega), addF_step (by omega)]
    · rw [brn_f (decide_eq_false (by omega)), addF_end (by omega)]
def gotF : List Int → List (List Int) → List Int
  | w, [] => w
  | w, r :: rs => gotF (addF w r 0) rs
theorem gotF_len : ∀ (D : List (List Int)) (w : List Int), (gotF w D).length = w.length
  | [], _ => rfl
  | r :: D, w => by rw [gotF, gotF_len D, addF_len]
theorem en_got : ∀ (D : List (List Int)) (w : List Int) {k : Nat}, k < w.length → en (gotF w D) k = en w k + colS D k
  | [], w, k, _ => by simp [gotF, colS]
  | r :: D, w, k, h => by
    rw [gotF, en_got D _ (by rw [addF_len]; exact h), en_addF h]
    unfold colS
    rw [List.map_cons, List.sum_cons]
    omega
theorem rs_L1 (N : Nat) (hN : 2000 ≤ N) (nl : Nat) (cl : List PV) (nh : Nat) (ch : List PV) (cw : List PV) (c : Nat) (hc : c ≤ 4) (D : List (List Int)) (hD : D.length ≤ 20) (hr : ∀ r ∈ D, r.length = c) :
    ∀ (s i fuel : Nat) (w : List Int), D.length - i = s → s < fuel → w.length = c → (∀ k, k < c → 0 ≤ en w k ∧ en w k ≤ 5 * i) →
    m21_L1 N nl cl D.length (rwsP D) nh ch c cw fuel (i : Int) (iL w) = some (if (D.drop i).any (fun r => r.any (bad 0 5)) then .inl (e2 1) else .inr (iL (gotF w (D.drop i))))
  | s, i, 0, _, _, h, _, _ => by omega
  | s, i, f + 1, w, hs, hf, hw, hb => by
    rw [m21_L1]
    by_cases h : i < D.length
    · have hl := rws_len D
      have rl := hr _ (ro_mem h)
      rw [brn_t (decide_eq_true (by omega)), grd_t ⟨by omega, by omega⟩, toNatN, grd_t (by rw [List.length_drop]; omega), rws_gp h, getL_t, drop_ro h, List.any_cons, within_ok N hN 0 5 (ro D i) (by omega), bnd_t, getB_t]
      cases h5 : (ro D i).any (bad 0 5) with
      | true => rw [brn_f (b := !true) rfl, Bool.true_or, if_pos rfl]; rfl
      | false =>
        rw [brn_t (b := !false) rfl, Bool.false_or, rl]
        have A := add_L N nl cl D.length (rwsP D) nh ch cw (i : Int) c hc (ro D i) rl h5 c 0 N w (by omega) (by omega) hw (fun k _ hk => by have := hb k hk; omega) (by omega)
        rw [show m21_L2 N nl cl D.length (rwsP D) nh ch c cw (i : Int) c (iL (ro D i)) N 0 (iL w) = _ from A, bnd_t, wrapN (by omega), gotF]
        exact rs_L1 N hN nl cl nh ch cw c hc D hD hr (s - 1) (i + 1) f (addF w (ro D i) 0) (by omega) (by omega) (by rw [addF_len]; exact hw) (fun k hk => by
          rw [en_addF (by omega)]
          have b1 := hb k hk
          have b2 := any_bad h5 (i := k) (by omega)
          omega)
    · rw [brn_f (decide_eq_false (by omega)), List.drop_eq_nil_of_le (by omega)]; rfl
theorem rs_L3 (N : Nat) (hN : 2000 ≤ N) (nl : Nat) (cl : List PV) (nw : Nat) (cw : List PV) (g : List PV) (H : List Int) (D : List (List Int)) (hD : D.length ≤ 20) (hH : H.length = D.length) (hr : ∀ r ∈ D, r.length ≤ 20 ∧ r.any (bad 0 5) = false) :
    ∀ (s i fuel : Nat), D.length - i = s → s < fuel → m21_L3 N nl cl D.length (rwsP D) H.length (iL H) nw cw g fuel (i : Int) = some (if rwB H i (D.drop i) then .inr () else .inl (e2 17))
  | s, i, 0, _, h => by omega
  | s, i, f + 1, hs, hf => by
    rw [m21_L3]
    by_cases h : i < D.length
    · have hl := rws_len D
      have lH := iL_len H
      obtain ⟨r1, r2⟩ := hr _ (ro_mem h)
      have S := (sum_ok N hN (ro D i) r1 r2).2
      unfold rwP at S
      rw [brn_t (decide_eq_true (by omega)), grd_t ⟨by omega, by omega⟩, toNatN, grd_t (by rw [List.length_drop]; omega), rws_gp h, getL_t, S, bnd_t, getI_t, grd_t (by omega), grd_t (by rw [List.length_drop]; omega), iL_gp (by omega), getI_t, drop_ro h, rwB]
      by_cases e : (ro D i).sum = en H i
      · rw [brn_f (bne_eq_false_iff_eq.2 e), decide_eq_true e, Bool.true_and, wrapN (by omega)]
        exact rs_L3 N hN nl cl nw cw g H D hD hH hr (s - 1) (i + 1) f (by omega) (by omega)
      · rw [brn_t (bne_iff_ne.2 e), decide_eq_false e, Bool.false_and]; rfl
    · rw [brn_f (decide_eq_false (by omega)), List.drop_eq_nil_of_le (by omega)]; rfl
theorem rs_L4 (N : Nat) (nl : Nat) (cl : List PV) (nd : Nat) (cd : List PV) (nh : Nat) (ch : List PV) (G W : List Int) (hG : G.length = W.length) (hW : W.length ≤ 20) :
    ∀ (s i fuel : Nat), W.length - i = s → s < fuel → m21_L4 N nl cl nd cd nh ch W.length (iL W) (iL G) fuel (i : Int) = some (if (List.range' i (W.length - i)).all (fun k => decide (en G k = en W k)) then .inr () else .inl (e2 17))
  | s, i, 0, _, h => by omega
  | s, i, f + 1, hs, hf => by
    rw [m21_L4]
    by_cases h : i < W.length
    · have lG := iL_len G
      have lW := iL_len W
      rw [brn_t (decide_eq_true (by omega)), grd_t ⟨by omega, by omega⟩, toNatN, grd_t (by omega), iL_gp (by omega), getI_t, grd_t (by rw [List.length_drop]; omega), iL_gp h, getI_t, all_step h]
      by_cases e : en G i = en W i
      · rw [brn_f (bne_eq_false_iff_eq.2 e), decide_eq_true e, Bool.true_and, wrapN (by omega)]
        exact rs_L4 N nl cl nd cd nh ch G W hG hW (s - 1) (i + 1) f (by omega) (by omega)
      · rw [brn_t (bne_iff_ne.2 e), decide_eq_false e, Bool.false_and]; rfl
    · rw [brn_f (decide_eq_false (by omega)), all_end h]; rfl
theorem rc_L (N : Nat) (L : List (List Int)) (c : Nat) (hL : Okc L c) (D : List (List Int)) (hD : D.length = L.length) (i : Nat) (hi : i < L.length) (hx : (ro D i).length = c) (h5 : (ro D i).any (bad 0 5) = false) :
    ∀ (r j fuel : Nat) (a : Int), c - j = r → r < fuel → 0 ≤ a → a ≤ 100 * 4 * i + 100 * j → j ≤ c →
    m71_L1 N L.length (rwsP L) D.length (rwsP D) (i : Int) fuel a (j : Int) = some (a + rcF L i (ro D i) c j)
  | r, j, 0, _, _, h, _, _, _ => by omega
  | r, j, f + 1, a, hr, hf, h0, h1, hj => by
    have hc4 := hL.c4
    have hr3 := hL.r3
    have ll := rws_len L
    have ld := rws_len D
    have lr := hL.row i hi
    have lri := iL_len (ro L i)
    have ldi := iL_len (ro D i)
    rw [m71_L1, grd_t ⟨by omega, by omega⟩, toNatN, grd_t (by rw [List.length_drop]; omega), rws_gp hi, getL_t]
    by_cases h : j < c
    · have bx := any_bad h5 (i := j) (by omega)
      have bc := hL.val i j hi h
      have hm := mul_b bx.1 bx.2 bc.1 bc.2
      rw [Int.mul_comm] at hm
      rw [brn_t (decide_eq_true (by omega)), grd_t ⟨by omega, by omega⟩, toNatN, grd_t (by rw [List.length_drop]; omega), iL_gp (by omega), getI_t, grd_t (by omega), grd_t (by rw [List.length_drop]; omega), rws_gp (by omega), getL_t, grd_t (by omega), grd_t (by rw [List.length_drop]; omega), iL_gp (by omega), getI_t]
      rw [wrap64 (n := en (ro L i) j * en (ro D i) j) (by omega) (by omega), wrap64 (n := a + en (ro L i) j * en (ro D i) j) (by omega) (by omega), wrapN (by omega)]
      have ih := rc_L N L c hL D hD i hi hx h5 (r - 1) (j + 1) f (a + en (ro L i) j * en (ro D i) j) (by omega) (by omega) (by omega) (by omega) (by omega)
      rw [ih]
      have e : rcF L i (ro D i) c j = en (ro D i) j * en (ro L i) j + rcF L i (ro D i) c (j + 1) := by
        unfold rcF
        rw [range'_step h, List.map_cons, List.sum_cons]; rfl
      rw [e, Int.mul_comm (en (ro D i) j), Int.add_assoc]
    · rw [brn_f (decide_eq_false (by omega))]
      unfold rcF
      rw [Nat.sub_eq_zero_of_le (by omega)]
      simp
theorem rc_L0 (N : Nat) (hN : 2000 ≤ N) (L : List (List Int)) (c : Nat) (hL : Okc L c) (D : List (List Int)) (hD : D.length = L.length) (hr : ∀ r ∈ D, r.length = c ∧ r.any (bad 0 5) = false) :
    ∀ (s i fuel : Nat) (a : Int), L.length - i = s → s < fuel → 0 ≤ a → a ≤ 400 * i → m71_L0 N L.length (rwsP L) D.length (rwsP D) fuel a (i : Int) = some (a + cF L c i (D.drop i))
  | s, i, 0, _, _, h, _, _ => by omega
  | s, i, f + 1, a, hs, hf, h0, h1 => by
    have hc4 := hL.c4
    have hr3 := hL.r3
    rw [m71_L0]
    by_cases h : i < L.length
    · obtain ⟨r1, r2⟩ := hr _ (ro_mem (L := D) (i := i) (by omega))
      have R := rc_L N L c hL D hD i h r1 r2 c 0 N a (by omega) (by omega) h0 (by omega) (by omega)
      have rb := rcF_b hL (i := i) h r1 r2 c 0 (by omega)
      rw [brn_t (decide_eq_true (by omega)), show m71_L1 N L.length (rwsP L) D.length (rwsP D) (i : Int) N a 0 = _ from R, bnd_t, wrapN (by omega), rc_L0 N hN L c hL D hD hr (s - 1) (i + 1) f (a + rcF L i (ro D i) c 0) (by omega) (by omega) (by omega) (by omega), drop_ro (L := D) (i := i) (by omega), cF, Int.add_assoc]
    · rw [brn_f (decide_eq_false (by omega)), List.drop_eq_nil_of_le (by omega)]
      simp [cF]
theorem got_all (W : List Int) (D : List (List Int)) (hD : ∀ r ∈ D, r.length = W.length) : ((List.range' 0 (W.length - 0)).all fun k => decide (en (gotF (List.replicate W.length 0) D) k = en W k)) = clB W D := by
  unfold clB
  rw [Nat.sub_zero, ← List.range_eq_range', Bool.eq_iff_iff, List.all_eq_true, List.all_eq_true]
  have e : ∀ k, k < W.length → en (gotF (List.replicate W.length 0) D) k = colS D k := fun k hk => by
    rw [en_got D _ (by rw [List.length_replicate]; exact hk)]
    have : en (List.replicate W.length 0) k = 0 := by simp [en, List.getD, hk]
    omega
  constructor
  · intro h k hk
    have := h k hk
    rwa [e k (List.mem_range.1 hk)] at this
  · intro h k hk
    have := h k hk
    rwa [e k (List.mem_range.1 hk)]
theorem iL_zeros (n : Nat) : List.replicate n (PV.int .i64 0) = iL (List.replicate n 0) := by simp [iL]
theorem costr_ok (N : Nat) (hN : 2000 ≤ N) (L : List (List Int)) (hL : lgL L = false) (H W : List Int) (hH : H.length ≤ 20) (hW : W.length ≤ 20) (D : List (List Int)) (hD : lgL D = false) :
    m21 N (.lst false L.length (rwsP L)) (.agg [rwP H, rwP W]) (.lst false D.length (rwsP D)) = some (.tup [.int .i64 (cstE L H W D).1, .int .i64 (cstE L H W D).2]) := by
  have ld := (loaded_ok N hN L hL H W hH hW).2
  have hD20 : D.length ≤ 20 := by simp only [lgL, Bool.or_eq_false_iff, decide_eq_false_iff_not] at hD; omega
  rw [m21, getL_t, getA2_t, getL_t, ld, bnd_t, getI_t]
  unfold cstE
  by_cases h : ldE L H W = 0
  · obtain ⟨ok, k1, k2, k3, k4⟩ := ldE_zero h
    have hc4 := ok.c4
    have hr3 := ok.r3
    rw [h, brn_f (b := ((0 : Int) != 0)) rfl, if_neg (show ¬ ((0 : Int) ≠ 0) by simp)]
    have S := rs_L0 N L H W D hD20 D.length 0 N (by omega) (by omega)
    rw [List.drop_zero] at S
    unfold rwP
    unfold rwP at S
    rw [getL_t]
    by_cases h1 : D.length = L.length
    · rw [brn_f (bne_eq_false_iff_eq.2 (by omega)), if_neg (by simpa using h1), show m21_L0 N L.length (rwsP L) D.length (rwsP D) H.length (iL H) N 0 (.lst false W.length (iL W)) = _ from S]
      cases h2 : D.any fun r => r.length != W.length with
      | true => rfl
      | false =>
        have rows : ∀ r ∈ D, r.length = W.length := fun r hr => by
          have := List.any_eq_false.1 h2 r hr
          simpa using this
        rw [if_neg (by simp), bnd_t]
        show getL _ _ = _
        rw [getL_t, grd_t ⟨by omega, by omega, by omega⟩, iL_zeros]
        have R := rs_L1 N hN L.length (rwsP L) H.length (iL H) (iL W) W.length hc4 D hD20 rows D.length 0 N (List.replicate W.length 0) (by omega) (by omega) (by simp) (fun k hk => by simp [en, List.getD, hk])
        rw [List.drop_zero] at R
        rw [show m21_L1 N L.length (rwsP L) D.length (rwsP D) H.length (iL H) W.length (iL W) N 0 (iL (List.replicate W.length 0)) = _ from R]
        cases h3 : D.any fun r => r.any (bad 0 5) with
        | true => rfl
        | false =>
          have vals : ∀ r ∈ D, r.length = W.length ∧ r.any (bad 0 5) = false := fun r hr => by
            have := List.any_eq_false.1 h3 r hr
            exact ⟨rows r hr, by simpa using this⟩
          rw [if_neg (by simp), bnd_t]
          have R3 := rs_L3 N hN L.length (rwsP L) W.length (iL W) (iL (gotF (List.replicate W.length 0) D)) H D hD20 (by omega) (fun r hr => by have := vals r hr; exact ⟨by omega, this.2⟩) D.length 0 N (by omega) (by omega)
          rw [List.drop_zero] at R3
          show bnd' (m21_L3 N _ _ _ _ _ _ _ _ _ N 0) _ = _
          rw [show m21_L3 N L.length (rwsP L) D.length (rwsP D) H.length (iL H) W.length (iL W) (iL (gotF (List.replicate W.length 0) D)) N 0 = _ from R3]
          cases h4 : rwB H 0 D with
          | false => rfl
          | true =>
            rw [if_pos rfl, bnd_t]
            have R4 := rs_L4 N L.length (rwsP L) D.length (rwsP D) H.length (iL H) (gotF (List.replicate W.length 0) D) W (by rw [gotF_len, List.length_replicate]) hW W.length 0 N (by omega) (by omega)
            rw [got_all W D rows] at R4
            show bnd' (m21_L4 N _ _ _ _ _ _ _ _ _ N 0) _ = _
            rw [show m21_L4 N L.length (rwsP L) D.length (rwsP D) H.length (iL H) W.length (iL W) (iL (gotF (List.replicate W.length 0) D)) N 0 = _ from R4]
            cases h5 : clB W D with
            | false => rfl
            | true =>
              rw [if_pos rfl, bnd_t]
              have R5 := rc_L0 N hN L W.length ok D h1 vals L.length 0 N 0 (by omega) (by omega) (by omega) (by omega)
              rw [List.drop_zero, Int.zero_add] at R5
              show bnd' (m71 N _ _) _ = _
              rw [m71, getL_t, getL_t, show m71_L0 N L.length (rwsP L) D.length (rwsP D) N 0 0 = _ from R5, bnd_t, bnd_t, getI_t]
              rfl
    · rw [brn_t (bne_iff_ne.2 (by omega)), if_pos h1]
  · rw [brn_t (by simpa using h), if_pos h]
theorem brn_dt {α : Type} {p : Prop} [Decidable p] {x y : Option α} (h : p) : brn (decide p) x y = x := brn_t (decide_eq_true h)
theorem brn_df {α : Type} {p : Prop} [Decidable p] {x y : Option α} (h : ¬ p) : brn (decide p) x y = y := brn_f (decide_eq_false h)
theorem brn_et {α : Type} {a b : Int} {x y : Option α} (h : a = b) : brn (a == b) x y = x := brn_t (by simpa using h)
theorem brn_ef {α : Type} {a b : Int} {x y : Option α} (h : a ≠ b) : brn (a == b) x y = y := brn_f (by simpa using h)
theorem brn_nt {α : Type} {a b : Int} {x y : Option α} (h : a ≠ b) : brn (a != b) x y = x := brn_t (by simpa using h)
theorem brn_nf {α : Type} {a b : Int} {x y : Option α} (h : a = b) : brn (a != b) x y = y := brn_f (by simpa using h)
theorem gI_n {α : Type} {X : List Int} {i : Nat} {f : Int → Option α} (h : i < X.length) : getI .i64 (gp (iL X) (Int.toNat (i : Int))) f = f (en X i) := by
  rw [toNatN, iL_gp h, getI_t]
theorem gI_0 {α : Type} {X : List Int} {f : Int → Option α} (h : 0 < X.length) : getI .i64 (gp (iL X) 0) f = f (en X 0) := by
  rw [iL_gp h, getI_t]
theorem gL_n {α : Type} {L : List (List Int)} {i : Nat} {f : Nat → List PV → Option α} (h : i < L.length) : getL (gp (rwsP L) (Int.toNat (i : Int))) f = f (ro L i).length (iL (ro L i)) := by
  rw [toNatN, rws_gp h, getL_t]
theorem gL_0 {α : Type} {L : List (List Int)} {f : Nat → List PV → Option α} (h : 0 < L.length) : getL (gp (rwsP L) 0) f = f (ro L 0).length (iL (ro L 0)) := by
  rw [rws_gp h, getL_t]
theorem iL_app (X : List Int) (x : Int) : iL X ++ [.int .i64 x] = iL (X ++ [x]) := by simp [iL]
theorem minI_ok (a b : Int) : (minI a b = a ∨ minI a b = b) ∧ minI a b ≤ a ∧ minI a b ≤ b := by
  unfold minI; split <;> omega
theorem getT0_t {α : Type} {k : Option α} : getT0 (.tup []) k = k := rfl
theorem d83_b (N : Nat) (L : List (List Int)) (c : Nat) (hL : Okc L c) (i j : Nat) (n : Int) (P Q : List Int) (hi : i < L.length) (hj : j < c) (hQ : Q.length = j) (hP : i < P.length) (hb : -1000 ≤ en P i ∧ en P i ≤ 1000) :
    m83_2 N i j n (.lst false L.length (rwsP L)) P.length Q.length (iL P) (iL Q) = some (.tup [], P.length, (Q ++ [cst L i j - en P i]).length, iL P, iL (Q ++ [cst L i j - en P i])) := by
  have lr := hL.row i hi
  have bc := hL.val i j hi hj
  have c4 := hL.c4
  unfold m83_2
  rw [brn_et (by omega), getL_t]
  simp (disch := (try simp only [List.length_drop, iL_len, rws_len, toNatN]) <;> omega) only [↓grd_t, ↓gI_n, ↓gL_n]
  rw [wrap64 (n := en (ro L i) j - en P i) (by omega) (by omega), iL_app]
  simp [cst]
theorem d83_h (N : Nat) (L : List (List Int)) (c : Nat) (hL : Okc L c) (i j : Nat) (n : Int) (P Q : List Int) (hi : i < L.length) (hj : j < c) (hQ : j < Q.length) (hP : P.length = i) (hb : -1000 ≤ en Q j ∧ en Q j ≤ 1000) :
    m83_2 N i j n (.lst false L.length (rwsP L)) P.length Q.length (iL P) (iL Q) = some (.tup [], (P ++ [cst L i j - en Q j]).length, Q.length, iL (P ++ [cst L i j - en Q j]), iL Q) := by
  have lr := hL.row i hi
  have bc := hL.val i j hi hj
  have c4 := hL.c4
  have r3 := hL.r3
  unfold m83_2
  rw [brn_ef (by omega), getL_t]
  simp (disch := (try simp only [List.length_drop, iL_len, rws_len, toNatN]) <;> omega) only [↓grd_t, ↓gI_n, ↓gL_n]
  rw [wrap64 (n := en (ro L i) j - en Q j) (by omega) (by omega), iL_app]
  simp [cst]
def prF (L : List (List Int)) (R C : Nat) (H W : List Int) : Nat → Nat → Nat → Int → Int → List Int → List Int → List Int × List Int
  | 0, _, _, _, _, P, Q => (P, Q)
  | f + 1, i, j, hs, ws, P, Q =>
    if hs - minI hs ws = 0 ∧ i + 1 < R then prF L R C H W f (i + 1) j (en H (i + 1)) (ws - minI hs ws) (P ++ [cst L (i + 1) j - en Q j]) Q
    else if j + 1 < C then prF L R C H W f i (j + 1) (hs - minI hs ws) (en W (j + 1)) P (Q ++ [cst L i (j + 1) - en P i])
    else (P, Q)
structure Lds (R C : Nat) (H W : List Int) : Prop where
  hl : H.length = R
  wl : W.length = C
  h5 : ∀ k, k < R → 0 ≤ en H k ∧ en H k ≤ 5
  w5 : ∀ k, k < C → 0 ≤ en W k ∧ en W k ≤ 5
def Bd (b : Nat) (P : List Int) : Prop := ∀ k, k < P.length → -(20 * (b : Int)) ≤ en P k ∧ en P k ≤ 20 * b
theorem en_app1 {P : List Int} {x : Int} {k : Nat} (h : k < P.length) : en (P ++ [x]) k = en P k := by
  simp [en, List.getD, List.getElem?_append_left h]
theorem en_app2 {P : List Int} {x : Int} {k : Nat} (h : k = P.length) : en (P ++ [x]) k = x := by
  subst h; simp [en, List.getD]
theorem Bd.app {b b' : Nat} {P : List Int} {x : Int} (h : Bd b P) (hb : b ≤ b') (hx : -(20 * (b' : Int)) ≤ x ∧ x ≤ 20 * b') : Bd b' (P ++ [x]) := fun k hk => by
  by_cases h1 : k < P.length
  · rw [en_app1 h1]; have := h k h1; omega
  · rw [en_app2 (by simp at hk; omega)]; exact hx
theorem Bd.mono {b b' : Nat} {P : List Int} (h : Bd b P) (hb : b ≤ b') : Bd b' P := fun k hk => by
  have := h k hk; omega
theorem loop61 (N : Nat) (L : List (List Int)) (C : Nat) (hL : Okc L C) (H W : List Int) (hl : Lds L.length C H W) : ∀ (f fuel i j : Nat) (hs ws : Int) (n0 n1 : Nat) (c0 c1 : List PV) (P Q : List Int),
    (L.length - i) + (C - j) ≤ f → f ≤ fuel → i < L.length → j < C → P.length = i + 1 → Q.length = j + 1 → 0 ≤ hs → hs ≤ 5 → 0 ≤ ws → ws ≤ 5 → Bd (i + j + 1) P → Bd (i + j + 1) Q →
    m83_2 N i j (minI hs ws) (.lst false L.length (rwsP L)) n0 n1 c0 c1 = some (.tup [], P.length, Q.length, iL P, iL Q) →
    m61_L0 N (.lst false L.length (rwsP L)) L.length (iL H) C (iL W) fuel i j hs ws n0 n1 c0 c1 = some (.tup [], (prF L L.length C H W f i j hs ws P Q).1.length, (prF L L.length C H W f i j hs ws P Q).2.length, iL (prF L L.length C H W f i j hs ws P Q).1, iL (prF L L.length C H W f i j hs ws P Q).2)
  | 0, _, i, j, _, _, _, _, _, _, _, _, h, _, h1, h2, _, _, _, _, _, _, _, _, _ => by omega
  | f + 1, 0, i, j, _, _, _, _, _, _, _, _, h, hf, h1, h2, _, _, _, _, _, _, _, _, _ => by omega
  | f + 1, fuel + 1, i, j, hs, ws, n0, n1, c0, c1, P, Q, h, hf, hi, hj, hP, hQ, h0, h5, w0, w5, bP, bQ, hm => by
    have hr3 := hL.r3
    have hc4 := hL.c4
    have mm := minI_ok hs ws
    have l1 := hl.hl
    have l2 := hl.wl
    rw [m61_L0, hm, bnd_t]
    show getT0 (.tup []) _ = _
    rw [getT0_t, wrap64 (n := hs - minI hs ws) (by omega) (by omega), wrap64 (n := ((L.length : Nat) : Int) - 1) (by omega) (by omega), wrap64 (n := ((C : Nat) : Int) - 1) (by omega) (by omega), wrapN (n := i) (by omega), wrapN (n := j) (by omega), wrap64 (n := ws - minI hs ws) (by omega) (by omega), prF]
    have next2 : j + 1 < C → m61_L0 N (.lst false L.length (rwsP L)) L.length (iL H) C (iL W) fuel i ((j + 1 : Nat) : Int) (hs - minI hs ws) (en W (j + 1)) P.length Q.length (iL P) (iL Q) = some (.tup [], (prF L L.length C H W f i (j + 1) (hs - minI hs ws) (en W (j + 1)) P (Q ++ [cst L i (j + 1) - en P i])).1.length, (prF L L.length C H W f i (j + 1) (hs - minI hs ws) (en W (j + 1)) P (Q ++ [cst L i (j + 1) - en P i])).2.length, iL (prF L L.length C H W f i (j + 1) (hs - minI hs ws) (en W (j + 1)) P (Q ++ [cst L i (j + 1) - en P i])).1, iL (prF L L.length C H W f i (j + 1) (hs - minI hs ws) (en W (j + 1)) P (Q ++ [cst L i (j + 1) - en P i])).2) := fun g => by
      have b1 := bP i (by omega)
      have bv := hL.val i (j + 1) hi g
      have w1 := hl.w5 (j + 1) g
      exact loop61 N L C hL H W hl f fuel i (j + 1) (hs - minI hs ws) (en W (j + 1)) _ _ _ _ P (Q ++ [cst L i (j + 1) - en P i]) (by omega) (by omega) hi g hP (by simp; omega) (by omega) (by omega) (by omega) (by omega) (bP.mono (by omega)) (bQ.app (by omega) (by unfold cst; omega)) (d83_b N L C hL i (j + 1) _ P Q hi g (by omega) (by omega) (by omega))
    by_cases h1 : hs - minI hs ws = 0
    · rw [brn_et h1]
      by_cases h2 : i + 1 < L.length
      · have b1 := bQ j (by omega)
        have bv := hL.val (i + 1) j h2 hj
        have w1 := hl.h5 (i + 1) h2
        rw [brn_dt (by omega), if_pos ⟨h1, h2⟩]
        simp (disch := (try simp only [List.length_drop, iL_len, rws_len, toNatN]) <;> omega) only [↓grd_t, ↓gI_n]
        exact loop61 N L C hL H W hl f fuel (i + 1) j (en H (i + 1)) (ws - minI hs ws) _ _ _ _ (P ++ [cst L (i + 1) j - en Q j]) Q (by omega) (by omega) h2 hj (by simp; omega) hQ (by omega) (by omega) (by omega) (by omega) (bP.app (by omega) (by unfold cst; omega)) (bQ.mono (by omega)) (d83_h N L C hL (i + 1) j _ P Q h2 hj (by omega) hP (by omega))
      · rw [brn_df (by omega), if_neg (by omega)]
        by_cases h3 : j + 1 < C
        · rw [brn_dt (by omega), if_pos h3]
          simp (disch := (try simp only [List.length_drop, iL_len, rws_len, toNatN]) <;> omega) only [↓grd_t, ↓gI_n]
          exact next2 h3
        · rw [brn_df (by omega), if_neg h3]
    · rw [brn_ef h1, if_neg (by omega)]
      by_cases h3 : j + 1 < C
      · rw [brn_dt (by omega), if_pos h3]
        simp (disch := (try simp only [List.length_drop, iL_len, rws_len, toNatN]) <;> omega) only [↓grd_t, ↓gI_n]
        exact next2 h3
      · rw [brn_df (by omega), if_neg h3]
def stp (R C : Nat) (H W : List Int) : Nat → Nat → Nat → Int → Int → List (Nat × Nat)
  | 0, _, _, _, _ => []
  | f + 1, i, j, hs, ws => (i, j) :: (
    if hs - minI hs ws = 0 ∧ i + 1 < R then stp R C H W f (i + 1) j (en H (i + 1)) (ws - minI hs ws)
    else if j + 1 < C then stp R C H W f i (j + 1) (hs - minI hs ws) (en W (j + 1))
    else [])
def fl : List (Nat × Nat) → List PV
  | [] => []
  | s :: S => .int .i64 (s.1 : Int) :: .int .i64 (s.2 : Int) :: fl S
theorem fl_len : ∀ S : List (Nat × Nat), (fl S).length = S.length * 2
  | [] => rfl
  | s :: S => by simp only [fl, List.length_cons, fl_len S]; omega
theorem fl_gp0 : ∀ {S : List (Nat × Nat)} {k : Nat} {s : Nat × Nat} {T : List (Nat × Nat)}, S.drop k = s :: T → gp (fl S) (k * 2) = .int .i64 (s.1 : Int) ∧ gp (fl S) (k * 2 + 1) = .int .i64 (s.2 : Int)
  | [], k, s, T, h => by simp at h
  | x :: S, 0, s, T, h => by
    simp only [List.drop_zero, List.cons.injEq] at h
    rw [← h.1]
    exact ⟨rfl, rfl⟩
  | x :: S, k + 1, s, T, h => by
    rw [List.drop_succ_cons] at h
    have ih := fl_gp0 h
    rw [show (k + 1) * 2 = k * 2 + 2 by omega]
    exact ih
theorem stp_len (R C : Nat) (H W : List Int) : ∀ (f i j : Nat) (hs ws : Int), (stp R C H W f i j hs ws).length ≤ f
  | 0, _, _, _, _ => by simp [stp]
  | f + 1, i, j, hs, ws => by
    rw [stp, List.length_cons]
    split
    · have := stp_len R C H W f (i + 1) j (en H (i + 1)) (ws - minI hs ws); omega
    · split
      · have := stp_len R C H W f i (j + 1) (hs - minI hs ws) (en W (j + 1)); omega
      · simp
theorem loop63 (N R C : Nat) (hR : R ≤ 3) (hC : C ≤ 4) (H W : List Int) (hl : Lds R C H W) : ∀ (f fuel i j k : Nat) (S0 : List (Nat × Nat)) (hA wA : List Int),
    (R - i) + (C - j) ≤ f → f < fuel → i < R → j < C → hA.length = R → wA.length = C → (∀ k, i < k → en hA k = en H k) → (∀ k, j < k → en wA k = en W k) → 0 ≤ en hA i → en hA i ≤ 5 → 0 ≤ en wA j → en wA j ≤ 5 → S0.length = k → k + f ≤ 100 →
    ∃ S, S = stp R C H W f i j (en hA i) (en wA j) ∧ m63_L0 N R C fuel k i j (fl S0) (iL hA) (iL wA) = some (k + S.length, fl (S0 ++ S))
  | 0, _, i, j, _, _, _, _, h, _, h1, h2, _, _, _, _, _, _, _, _, _, _ => by omega
  | f + 1, 0, i, j, _, _, _, _, h, hf, h1, h2, _, _, _, _, _, _, _, _, _, _ => by omega
  | f + 1, fuel + 1, i, j, k, S0, hA, wA, h, hf, hi, hj, lh, lw, eh, ew, h0, h5, w0, w5, hk, hk2 => by
    have mm := minI_ok (en hA i) (en wA j)
    have l1 := hl.hl
    have l2 := hl.wl
    have lf := fl_len S0
    have app : fl S0 ++ [PV.int .i64 (i : Int), PV.int .i64 (j : Int)] = fl (S0 ++ [(i, j)]) := by
      clear lf hk
      induction S0 with
      | nil => rfl
      | cons s S ih => simp only [fl, List.cons_append, ih]
    refine ⟨_, rfl, ?_⟩
    rw [m63_L0, brn_dt (by omega)]
    simp (disch := (try simp only [List.length_drop, iL_len, rws_len, toNatN, fl_len]) <;> omega) only [↓grd_t, ↓gI_n]
    rw [toNatN, toNatN, wrap64 (n := en hA i - minI (en hA i) (en wA j)) (by omega) (by omega), wrap64 (n := en wA j - minI (en hA i) (en wA j)) (by omega) (by omega), wrapN (n := i) (by omega), wrapN (n := j) (by omega), iL_set, iL_set, iL_gp (by rw [List.length_set]; omega), getI_t, en_set (by omega), if_pos rfl, app, stp]
    have nextj : m63_L0 N R C fuel (k + 1) i ((j + 1 : Nat) : Int) (fl (S0 ++ [(i, j)])) (iL (hA.set i (en hA i - minI (en hA i) (en wA j)))) (iL (wA.set j (en wA j - minI (en hA i) (en wA j)))) = some (k + ((i, j) :: (if j + 1 < C then stp R C H W f i (j + 1) (en hA i - minI (en hA i) (en wA j)) (en W (j + 1)) else [])).length, fl (S0 ++ (i, j) :: (if j + 1 < C then stp R C H W f i (j + 1) (en hA i - minI (en hA i) (en wA j)) (en W (j + 1)) else []))) := by
      by_cases g : j + 1 < C
      · have v := hl.w5 (j + 1) g
        obtain ⟨S, hS, e⟩ := loop63 N R C hR hC H W hl f fuel i (j + 1) (k + 1) (S0 ++ [(i, j)]) (hA.set i (en hA i - minI (en hA i) (en wA j))) (wA.set j (en wA j - minI (en hA i) (en wA j))) (by omega) (by omega) hi g (by simpa using lh) (by simpa using lw)
          (fun k hk => by rw [en_set (by omega), if_neg (by omega)]; exact eh k hk) (fun k hk => by rw [en_set (by omega), if_neg (by omega)]; exact ew k (by omega))
          (by rw [en_set (by omega), if_pos rfl]; omega) (by rw [en_set (by omega), if_pos rfl]; omega) (by rw [en_set (by omega), if_neg (by omega), ew (j + 1) (by omega)]; omega) (by rw [en_set (by omega), if_neg (by omega), ew (j + 1) (by omega)]; omega) (by simp; omega) (by omega)
        rw [en_set (by omega), if_pos rfl, en_set (by omega), if_neg (by omega), ew (j + 1) (by omega)] at hS
        rw [e, if_pos g, ← hS]
        simp; omega
      · cases fuel with
        | zero => omega
        | succ fuel =>
          rw [m63_L0, brn_df (by omega), if_neg g]
          simp
    by_cases h1 : en hA i - minI (en hA i) (en wA j) = 0
    · rw [brn_et h1]
      by_cases h2 : i + 1 < R
      · have v := hl.h5 (i + 1) h2
        rw [brn_dt (by omega), if_pos ⟨h1, h2⟩]
        obtain ⟨S, hS, e⟩ := loop63 N R C hR hC H W hl f fuel (i + 1) j (k + 1) (S0 ++ [(i, j)]) (hA.set i (en hA i - minI (en hA i) (en wA j))) (wA.set j (en wA j - minI (en hA i) (en wA j))) (by omega) (by omega) h2 hj (by simpa using lh) (by simpa using lw)
          (fun k hk => by rw [en_set (by omega), if_neg (by omega)]; exact eh k (by omega)) (fun k hk => by rw [en_set (by omega), if_neg (by omega)]; exact ew k hk)
          (by rw [en_set (by omega), if_neg (by omega), eh (i + 1) (by omega)]; omega) (by rw [en_set (by omega), if_neg (by omega), eh (i + 1) (by omega)]; omega) (by rw [en_set (by omega), if_pos rfl]; omega) (by rw [en_set (by omega), if_pos rfl]; omega) (by simp; omega) (by omega)
        rw [en_set (by omega), if_neg (by omega), eh (i + 1) (by omega), en_set (by omega), if_pos rfl] at hS
        rw [e, ← hS]
        simp; omega
      · rw [brn_df (by omega), if_neg (by omega)]
        exact nextj
    · rw [brn_ef h1, if_neg (by omega)]
      exact nextj
def padZ (n : Nat) (P : List Int) : List Int := P ++ List.replicate (n - P.length) 0
theorem padZ_len {n : Nat} {P : List Int} (h : P.length ≤ n) : (padZ n P).length = n := by simp [padZ]; omega
theorem en_padZ {n : Nat} {P : List Int} {k : Nat} (h : k < P.length) : en (padZ n P) k = en P k := by
  simp [en, padZ, List.getD, List.getElem?_append_left h]
theorem padZ_set {n : Nat} {P : List Int} {x : Int} (h : P.length < n) : (padZ n P).set P.length x = padZ n (P ++ [x]) := by
  unfold padZ
  rw [List.set_append_right _ _ (by omega), Nat.sub_self, show n - P.length = (n - (P.length + 1)) + 1 by omega, List.replicate_succ, List.set_cons_zero]
  simp
theorem gI_f0 {α : Type} {S T : List (Nat × Nat)} {k : Nat} {s : Nat × Nat} {f : Int → Option α} (h : S.drop k = s :: T) : getI .i64 (gp (fl S) (k * 2)) f = f (s.1 : Int) := by
  rw [(fl_gp0 h).1, getI_t]
theorem gI_f1 {α : Type} {S T : List (Nat × Nat)} {k : Nat} {s : Nat × Nat} {f : Int → Option α} (h : S.drop k = s :: T) : getI .i64 (gp (fl S) (k * 2 + 1)) f = f (s.2 : Int) := by
  rw [(fl_gp0 h).2, getI_t]
theorem drop_lt {α : Type} {S T : List α} {k : Nat} {s : α} (h : S.drop k = s :: T) : k < S.length := by
  have : (S.drop k).length ≠ 0 := by rw [h]; simp
  rw [List.length_drop] at this; omega
theorem drop_next {α : Type} {S T : List α} {k : Nat} {s : α} (h : S.drop k = s :: T) : S.drop (k + 1) = T := by
  rw [← List.drop_drop, h]; rfl
theorem loop39 (N : Nat) (L : List (List Int)) (C : Nat) (hL : Okc L C) (H W : List Int) (hl : Lds L.length C H W) (S : List (Nat × Nat)) (hS : S.length ≤ 100) : ∀ (f fuel i j k : Nat) (hs ws : Int) (P Q : List Int),
    (L.length - i) + (C - j) ≤ f → f < fuel → i < L.length → j < C → P.length = i + 1 → Q.length = j + 1 → Bd (i + j + 1) P → Bd (i + j + 1) Q → S.drop k = stp L.length C H W f i j hs ws →
    m39_L0 N L.length (rwsP L) L.length C S.length (fl S) fuel ((k + 1 : Nat) : Int) (iL (padZ L.length P)) (iL (padZ C Q)) = some (iL (padZ L.length (prF L L.length C H W f i j hs ws P Q).1), iL (padZ C (prF L L.length C H W f i j hs ws P Q).2))
  | 0, _, i, j, _, _, _, _, _, h, _, h1, h2, _, _, _, _, _ => by omega
  | f + 1, 0, i, j, _, _, _, _, _, h, hf, h1, h2, _, _, _, _, _ => by omega
  | f + 1, fuel + 1, i, j, k, hs, ws, P, Q, h, hf, hi, hj, hP, hQ, bP, bQ, hd => by
    have hr3 := hL.r3
    have hc4 := hL.c4
    rw [stp] at hd
    have hk := drop_lt hd
    have hn := drop_next hd
    have lf := fl_len S
    rw [m39_L0, prF]
    have ew : IntKind.i64.wrap (((k + 1 : Nat) : Int) - 1) = (k : Int) := by rw [wrap64 (by omega) (by omega)]; omega
    have lP := padZ_len (n := L.length) (P := P) (by omega)
    have lQ := padZ_len (n := C) (P := Q) (by omega)
    by_cases h1 : hs - minI hs ws = 0 ∧ i + 1 < L.length
    · rw [if_pos h1] at hn ⊢
      have hn' := hn
      cases f with
      | zero => omega
      | succ f =>
      rw [stp] at hn'
      have hk' := drop_lt hn'
      have bv := hL.val (i + 1) j h1.2 hj
      have lr := hL.row (i + 1) h1.2
      have b1 := bQ j (by omega)
      rw [brn_dt (by omega), ew, toNatN, toNatN]
      rw [grd_t ⟨by omega, by omega⟩, grd_t (by rw [List.length_drop]; omega), gI_f0 hn', grd_t (by rw [List.length_drop, List.length_drop]; omega), gI_f1 hn', grd_t ⟨by omega, by omega⟩, grd_t (by rw [List.length_drop, List.length_drop]; omega), gI_f1 hd]
      rw [brn_df (by simp)]
      simp (disch := (try simp only [List.length_drop, iL_len, rws_len, toNatN]) <;> omega) only [↓grd_t, ↓gI_n, ↓gL_n]
      rw [toNatN, en_padZ (by omega), wrap64 (n := en (ro L (i + 1)) j - en Q j) (by omega) (by omega), wrapN (by omega), iL_set, ← hP, padZ_set (by omega), hP]
      exact loop39 N L C hL H W hl S hS (f + 1) fuel (i + 1) j (k + 1) _ _ (P ++ [cst L (i + 1) j - en Q j]) Q (by omega) (by omega) h1.2 hj (by simp; omega) hQ (bP.app (by omega) (by unfold cst; omega)) (bQ.mono (by omega)) hn
    · rw [if_neg h1] at hn ⊢
      by_cases h2 : j + 1 < C
      · rw [if_pos h2] at hn ⊢
        have hn' := hn
        cases f with
        | zero => omega
        | succ f =>
        rw [stp] at hn'
        have hk' := drop_lt hn'
        have bv := hL.val i (j + 1) hi h2
        have lr := hL.row i hi
        have b1 := bP i (by omega)
        rw [brn_dt (by omega), ew, toNatN, toNatN]
        rw [grd_t ⟨by omega, by omega⟩, grd_t (by rw [List.length_drop]; omega), gI_f0 hn', grd_t (by rw [List.length_drop, List.length_drop]; omega), gI_f1 hn', grd_t ⟨by omega, by omega⟩, grd_t (by rw [List.length_drop, List.length_drop]; omega), gI_f1 hd]
        rw [brn_dt (by simp; omega)]
        simp (disch := (try simp only [List.length_drop, iL_len, rws_len, toNatN]) <;> omega) only [↓grd_t, ↓gI_n, ↓gL_n]
        rw [toNatN, en_padZ (by omega), wrap64 (n := en (ro L i) (j + 1) - en P i) (by omega) (by omega), wrapN (by omega), iL_set, ← hQ, padZ_set (by omega), hQ]
        exact loop39 N L C hL H W hl S hS (f + 1) fuel i (j + 1) (k + 1) _ _ P (Q ++ [cst L i (j + 1) - en P i]) (by omega) (by omega) hi h2 hP (by simp; omega) (bP.mono (by omega)) (bQ.app (by omega) (by unfold cst; omega)) hn
      · rw [if_neg h2] at hn ⊢
        have : (S.drop (k + 1)).length = 0 := by rw [hn]; rfl
        rw [List.length_drop] at this
        rw [brn_df (by omega)]
theorem drop_sum {X : List Int} {i : Nat} (h : i < X.length) : (X.drop i).sum = en X i + (X.drop (i + 1)).sum := by
  rw [drop_en h, List.sum_cons]
theorem sum_nn : ∀ {X : List Int}, (∀ k, k < X.length → 0 ≤ en X k) → 0 ≤ X.sum
  | [], _ => by simp
  | x :: X, h => by
    have h0 := h 0 (by simp)
    have := sum_nn (X := X) fun k hk => by have := h (k + 1) (by simpa using hk); simpa [en] using this
    simp only [en, List.getD_cons_zero] at h0
    rw [List.sum_cons]; omega
theorem en_drop (X : List Int) (i k : Nat) : en (X.drop i) k = en X (i + k) := by simp [en, List.getD]
theorem prF_len (L : List (List Int)) (R C : Nat) (H W : List Int) (hl : Lds R C H W) : ∀ (f i j : Nat) (hs ws : Int) (P Q : List Int), (R - i) + (C - j) ≤ f → i < R → j < C → P.length = i + 1 → Q.length = j + 1 → 0 ≤ hs → 0 ≤ ws → hs + (H.drop (i + 1)).sum = ws + (W.drop (j + 1)).sum →
    (prF L R C H W f i j hs ws P Q).1.length = R ∧ (prF L R C H W f i j hs ws P Q).2.length = C
  | 0, i, j, _, _, _, _, h, hi, hj, _, _, _, _, _ => by omega
  | f + 1, i, j, hs, ws, P, Q, h, hi, hj, hP, hQ, h0, w0, he => by
    have l1 := hl.hl
    have l2 := hl.wl
    have mm := minI_ok hs ws
    have s1 : 0 ≤ (H.drop (i + 1)).sum := sum_nn fun k hk => by
      rw [List.length_drop] at hk
      rw [en_drop]; have := hl.h5 (i + 1 + k) (by omega); omega
    have s2 : 0 ≤ (W.drop (j + 1)).sum := sum_nn fun k hk => by
      rw [List.length_drop] at hk
      rw [en_drop]; have := hl.w5 (j + 1 + k) (by omega); omega
    rw [prF]
    by_cases h1 : hs - minI hs ws = 0 ∧ i + 1 < R
    · rw [if_pos h1]
      have v := hl.h5 (i + 1) h1.2
      have d := drop_sum (X := H) (i := i + 1) (by omega)
      exact prF_len L R C H W hl f (i + 1) j _ _ _ _ (by omega) h1.2 hj (by simp; omega) hQ (by omega) (by omega) (by omega)
    · rw [if_neg h1]
      have e0 : i + 1 = R → (H.drop (i + 1)).sum = 0 := fun e => by rw [List.drop_eq_nil_of_le (by omega)]; rfl
      by_cases h2 : j + 1 < C
      · rw [if_pos h2]
        have v := hl.w5 (j + 1) h2
        have d := drop_sum (X := W) (i := j + 1) (by omega)
        refine prF_len L R C H W hl f i (j + 1) _ _ _ _ (by omega) hi h2 hP (by simp; omega) (by omega) (by omega) ?_
        by_cases g : hs - minI hs ws = 0
        · have := e0 (by omega)
          omega
        · omega
      · rw [if_neg h2]
        have e1 : (W.drop (j + 1)).sum = 0 := by rw [List.drop_eq_nil_of_le (by omega)]; rfl
        refine ⟨(?_ : P.length = R), (by omega : Q.length = C)⟩
        by_cases g : i + 1 < R
        · exfalso; apply h1; exact ⟨by omega, g⟩
        · omega
def prvL (L : List (List Int)) (H W : List Int) : List Int × List Int :=
  if ldE L H W ≠ 0 then ([], []) else if (crk (cst L) L.length W.length).isNone then prF L L.length W.length H W 100 0 0 (en H 0) (en W 0) [0] [cst L 0 0] else ([], [])
def prvN (L : List (List Int)) (H W : List Int) : Int :=
  if ldE L H W ≠ 0 then ldE L H W else if (crk (cst L) L.length W.length).isNone then 0 else 13
def prvE (L : List (List Int)) (H W : List Int) : PV := .tup [.agg [rwP (prvL L H W).1, rwP (prvL L H W).2], .int .i64 (prvN L H W)]
theorem ldE_chk {L : List (List Int)} {H W : List Int} (h : ldE L H W = 0) : chk L = 0 ∧ W.length = (ro L 0).length := by
  unfold ldE at h
  by_cases h1 : chk L = 0
  · rw [if_neg (by simpa using h1)] at h
    split at h
    · cases h
    · split at h
      · cases h
      · exact ⟨h1, by omega⟩
  · rw [if_pos h1] at h; exact absurd h h1
theorem Lds.mk' {L : List (List Int)} {H W : List Int} (h : ldE L H W = 0) : Lds L.length W.length H W := by
  obtain ⟨ok, k1, k2, k3, k4⟩ := ldE_zero h
  exact ⟨k1, rfl, fun k hk => any_bad k2 (by omega), fun k hk => any_bad k3 hk⟩
theorem prv_len {L : List (List Int)} {H W : List Int} (h : ldE L H W = 0) : (prF L L.length W.length H W 100 0 0 (en H 0) (en W 0) [0] [cst L 0 0]).1.length = L.length ∧ (prF L L.length W.length H W 100 0 0 (en H 0) (en W 0) [0] [cst L 0 0]).2.length = W.length := by
  obtain ⟨ok, k1, k2, k3, k4⟩ := ldE_zero h
  have l := Lds.mk' h
  have r1 := ok.r1
  have r3 := ok.r3
  have c1 := ok.c1
  have c4 := ok.c4
  refine prF_len L L.length W.length H W l 100 0 0 _ _ _ _ (by omega) (by omega) (by omega) rfl rfl (l.h5 0 (by omega)).1 (l.w5 0 (by omega)).1 ?_
  have d1 := drop_sum (X := H) (i := 0) (by omega)
  have d2 := drop_sum (X := W) (i := 0) (by omega)
  rw [List.drop_zero] at d1 d2
  rw [← d1, ← d2]
  exact k4
theorem prove_ok (N : Nat) (hN : 2000 ≤ N) (L : List (List Int)) (hL : lgL L = false) (H W : List Int) (hH : H.length ≤ 20) (hW : W.length ≤ 20) :
    m38 N (.lst false L.length (rwsP L)) (.agg [rwP H, rwP W]) = some (prvE L H W) := by
  have ld := (loaded_ok N hN L hL H W hH hW).1
  have st := (strt_ok N hN L hL).1
  rw [m38, getL_t, getA2_t, ld, bnd_t, getI_t]
  unfold prvE prvL prvN
  by_cases h : ldE L H W = 0
  · obtain ⟨ok, k1, k2, k3, k4⟩ := ldE_zero h
    obtain ⟨ck, e0⟩ := ldE_chk h
    have l := Lds.mk' h
    have r1 := ok.r1
    have r3 := ok.r3
    have c1 := ok.c1
    have c4 := ok.c4
    rw [brn_nf h, if_neg (show ¬ ldE L H W ≠ 0 by simpa using h), if_neg (show ¬ ldE L H W ≠ 0 by simpa using h), st, bnd_t, getT2_t, getB_t, getI_t]
    unfold strE
    rw [if_neg (by simpa using ck), ← e0]
    cases hc : (crk (cst L) L.length W.length).isNone with
    | false => rfl
    | true =>
      have v0 := l.h5 0 (by omega)
      have w0 := l.w5 0 (by omega)
      have cv := ok.val 0 0 (by omega) (by omega)
      have bc := d83_b N L W.length ok 0 0 (minI (en H 0) (en W 0)) [0] [] (by omega) (by omega) rfl (by simp) (by simp [en])
      rw [show cst L 0 0 - en [0] 0 = cst L 0 0 by simp [en]] at bc
      have lp := loop61 N L W.length ok H W l 100 N 0 0 (en H 0) (en W 0) 1 0 (iL [0]) (iL []) [0] [cst L 0 0] (by omega) (by omega) (by omega) (by omega) rfl rfl v0.1 v0.2 w0.1 w0.2
        (fun k hk => by
          have : k = 0 := by simp at hk; omega
          subst this; simp [en]) (fun k hk => by
          have : k = 0 := by simp at hk; omega
          subst this; simp [en]; unfold cst; simp [en] at cv ⊢; omega) bc
      obtain ⟨q1, q2⟩ := prv_len h
      rw [if_pos (show true = true from rfl), if_pos (show true = true from rfl), brn_t (b := (true, (0 : Int)).1) rfl, m61, getA2_t]
      unfold rwP
      have lH := iL_len H
      have lW := iL_len W
      rw [getL_t, grd_t (by omega), grd_t (by omega), gI_0 (by omega), getL_t, grd_t (by omega), grd_t (by omega), gI_0 (by omega), k1]
      rw [show m61_L0 N (.lst false L.length (rwsP L)) L.length (iL H) W.length (iL W) N 0 0 (en H 0) (en W 0) 1 0 [.int .i64 0] [] = _ from lp, bnd_t, bnd_t]
      show getT0 (.tup []) _ = _
      rw [getT0_t, grd_t (iL_len _), grd_t (iL_len _)]
  · rw [brn_nt h, if_pos h, if_pos h]; rfl
theorem prover_ok (N : Nat) (hN : 2000 ≤ N) (L : List (List Int)) (hL : lgL L = false) (H W : List Int) (hH : H.length ≤ 20) (hW : W.length ≤ 20) :
    m39 N (.lst false L.length (rwsP L)) (.agg [rwP H, rwP W]) = some (prvE L H W) := by
  have ld := (loaded_ok N hN L hL H W hH hW).2
  rw [m39, getL_t, getA2_t, ld, bnd_t, getI_t]
  unfold prvE prvL prvN
  by_cases h : ldE L H W = 0
  · obtain ⟨ok, k1, k2, k3, k4⟩ := ldE_zero h
    obtain ⟨ck, e0⟩ := ldE_chk h
    have l := Lds.mk' h
    have r1 := ok.r1
    have r3 := ok.r3
    have c1 := ok.c1
    have c4 := ok.c4
    have cr := crooked_ok N hN L L.length _ ok.tbl
    rw [brn_et h, if_neg (show ¬ ldE L H W ≠ 0 by simpa using h), if_neg (show ¬ ldE L H W ≠ 0 by simpa using h), cr, bnd_t]
    unfold rwN
    rw [getL_t]
    cases hc : crk (cst L) L.length W.length with
    | some x => rfl
    | none =>
      have v0 := l.h5 0 (by omega)
      have w0 := l.w5 0 (by omega)
      have cv := ok.val 0 0 (by omega) (by omega)
      have lr := ok.row 0 (by omega)
      have lri := iL_len (ro L 0)
      have lL := rws_len L
      obtain ⟨q1, q2⟩ := prv_len h
      have lH := iL_len H
      have lW := iL_len W
      obtain ⟨S, hS, e⟩ := loop63 N L.length W.length r3 c4 H W l 100 N 0 0 0 [] H W (by omega) (by omega) (by omega) (by omega) k1 rfl (fun k _ => rfl) (fun k _ => rfl) v0.1 v0.2 w0.1 w0.2 rfl (by omega)
      have sl := stp_len L.length W.length H W 100 0 0 (en H 0) (en W 0)
      rw [← hS] at sl
      have lf := fl_len S
      have lp := loop39 N L W.length ok H W l S sl 100 N 0 0 0 (en H 0) (en W 0) [0] [cst L 0 0] (by omega) (by omega) (by omega) (by omega) rfl rfl
        (fun k hk => by
          have : k = 0 := by simp at hk; omega
          subst this; simp [en]) (fun k hk => by
          have : k = 0 := by simp at hk; omega
          subst this; simp [en]; unfold cst; simp [en] at cv ⊢; omega) hS
      rw [List.nil_append, Nat.zero_add] at e
      unfold crL
      rw [brn_df (by simp), brn_nf h]
      unfold rwP
      rw [getL_t, grd_t ⟨by omega, by omega, by omega⟩, getL_t, grd_t ⟨by omega, by omega, by omega⟩, m63, getA2_t, getL_t, grd_t (by omega), brn_dt (by omega), grd_t (by omega), getL_t, grd_t (by omega), brn_dt (by omega), grd_t (by omega), k1]
      rw [show m63_L0 N L.length W.length N 0 0 0 [] (iL H) (iL W) = _ from e, bnd_t]
      show bnd' (grd _ _) _ = _
      rw [grd_t lf, bnd_t, getL_t, grd_t (by omega), grd_t (by omega), gL_0 (by omega), grd_t (by omega), grd_t (by omega), gI_0 (by omega), grd_t (by omega), grd_t (by omega)]
      have z1 : List.replicate L.length (PV.int .i64 0) = iL (padZ L.length [0]) := by
        rw [iL_zeros]
        congr 1
        unfold padZ
        rw [show L.length = (L.length - 1) + 1 by omega, List.replicate_succ]; simp
      have z2 : List.set (List.replicate W.length (PV.int .i64 0)) 0 (PV.int .i64 (en (ro L 0) 0)) = iL (padZ W.length [cst L 0 0]) := by
        rw [iL_zeros, iL_set]
        congr 1
        unfold padZ
        rw [show W.length = (W.length - 1) + 1 by omega, List.replicate_succ, List.set_cons_zero]; simp [cst]
      rw [z1, z2, show m39_L0 N L.length (rwsP L) L.length W.length S.length (fl S) N 1 (iL (padZ L.length [0])) (iL (padZ W.length [cst L 0 0])) = _ from lp, bnd_t]
      have p1 : padZ L.length (prF L L.length W.length H W 100 0 0 (en H 0) (en W 0) [0] [cst L 0 0]).1 = (prF L L.length W.length H W 100 0 0 (en H 0) (en W 0) [0] [cst L 0 0]).1 := by
        unfold padZ; rw [q1]; simp
      have p2 : padZ W.length (prF L L.length W.length H W 100 0 0 (en H 0) (en W 0) [0] [cst L 0 0]).2 = (prF L L.length W.length H W 100 0 0 (en H 0) (en W 0) [0] [cst L 0 0]).2 := by
        unfold padZ; rw [q2]; simp
      show grd _ (grd _ _) = _
      rw [p1, p2, grd_t (by rw [iL_len, q1]), grd_t (by rw [iL_len, q2])]
      simp only [Option.isNone_none, if_true, q1, q2]
  · have q : (crk (cst L) L.length W.length).isNone = (crk (cst L) L.length W.length).isNone := rfl
    rw [brn_ef h, brn_nt h, if_pos h, if_pos h]; rfl
theorem any_step {p : Nat → Bool} {i n : Nat} (h : i < n) : (List.range' i (n - i)).any p = (p i || (List.range' (i + 1) (n - (i + 1))).any p) := by
  rw [range'_step h, List.any_cons]
theorem any_end {p : Nat → Bool} {i n : Nat} (h : ¬ i < n) : (List.range' i (n - i)).any p = false := by
  rw [show n - i = 0 by omega]; rfl
def selO : Bool → PV ⊕ Unit
  | true => .inl (.int .i64 15)
  | false => .inr ()
def ovR (L : List (List Int)) (P Q : List Int) (c i j : Nat) : Bool := (List.range' j (c - j)).any fun j => decide (cst L i j < en P i + en Q j)
def ovA (L : List (List Int)) (P Q : List Int) (r c i : Nat) : Bool := (List.range' i (r - i)).any fun i => ovR L P Q c i 0
theorem ov_L1 (N : Nat) (L : List (List Int)) (c : Nat) (hL : Okc L c) (P Q : List Int) (hP : P.length = L.length) (hQ : Q.length = c) (bP : P.any (bad (-1000) 1000) = false) (bQ : Q.any (bad (-1000) 1000) = false) (i : Nat) (hi : i < L.length) : ∀ (s j fuel : Nat), c - j = s → s < fuel →
    m40_L1 N L.length (rwsP L) L.length (iL P) c (iL Q) i c (iL (ro L i)) fuel (j : Int) = some (selO (ovR L P Q c i j)) ∧ m84_L1 N L.length (rwsP L) L.length (iL P) c (iL Q) i fuel (j : Int) = some (selO (ovR L P Q c i j))
  | s, j, 0, _, h => by omega
  | s, j, f + 1, hs, hf => by
    have lr := hL.row i hi
    have r3 := hL.r3
    have c4 := hL.c4
    rw [m40_L1, m84_L1]
    unfold ovR
    have lL := rws_len L
    rw [grd_t (p := 0 ≤ (i : Int) ∧ (i : Int) < ((L.length : Nat) : Int)) ⟨by omega, by omega⟩, grd_t (p := 0 < List.length (List.drop (Int.toNat (i : Int)) (rwsP L))) (by rw [List.length_drop, toNatN]; omega), gL_n hi, lr]
    by_cases h : j < c
    · obtain ⟨i1, i2⟩ := ov_L1 N L c hL P Q hP hQ bP bQ i hi (s - 1) (j + 1) f (by omega) (by omega)
      have b1 := any_bad bP (i := i) (by omega)
      have b2 := any_bad bQ (i := j) (by omega)
      rw [brn_dt (by omega), brn_dt (by omega)]
      simp (disch := (try simp only [List.length_drop, iL_len, rws_len, toNatN]) <;> omega) only [↓grd_t, ↓gI_n, ↓gL_n]
      rw [wrap64 (n := en P i + en Q j) (by omega) (by omega), wrapN (n := j) (by omega), any_step h]
      by_cases g : en (ro L i) j < en P i + en Q j
      · rw [brn_dt g, brn_dt g, decide_eq_true (show cst L i j < en P i + en Q j from g)]; exact ⟨rfl, rfl⟩
      · rw [brn_df g, brn_df g, decide_eq_false (show ¬ cst L i j < en P i + en Q j from g), Bool.false_or]; exact ⟨i1, i2⟩
    · rw [brn_df (by omega), brn_df (by omega), any_end h]; exact ⟨rfl, rfl⟩
theorem ov_L0 (N : Nat) (hN : 2000 ≤ N) (L : List (List Int)) (c : Nat) (hL : Okc L c) (P Q : List Int) (hP : P.length = L.length) (hQ : Q.length = c) (bP : P.any (bad (-1000) 1000) = false) (bQ : Q.any (bad (-1000) 1000) = false) : ∀ (s i fuel : Nat), L.length - i = s → s < fuel →
    m40_L0 N L.length (rwsP L) L.length (iL P) c (iL Q) fuel (i : Int) = some (selO (ovA L P Q L.length c i)) ∧ m84_L0 N L.length (rwsP L) L.length (iL P) c (iL Q) fuel (i : Int) = some (selO (ovA L P Q L.length c i))
  | s, i, 0, _, h => by omega
  | s, i, f + 1, hs, hf => by
    have r3 := hL.r3
    have c4 := hL.c4
    rw [m40_L0, m84_L0]
    unfold ovA
    by_cases h : i < L.length
    · obtain ⟨i1, i2⟩ := ov_L0 N hN L c hL P Q hP hQ bP bQ (s - 1) (i + 1) f (by omega) (by omega)
      have lr := hL.row i h
      obtain ⟨e1, e2⟩ := ov_L1 N L c hL P Q hP hQ bP bQ i h c 0 N (by omega) (by omega)
      rw [brn_dt (by omega), brn_dt (by omega)]
      simp (disch := (try simp only [List.length_drop, iL_len, rws_len, toNatN]) <;> omega) only [↓grd_t, ↓gI_n, ↓gL_n]
      rw [lr, show m40_L1 N L.length (rwsP L) L.length (iL P) c (iL Q) i c (iL (ro L i)) N 0 = _ from e1, show m84_L1 N L.length (rwsP L) L.length (iL P) c (iL Q) i N 0 = _ from e2, bnd_t, bnd_t, wrapN (n := i) (by omega), any_step h]
      cases ovR L P Q c i 0 with
      | true => exact ⟨rfl, rfl⟩
      | false => rw [Bool.false_or]; exact ⟨i1, i2⟩
    · rw [brn_df (by omega), brn_df (by omega), any_end h]; exact ⟨rfl, rfl⟩
def prcI (L : List (List Int)) (P Q : List Int) : Int :=
  if P.length ≠ L.length then 5 else if Q.length ≠ (ro L 0).length then 5 else if P.any (bad (-1000) 1000) then 1 else if Q.any (bad (-1000) 1000) then 1 else if ovA L P Q L.length (ro L 0).length 0 then 15 else 0
def prcE (L : List (List Int)) (P Q : List Int) : Int := if chk L ≠ 0 then chk L else prcI L P Q
theorem sel_end {b : Bool} : (match selO b with | .inl p => some p | .inr () => some (PV.int .i64 0)) = some (.int .i64 (if b then 15 else 0)) := by
  cases b <;> rfl
theorem prcr_ok (N : Nat) (hN : 2000 ≤ N) (L : List (List Int)) (hc : chk L = 0) (P Q : List Int) (hP : P.length ≤ 20) (hQ : Q.length ≤ 20) :
    m84 N (.lst false L.length (rwsP L)) (.agg [rwP P, rwP Q]) = some (.int .i64 (prcI L P Q)) := by
  have ok := chk_zero hc
  have r1 := ok.r1
  have lL := rws_len L
  have v1 := within_ok N hN (-1000) 1000 P (by omega)
  have v2 := within_ok N hN (-1000) 1000 Q (by omega)
  rw [m84, getL_t, getA2_t]
  unfold rwP prcI
  rw [getL_t]
  by_cases h1 : P.length = L.length
  · rw [brn_nf (by omega), if_neg (by simpa using h1), getL_t, grd_t (by omega), grd_t (by omega), gL_0 (by omega)]
    by_cases h2 : Q.length = (ro L 0).length
    · rw [brn_nf (by omega), if_neg (by simpa using h2), v1, bnd_t, getB_t]
      cases h3 : P.any (bad (-1000) 1000) with
      | true => rfl
      | false =>
        rw [brn_t (b := !false) rfl, v2, bnd_t, getB_t]
        cases h4 : Q.any (bad (-1000) 1000) with
        | true => rfl
        | false =>
          have e := (ov_L0 N hN L _ ok P Q h1 h2 h3 h4 L.length 0 N (by omega) (by have := ok.r3; omega)).2
          rw [brn_t (b := !false) rfl, h1, h2, show m84_L0 N L.length (rwsP L) L.length (iL P) (ro L 0).length (iL Q) N 0 = _ from e, bnd_t, if_neg (by simp), if_neg (by simp)]
          exact sel_end
    · rw [brn_nt (by omega), if_pos h2]
  · rw [brn_nt (by omega), if_pos h1]
theorem prc_ok (N : Nat) (hN : 2000 ≤ N) (L : List (List Int)) (hL : lgL L = false) (P Q : List Int) (hP : P.length ≤ 20) (hQ : Q.length ≤ 20) :
    m40 N (.lst false L.length (rwsP L)) (.agg [rwP P, rwP Q]) = some (.int .i64 (prcE L P Q)) ∧ m41 N (.lst false L.length (rwsP L)) (.agg [rwP P, rwP Q]) = some (.int .i64 (prcE L P Q)) := by
  obtain ⟨c1, c2⟩ := check_ok N hN L hL
  constructor
  · have v1 := wrong_ok N hN (-1000) 1000 P (by omega)
    have v2 := wrong_ok N hN (-1000) 1000 Q (by omega)
    rw [m40, getL_t, getA2_t, c1, bnd_t, getI_t]
    unfold prcE prcI
    by_cases hc : chk L = 0
    · have ok := chk_zero hc
      have r1 := ok.r1
      have lL := rws_len L
      rw [brn_nf hc, if_neg (by simpa using hc)]
      unfold rwP
      rw [getL_t]
      by_cases h1 : P.length = L.length
      · rw [brn_nf (by omega), if_neg (by simpa using h1), getL_t, grd_t (by omega), grd_t (by omega), gL_0 (by omega)]
        by_cases h2 : Q.length = (ro L 0).length
        · rw [brn_nf (by omega), if_neg (by simpa using h2), v1, bnd_t, getB_t]
          cases h3 : P.any (bad (-1000) 1000) with
          | true => rfl
          | false =>
            rw [brn_f rfl, v2, bnd_t, getB_t]
            cases h4 : Q.any (bad (-1000) 1000) with
            | true => rfl
            | false =>
              have e := (ov_L0 N hN L _ ok P Q h1 h2 h3 h4 L.length 0 N (by omega) (by have := ok.r3; omega)).1
              rw [brn_f rfl, h1, h2, show m40_L0 N L.length (rwsP L) L.length (iL P) (ro L 0).length (iL Q) N 0 = _ from e, bnd_t, if_neg (by simp), if_neg (by simp)]
              exact sel_end
        · rw [brn_nt (by omega), if_pos h2]
      · rw [brn_nt (by omega), if_pos h1]
    · rw [brn_nt hc, if_pos hc]
  · rw [m41, getL_t, getA2_t, c2, bnd_t, getI_t]
    unfold prcE
    by_cases hc : chk L = 0
    · rw [brn_nf hc, if_neg (by simpa using hc), prcr_ok N hN L hc P Q hP hQ, bnd_t, getI_t]
    · rw [brn_nt hc, if_pos hc]
def dotF (X P : List Int) (i : Nat) : Int := ((List.range' i (X.length - i)).map fun k => en X k * en P k).sum
theorem dot_step {X P : List Int} {i : Nat} (h : i < X.length) : dotF X P i = en X i * en P i + dotF X P (i + 1) := by
  unfold dotF; rw [range'_step h, List.map_cons, List.sum_cons]
theorem dot_end {X P : List Int} {i : Nat} (h : ¬ i < X.length) : dotF X P i = 0 := by
  unfold dotF; rw [show X.length - i = 0 by omega]; rfl
theorem mul_b2 {a b : Int} (h1 : 0 ≤ a) (h2 : a ≤ 5) (h3 : -1000 ≤ b) (h4 : b ≤ 1000) : -5000 ≤ a * b ∧ a * b ≤ 5000 := by
  have : a = 0 ∨ a = 1 ∨ a = 2 ∨ a = 3 ∨ a = 4 ∨ a = 5 := by omega
  rcases this with rfl | rfl | rfl | rfl | rfl | rfl <;> omega
theorem sub_L (N : Nat) (p q : PV) (X P : List Int) (hX : X.length ≤ 20) (hP : P.length = X.length) (bX : X.any (bad 0 5) = false) (bP : P.any (bad (-1000) 1000) = false) : ∀ (s i fuel : Nat) (a : Int), X.length - i = s → s < fuel → -(10000 + 5000 * (i : Int)) - 200000 ≤ a → a ≤ 10000 + 5000 * i + 200000 →
    m42_L0 N p q X.length (iL X) fuel a (i : Int) (rwP P) = some (a - dotF X P i, rwP P) ∧ m42_L1 N p X.length (iL X) fuel a (i : Int) (rwP P) = some (a - dotF X P i)
  | s, i, 0, _, _, h, _, _ => by omega
  | s, i, f + 1, a, hs, hf, ha, hb => by
    rw [m42_L0, m42_L1]
    by_cases h : i < X.length
    · have b1 := any_bad bX h
      have b2 := any_bad bP (i := i) (by omega)
      have bm := mul_b2 b1.1 b1.2 b2.1 b2.2
      obtain ⟨i1, i2⟩ := sub_L N p q X P hX hP bX bP (s - 1) (i + 1) f (a - en X i * en P i) (by omega) (by omega) (by omega) (by omega)
      unfold rwP at i1 i2 ⊢
      rw [brn_dt (by omega), brn_dt (by omega)]
      simp (disch := (try simp only [List.length_drop, iL_len, rws_len, toNatN]) <;> omega) only [↓grd_t, ↓gI_n, ↓gL_n, ↓getL_t]
      rw [wrap64 (n := en X i * en P i) (by omega) (by omega), wrap64 (n := a - en X i * en P i) (by omega) (by omega), wrapN (n := i) (by omega), i1, i2, dot_step h, Int.sub_sub]
      exact ⟨rfl, rfl⟩
    · rw [brn_df (by omega), brn_df (by omega), dot_end h, Int.sub_zero]; exact ⟨rfl, rfl⟩
theorem add_L0 (N : Nat) (p q : PV) (x : Int) (X P : List Int) (hX : X.length ≤ 20) (hP : P.length = X.length) (bX : X.any (bad 0 5) = false) (bP : P.any (bad (-1000) 1000) = false) : ∀ (s i fuel : Nat) (a : Int), X.length - i = s → s < fuel → -(10000 + 5000 * (i : Int)) - 200000 ≤ a → a ≤ 10000 + 5000 * i + 200000 →
    m43_L0 N p q x fuel a (i : Int) (rwP X) (rwP P) = some (a + dotF X P i, rwP X, rwP P) ∧ m43_L1 N x p q fuel a (i : Int) (rwP X) (rwP P) = some (a + dotF X P i)
  | s, i, 0, _, _, h, _, _ => by omega
  | s, i, f + 1, a, hs, hf, ha, hb => by
    unfold rwP
    rw [m43_L0, m43_L1, getL_t, getL_t]
    by_cases h : i < X.length
    · have b1 := any_bad bX h
      have b2 := any_bad bP (i := i) (by omega)
      have bm := mul_b2 b1.1 b1.2 b2.1 b2.2
      obtain ⟨i1, i2⟩ := add_L0 N p q x X P hX hP bX bP (s - 1) (i + 1) f (a + en X i * en P i) (by omega) (by omega) (by omega) (by omega)
      unfold rwP at i1 i2
      rw [brn_dt (by omega), brn_dt (by omega)]
      simp (disch := (try simp only [List.length_drop, iL_len, rws_len, toNatN]) <;> omega) only [↓grd_t, ↓gI_n, ↓gL_n, ↓getL_t]
      rw [wrap64 (n := en X i * en P i) (by omega) (by omega), wrap64 (n := a + en X i * en P i) (by omega) (by omega), wrapN (n := i) (by omega), i1, i2, dot_step h, Int.add_assoc]
      exact ⟨rfl, rfl⟩
    · rw [brn_df (by omega), brn_df (by omega), dot_end h, Int.add_zero]; exact ⟨rfl, rfl⟩
theorem dot_b {X P : List Int} (hX : X.length ≤ 20) (hP : P.length = X.length) (bX : X.any (bad 0 5) = false) (bP : P.any (bad (-1000) 1000) = false) : ∀ (s i : Nat), X.length - i = s → -(5000 * (s : Int)) ≤ dotF X P i ∧ dotF X P i ≤ 5000 * s
  | 0, i, h => by rw [dot_end (by omega)]; omega
  | s + 1, i, h => by
    have h' : i < X.length := by omega
    have b1 := any_bad bX h'
    have b2 := any_bad bP (i := i) (by omega)
    have bm := mul_b2 b1.1 b1.2 b2.1 b2.2
    have ih := dot_b hX hP bX bP s (i + 1) (by omega)
    rw [dot_step h']; omega
theorem cF_b {L : List (List Int)} {c : Nat} (hL : Okc L c) : ∀ (D : List (List Int)) (i : Nat), i + D.length ≤ L.length → (∀ r ∈ D, r.length = c ∧ r.any (bad 0 5) = false) → 0 ≤ cF L c i D ∧ cF L c i D ≤ 400 * D.length
  | [], i, _, _ => by simp [cF]
  | r :: D, i, h, hr => by
    have c4 := hL.c4
    simp only [List.length_cons] at h
    obtain ⟨r1, r2⟩ := hr r (.head _)
    have b := rcF_b hL (i := i) (by omega) r1 r2 c 0 (by omega)
    have ih := cF_b hL D (i + 1) (by omega) fun x hx => hr x (.tail _ hx)
    rw [cF, List.length_cons]; omega
def prsE (L : List (List Int)) (H W : List Int) (D : List (List Int)) (P Q : List Int) : Int :=
  if (cstE L H W D).2 ≠ 0 then (cstE L H W D).2 else if prcI L P Q ≠ 0 then prcI L P Q else if (cstE L H W D).1 - dotF H P 0 - dotF W Q 0 ≠ 0 then 14 else 0
theorem cstE_zero {L : List (List Int)} {H W : List Int} {D : List (List Int)} (h : (cstE L H W D).2 = 0) : ldE L H W = 0 ∧ 0 ≤ (cstE L H W D).1 ∧ (cstE L H W D).1 ≤ 1200 := by
  unfold cstE at h ⊢
  by_cases h1 : ldE L H W = 0
  · rw [if_neg (by simpa using h1)] at h ⊢
    refine ⟨h1, ?_⟩
    have ok := (ldE_zero h1).1
    have r3 := ok.r3
    by_cases h2 : D.length = L.length
    · rw [if_neg (by simpa using h2)]
      cases h3 : D.any fun r => r.length != W.length with
      | true => simp
      | false =>
        rw [if_neg (by simp)]
        cases h4 : D.any fun r => r.any (bad 0 5) with
        | true => simp
        | false =>
          rw [if_neg (by simp)]
          have b := cF_b ok D 0 (by omega) fun r hr => by
            have a1 := List.any_eq_false.1 h3 r hr
            have a2 := List.any_eq_false.1 h4 r hr
            exact ⟨by simpa using a1, by simpa using a2⟩
          split
          · split
            · simp only []; omega
            · simp
          · simp
    · rw [if_pos h2]; simp
  · rw [if_pos h1] at h; exact absurd h h1
theorem prcI_zero {L : List (List Int)} {P Q : List Int} (h : prcI L P Q = 0) : P.length = L.length ∧ Q.length = (ro L 0).length ∧ P.any (bad (-1000) 1000) = false ∧ Q.any (bad (-1000) 1000) = false := by
  unfold prcI at h
  split at h
  · cases h
  · rename_i h1
    split at h
    · cases h
    · rename_i h2
      split at h
      · cases h
      · rename_i h3
        split at h
        · cases h
        · rename_i h4
          exact ⟨by omega, by omega, by simpa using h3, by simpa using h4⟩
theorem proves_ok (N : Nat) (hN : 2000 ≤ N) (L : List (List Int)) (hL : lgL L = false) (H W : List Int) (hH : H.length ≤ 20) (hW : W.length ≤ 20) (D : List (List Int)) (hD : lgL D = false) (P Q : List Int) (hP : P.length ≤ 20) (hQ : Q.length ≤ 20) :
    m42 N (.lst false L.length (rwsP L)) (.agg [rwP H, rwP W]) (.lst false D.length (rwsP D)) (.agg [rwP P, rwP Q]) = some (.int .i64 (prsE L H W D P Q)) ∧ m43 N (.lst false L.length (rwsP L)) (.agg [rwP H, rwP W]) (.lst false D.length (rwsP D)) (.agg [rwP P, rwP Q]) = some (.int .i64 (prsE L H W D P Q)) := by
  have co := cost_ok N hN L hL H W hH hW D hD
  have cr := costr_ok N hN L hL H W hH hW D hD
  have p1 := (prc_ok N hN L hL P Q hP hQ).1
  rw [m42, m43, getL_t, getL_t, getA2_t, getA2_t, getL_t, getL_t, getA2_t, getA2_t, co, cr, bnd_t, bnd_t, getT2_t, getT2_t, getI_t, getI_t, getI_t, getI_t]
  unfold prsE
  by_cases h : (cstE L H W D).2 = 0
  · obtain ⟨z, z1, z2⟩ := cstE_zero h
    obtain ⟨ck, e0⟩ := ldE_chk z
    obtain ⟨ok, k1, k2, k3, k4⟩ := ldE_zero z
    have p2 := prcr_ok N hN L ck P Q hP hQ
    unfold prcE at p1
    rw [if_neg (by simpa using ck)] at p1
    rw [brn_nf h, brn_et h, if_neg (by simpa using h), p1, p2, bnd_t, bnd_t, getI_t, getI_t]
    by_cases g : prcI L P Q = 0
    · obtain ⟨g1, g2, g3, g4⟩ := prcI_zero g
      have r3 := ok.r3
      have c4 := ok.c4
      have d1 := dot_b (X := H) (P := P) hH (by omega) k2 g3 H.length 0 (by omega)
      have d2 := dot_b (X := W) (P := Q) hW (by omega) k3 g4 W.length 0 (by omega)
      rw [brn_nf g, brn_nf g, if_neg (by simpa using g)]
      have s1 := (sub_L N (rwP W) (rwP Q) H P hH (by omega) k2 g3 H.length 0 N (cstE L H W D).1 (by omega) (by omega) (by omega) (by omega)).1
      have s2 := (sub_L N (rwP P) (rwP Q) W Q hW (by omega) k3 g4 W.length 0 N ((cstE L H W D).1 - dotF H P 0) (by omega) (by omega) (by omega) (by omega)).2
      have t1 := (add_L0 N (rwP W) (rwP Q) (cstE L H W D).1 H P hH (by omega) k2 g3 H.length 0 N 0 (by omega) (by omega) (by omega) (by omega)).1
      have t2 := (add_L0 N (rwP H) (rwP P) (cstE L H W D).1 W Q hW (by omega) k3 g4 W.length 0 N (0 + dotF H P 0) (by omega) (by omega) (by omega) (by omega)).2
      constructor
      · show getL (PV.lst false H.length (iL H)) _ = _
        rw [getL_t, show m42_L0 N (rwP W) (rwP Q) H.length (iL H) N (cstE L H W D).1 0 (rwP P) = _ from s1, bnd_t]
        show getL (PV.lst false W.length (iL W)) _ = _
        rw [getL_t, show m42_L1 N (rwP P) W.length (iL W) N ((cstE L H W D).1 - dotF H P 0) 0 (rwP Q) = _ from s2, bnd_t]
        by_cases e : (cstE L H W D).1 - dotF H P 0 - dotF W Q 0 = 0
        · rw [brn_nf e, if_neg (by simpa using e)]
        · rw [brn_nt e, if_pos e]
      · rw [show m43_L0 N (rwP W) (rwP Q) (cstE L H W D).1 N 0 0 (rwP H) (rwP P) = _ from t1, bnd_t]
        show bnd' (m43_L1 N _ (rwP H) (rwP P) N _ 0 (rwP W) (rwP Q)) _ = _
        rw [show m43_L1 N (cstE L H W D).1 (rwP H) (rwP P) N (0 + dotF H P 0) 0 (rwP W) (rwP Q) = _ from t2, bnd_t]
        by_cases e : (cstE L H W D).1 - dotF H P 0 - dotF W Q 0 = 0
        · rw [brn_nf (by omega), if_neg (by simpa using e)]
        · rw [brn_nt (by omega), if_pos e]
    · rw [brn_nt g, brn_nt g, if_pos g]; exact ⟨rfl, rfl⟩
  · rw [brn_nt h, brn_ef h, brn_nt h, if_pos h]; exact ⟨rfl, rfl⟩
theorem isame_L (N : Nat) (X : List Int) (hX : X.length ≤ 1000) : ∀ (s i fuel : Nat), X.length - i = s → s < fuel →
    m37_L0 N X.length (iL X) X.length (iL X) fuel (i : Int) = some (.inr ())
  | s, i, 0, _, h => by omega
  | s, i, f + 1, hs, hf => by
    rw [m37_L0]
    by_cases hi : i < X.length
    · have ih := isame_L N X hX (s - 1) (i + 1) f (by omega) (by omega)
      rw [brn_dt (by omega)]
      simp (disch := (try simp only [List.length_drop, iL_len, rws_len, toNatN]) <;> omega) only [↓grd_t, ↓gI_n]
      rw [brn_nf rfl, wrapN (by omega), ih]
    · rw [brn_df (by omega)]
theorem isame_ok (N : Nat) (hN : 2000 ≤ N) (X : List Int) (hX : X.length ≤ 1000) : m37 N (.lst false X.length (iL X)) (.lst false X.length (iL X)) = some (.bool true) := by
  have := isame_L N X hX X.length 0 N (by omega) (by omega)
  rw [m37, getL_t, getL_t, brn_nf rfl, show m37_L0 N X.length (iL X) X.length (iL X) N 0 = _ from this]
  rfl
def hvL (H W : List Int) : Bool := decide (20 < H.length) || decide (20 < W.length)
theorem heavy_ok (N : Nat) (H W : List Int) : m16 N (.agg [rwP H, rwP W]) = some (.bool (hvL H W)) := by
  rw [m16, getA2_t]
  unfold rwP hvL
  rw [getL_t]
  by_cases h : 20 < H.length
  · rw [brn_dt (by omega), decide_eq_true h]; rfl
  · rw [brn_df (by omega), decide_eq_false h, getL_t, Bool.false_or]
    congr 2
    exact decide_eq_decide.2 (by omega)
theorem prv_le (L : List (List Int)) (H W : List Int) (hH : H.length ≤ 20) (hW : W.length ≤ 20) : (prvL L H W).1.length ≤ 1000 ∧ (prvL L H W).2.length ≤ 1000 := by
  unfold prvL
  by_cases h : ldE L H W = 0
  · rw [if_neg (by simpa using h)]
    obtain ⟨q1, q2⟩ := prv_len h
    have r3 := (ldE_zero h).1.r3
    split
    · omega
    · simp
  · rw [if_pos h]; simp
theorem law6 (L : List (List Int)) (H W : List Int) (D : List (List Int)) (P Q : List Int) : m6 2000 (.lst false L.length (rwsP L)) (.agg [rwP H, rwP W]) (.lst false D.length (rwsP D)) (.agg [rwP P, rwP Q]) = some (.bool true) := by
  have w : ∀ {b : Bool}, (bnd' (m17 2000) fun p => getB p fun b => some (PV.bool b)) = some (.bool true) := rfl
  rw [m6, getL_t, getA2_t, getL_t, getA2_t, large_ok 2000 (by omega) L, bnd_t, getB_t]
  cases hl : lgL L with
  | true => rfl
  | false =>
    rw [brn_f rfl, heavy_ok, bnd_t, getB_t]
    cases hh : hvL H W with
    | true => rfl
    | false =>
      rw [brn_f rfl, large_ok 2000 (by omega) D, bnd_t, getB_t]
      cases hd : lgL D with
      | true => rfl
      | false =>
        rw [brn_f rfl]
        unfold hvL at hh
        simp only [Bool.or_eq_false_iff, decide_eq_false_iff_not] at hh
        have e1 := prove_ok 2000 (by omega) L hl H W (by omega) (by omega)
        have e2 := prover_ok 2000 (by omega) L hl H W (by omega) (by omega)
        obtain ⟨x1, x2⟩ := prv_le L H W (by omega) (by omega)
        show getL (.lst false P.length (iL P)) _ = _
        rw [getL_t]
        by_cases h1 : 20 < P.length
        · rw [brn_dt (by omega)]; rfl
        · rw [brn_df (by omega)]
          show getL (.lst false Q.length (iL Q)) _ = _
          rw [getL_t]
          by_cases h2 : 20 < Q.length
          · rw [brn_dt (by omega)]; rfl
          · obtain ⟨e3, e4⟩ := prc_ok 2000 (by omega) L hl P Q (by omega) (by omega)
            obtain ⟨e5, e6⟩ := proves_ok 2000 (by omega) L hl H W (by omega) (by omega) D hd P Q (by omega) (by omega)
            have i1 := isame_ok 2000 (by omega) _ x1
            have i2 := isame_ok 2000 (by omega) _ x2
            unfold rwP at e3 e4 e5 e6
            rw [brn_df (by omega)]
            unfold prvE at e1 e2
            rw [e1, bnd_t, getT2_t, getA2_t, getI_t, e2, bnd_t, getT2_t, getA2_t, getI_t]
            unfold rwP
            rw [getL_t, getL_t, i1, bnd_t, getB_t, brn_t rfl, getL_t, getL_t, i2, bnd_t, getB_t, brn_t rfl, brn_et rfl, e3, bnd_t, getI_t, e4, bnd_t, getI_t, brn_et rfl, e5, bnd_t, getI_t, e6, bnd_t, getI_t, brn_et rfl]
            rfl
end Go.Proofs.Yteidcinajdehkaa
namespace Go.Proofs.Yteidcinajdehkaa
open Go.V
theorem row_of {x : List PV} (h : PT tab 23 x) : ∃ (y : PV) (r : List Int), x = [y] ∧ PLe y (rwP r) := by
  rcases h.slice' tl23 rfl with h | ⟨xs, h, hx⟩
  · exact ⟨.nl, [], h, .nl false⟩
  · obtain ⟨L, h1, h2, _⟩ := opened (fun p : Int => [PV.int .i64 p]) (fun x => PT tab 3 x) (fun _ => True)
      (fun x hx => by obtain ⟨n, e, _⟩ := hx.int' tl3 rfl; exact ⟨n, e, trivial⟩) xs hx
    refine ⟨_, L, h, ?_⟩
    rw [h2, ← h1]
    have : L.flatMap (fun p : Int => [PV.int .i64 p]) = iL L := by
      clear h1 h2
      induction L with
      | nil => rfl
      | cons a L ih => simpa [iL] using ih
    rw [this]
    exact .refl _
theorem rows_of' : ∀ (xs : List (List PV)), (∀ x ∈ xs, PT tab 23 x) → ∃ L : List (List Int), L.length = xs.length ∧ PLes xs.flatten (rwsP L)
  | [], _ => ⟨[], rfl, .nil⟩
  | x :: xs, h => by
    obtain ⟨L, h1, h2⟩ := rows_of' xs fun y hy => h y (.tail _ hy)
    obtain ⟨y, r, rfl, hr⟩ := row_of (h x (.head _))
    exact ⟨r :: L, by simp [h1], .cons _ _ _ _ hr h2⟩
theorem rows_of {x : PV} (h : PT tab 22 [x]) : ∃ L : List (List Int), PLe x (.lst false L.length (rwsP L)) := by
  rcases h.slice' tl22 rfl with h | ⟨xs, h, hx⟩
  · cases h; exact ⟨[], .nl false⟩
  · cases h
    obtain ⟨L, h1, h2⟩ := rows_of' xs hx
    refine ⟨L, ?_⟩
    rw [h1]
    exact .lst false false _ _ _ (fun h => h) h2
theorem two_of {qs : List PV} (h : PTs tab [(0, 23), (1, 23)] qs) : ∃ H W : List Int, PLes qs [rwP H, rwP W] := by
  obtain ⟨x, rs, rfl, hx, h⟩ := h.cons'
  obtain ⟨y, rs, rfl, hy, h⟩ := h.cons'
  obtain rfl := h.nil'
  obtain ⟨a, H, rfl, hH⟩ := row_of hx
  obtain ⟨b, W, rfl, hW⟩ := row_of hy
  exact ⟨H, W, .cons _ _ _ _ hH (.cons _ _ _ _ hW .nil)⟩
theorem con6 (x0 : PV) (h0 : PT tab 22 [x0]) (x1 : List PV) (h1 : PT tab 25 x1) (x2 : PV) (h2 : PT tab 22 [x2]) (x3 : List PV) (h3 : PT tab 53 x3) : FnP Try.prog 6 [x0, .agg x1, x2, .agg x3] (.bool true) := by
  obtain ⟨L, hL⟩ := rows_of h0
  obtain ⟨H, W, hl⟩ := two_of (h1.structs tl25 rfl)
  obtain ⟨D, hD⟩ := rows_of h2
  obtain ⟨P, Q, hp⟩ := two_of (h3.structs tl53 rfl)
  exact FnP_le (c6 2000 _ _ _ _ _ (law6 L H W D P Q)) (.cons _ _ _ _ hL (.cons _ _ _ _ (.agg _ _ hl) (.cons _ _ _ _ hD (.cons _ _ _ _ (.agg _ _ hp) .nil)))) (.refl _)
end Go.Proofs.Yteidcinajdehkaa
namespace Go.Proofs.Yteidcinajdehkaa.dealPrices
open Go.ChangeShapes Go.WideShapes Go.ChangeAt Go.RowKit Go.V
theorem own : ownKnob Try.prog.godebug = none := by kernel_rfl
theorem laid : laidOutB Try.prog = true := by kernel_rfl
set_option maxRecDepth 100000 in
theorem lifted (os : Os) (started : os.Started) (H : Type) (enc : TypeId × Value → H) :
    ReturnsInHanded {} Try.checked os 6 .any (Rows.dealPricesSpec.pre6 enc Try.prog Try.f6 Rows.dealPricesRow.domain false) (Rows.dealPricesSpec.post enc Try.prog Try.f6 false true false false) := by
  refine returnsInHanded_of_change (C := Try.checked) own started (by kernel_rfl) Try.func6
    (ChangeSpec.witness6 (enc := enc) (C := Try.checked) false ⟨#[], #[.slice none 0 0, .agg #[.slice none 0 0, .slice none 0 0], .slice none 0 0, .agg #[.slice none 0 0, .slice none 0 0]], []⟩ 8 (by kernel_rfl) (by kernel_rfl) (by kernel_rfl) (by kernel_rfl)) ?_
  intro W base args ds gs before hval0 hW hcnd _
  have hW' := hW
  obtain ⟨p, q, hA0, hV, rfl, hfz, hnd⟩ := hW
  have hA : DataW.TrodAll enc Try.prog W 0 (fun _ => true) true Try.f6.params.toList args.toList ds p := hA0
  rw [Try.params6] at hA
  obtain ⟨v0, vs0, d0, ds0, p0, q0, e0, rfl, rfl, h0, hr0⟩ := trodAll_cons hA
  obtain ⟨v1, vs1, d1, ds1, p1, q1, e1, rfl, rfl, h1, hr1⟩ := trodAll_cons hr0
  obtain ⟨v2, vs2, d2, ds2, p2, q2, e2, rfl, rfl, h2, hr2⟩ := trodAll_cons hr1
  obtain ⟨v3, vs3, d3, ds3, p3, q3, e3, rfl, rfl, h3, hr3⟩ := trodAll_cons hr2
  obtain ⟨rfl, rfl, rfl⟩ := trodAll_nil hr3
  subst e3
  subst e2
  subst e1
  obtain rfl : args = #[v0, v1, v2, v3] := by cases args; simp_all
  obtain ⟨x0, k0, t0⟩ := arg_one (n := 8) tab_ok (hval0 0 22 v0 rfl rfl) h0 (by kernel_rfl) (by kernel_rfl)
  obtain ⟨x1, k1, t1⟩ := arg_agg (n := 8) tab_ok (hval0 1 25 v1 rfl rfl) h1 (by kernel_rfl) (by kernel_rfl)
  obtain ⟨x2, k2, t2⟩ := arg_one (n := 8) tab_ok (hval0 2 22 v2 rfl rfl) h2 (by kernel_rfl) (by kernel_rfl)
  obtain ⟨x3, k3, t3⟩ := arg_agg (n := 8) tab_ok (hval0 3 53 v3 rfl rfl) h3 (by kernel_rfl) (by kernel_rfl)
  obtain ⟨rfl, rfl⟩ := trodVars_none hV
  clear hA0 hval0
  simp only [List.append_nil] at hW'
  refine (FnP.calls (W := W) (vals := #[v0, v1, v2, v3]) (con6 x0 t0 x1 t1 x2 t2 x3 t3) (.cons _ _ _ _ k0 (.cons _ _ _ _ k1 (.cons _ _ _ _ k2 (.cons _ _ _ _ k3 .nil)))) (fun x hx => by simp [Gv] at hx)).mono fun e W' ⟨he, hg⟩ => ?_
  subst he
  exact ⟨_, rfl, post_of_kept (pv := []) hW' (fun _ _ _ => trodAll_cons_mk (shut_bool Try.underlying4 _) trodAll_mk0) (fun sp hsp => trodAll_cons_mk (Kept.trod hg laid (by kernel_rfl) (of_decide_eq_true (by kernel_rfl)) h0 (fun y hy => hsp y (by simp [hy]))) (trodAll_cons_mk (Kept.trod hg laid (by kernel_rfl) (of_decide_eq_true (by kernel_rfl)) h1 (fun y hy => hsp y (by simp [hy]))) (trodAll_cons_mk (Kept.trod hg laid (by kernel_rfl) (of_decide_eq_true (by kernel_rfl)) h2 (fun y hy => hsp y (by simp [hy]))) (trodAll_cons_mk (Kept.trod hg laid (by kernel_rfl) (of_decide_eq_true (by kernel_rfl)) h3 (fun y hy => hsp y (by simp [hy]))) (trodAll_mk0))))) (fun _ _ => rfl) (by simp)
    hg (ok_one (by kernel_rfl) rfl (okWide_bool_mk Try.underlying4 _))⟩
theorem over : Rows.dealPricesRow.holds Try.pinned (OpenSpec.ofChange Rows.dealPricesSpec) :=
  OpenClaim.holds_of_wide 6 Try.f6 rfl rfl rfl rfl rfl rfl rfl ⟨rfl, rfl, rfl, rfl, rfl⟩ rfl rfl rfl rfl rfl (by kernel_rfl) Try.func6 (by kernel_rfl)
    (of_decide_eq_true (by kernel_rfl)) (by unfold Func.isWrapper; first | (rw [if_pos (by decide +kernel)]; kernel_rfl) | (rw [if_neg (by decide +kernel)]; exact ⟨rfl, rfl⟩))
    (fun os started H enc _ => lifted os started H enc)
end Go.Proofs.Yteidcinajdehkaa.dealPrices
namespace Go.Proofs.Yteidcinajdehkaa
/-- the statement -/
theorem dealPrices_holds : Rows.DealPricesSaid := dealPrices.over
#print axioms dealPrices_holds
end Go.Proofs.Yteidcinajdehkaa
