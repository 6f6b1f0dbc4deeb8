/-
  The law tries all ways to complete a corner, in the order of the reference.
-/
import Derived.Test.YtcaecfofgdogbaaDoorR2WrB
import Derived.Test.YtcaecfofgdogbaaDoorR2WyA
import Derived.Test.YtcaecfofgdogbaaDoorR2WyR
set_option linter.unusedSimpArgs false
set_option linter.unusedVariables false
namespace Go.Proofs.YtcaecfofgdogbaaDoor
open Go.V
set_option linter.unusedSectionVars false
theorem brn_t {α : Type} {b : Bool} {x y : Option α} (h : b = true) : brn b x y = x := by subst h; rfl
theorem brn_f {α : Type} {b : Bool} {x y : Option α} (h : b = false) : brn b x y = y := by subst h; rfl
theorem grd_t {α : Type} {p : Prop} [Decidable p] {k : Option α} (h : p) : grd p k = k := by simp [grd, h]
theorem brn_dt {α : Type} {p : Prop} [Decidable p] {x y : Option α} (h : p) : brn (decide p) x y = x := brn_t (decide_eq_true h)
theorem brn_df {α : Type} {p : Prop} [Decidable p] {x y : Option α} (h : ¬ p) : brn (decide p) x y = y := brn_f (decide_eq_false h)
theorem brn_et {α : Type} {a b : Int} {x y : Option α} (h : a = b) : brn (a == b) x y = x := brn_t (by simpa using h)
theorem brn_ef {α : Type} {a b : Int} {x y : Option α} (h : a ≠ b) : brn (a == b) x y = y := brn_f (by simpa using h)
theorem brn_nt {α : Type} {a b : Int} {x y : Option α} (h : a ≠ b) : brn (a != b) x y = x := brn_t (by simpa using h)
theorem brn_nf {α : Type} {a b : Int} {x y : Option α} (h : a = b) : brn (a != b) x y = y := brn_f (by simpa using h)
theorem bnd_t {α β : Type} {x : α} {f : α → Option β} : bnd' (some x) f = f x := rfl
theorem getI_t {α : Type} {k : IntKind} {x : Int} {f : Int → Option α} : getI k (.int k x) f = f x := by simp [getI]
theorem getB_t {α : Type} {b : Bool} {f : Bool → Option α} : getB (.bool b) f = f b := rfl
theorem getL_t {α : Type} {n : Nat} {c : List PV} {f : Nat → List PV → Option α} : getL (.lst false n c) f = f n c := rfl
theorem getT2_t {α : Type} {a b : PV} {f : PV → PV → Option α} : getT2 (.tup [a, b]) f = f a b := rfl
theorem getT0_t {α : Type} {k : Option α} : getT0 (.tup []) k = k := rfl
theorem wrapN {n : Nat} (h : n ≤ 100000) : IntKind.i64.wrap ((n : Int) + 1) = ((n + 1 : Nat) : Int) := by
 rw [wrap64 (by omega) (by omega)]; omega
theorem toNatN (n : Nat) : Int.toNat (n : Int) = n := by omega
theorem range'_step {i n : Nat} (h : i < n) : List.range' i (n - i) = i :: List.range' (i + 1) (n - (i + 1)) := by
 rw [show n - i = (n - (i + 1)) + 1 by omega, List.range'_succ]
def iL (X : List Int) : List PV := X.map (PV.int .i64)
theorem iL_len (X : List Int) : (iL X).length = X.length := by simp [iL]
def en (X : List Int) (i : Nat) : Int := X.getD i 0
theorem iL_gp {X : List Int} {i : Nat} (h : i < X.length) : gp (iL X) i = .int .i64 (en X i) := by
 simp [iL, gp, en, List.getD, h]
theorem iL_set (w : List Int) (j : Nat) (x : Int) : (iL w).set j (.int .i64 x) = iL (w.set j x) := by simp [iL, List.map_set]
theorem iL_app (X : List Int) (x : Int) : iL X ++ [.int .i64 x] = iL (X ++ [x]) := by simp [iL]
theorem iL_take (X : List Int) (n : Nat) : (iL X).take n = iL (X.take n) := by simp [iL]
def rwP (r : List Int) : PV := .lst false r.length (iL r)
def rwsP (L : List (List Int)) : List PV := L.map rwP
theorem rws_len (L : List (List Int)) : (rwsP L).length = L.length := by simp [rwsP]
def ro (L : List (List Int)) (i : Nat) : List Int := L.getD i []
theorem rws_gp {L : List (List Int)} {i : Nat} (h : i < L.length) : gp (rwsP L) i = .lst false (ro L i).length (iL (ro L i)) := by
 simp [rwsP, gp, ro, rwP, List.getD, h]
theorem rws_app (L : List (List Int)) (r : List Int) : rwsP L ++ [rwP r] = rwsP (L ++ [r]) := by simp [rwsP]
theorem rws_take (L : List (List Int)) (n : Nat) : (rwsP L).take n = rwsP (L.take n) := by simp [rwsP]
theorem ro_mem {L : List (List Int)} {i : Nat} (h : i < L.length) : ro L i ∈ L := by
 simp [ro, List.getD, h]
theorem drop_ro {L : List (List Int)} {i : Nat} (h : i < L.length) : L.drop i = ro L i :: L.drop (i + 1) := by
 rw [List.drop_eq_getElem_cons h]; simp [ro, List.getD, h]
theorem drop_en {L : List Int} {i : Nat} (h : i < L.length) : L.drop i = en L i :: L.drop (i + 1) := by
 rw [List.drop_eq_getElem_cons h]; simp [en, List.getD, h]
theorem take_en {L : List Int} {i : Nat} (h : i < L.length) : L.take (i + 1) = L.take i ++ [en L i] := by
 rw [List.take_succ_eq_append_getElem h]; simp [en, List.getD, h]
theorem take_ro {L : List (List Int)} {i : Nat} (h : i < L.length) : L.take (i + 1) = L.take i ++ [ro L i] := by
 rw [List.take_succ_eq_append_getElem h]; simp [ro, List.getD, h]
theorem en_set {w : List Int} {j k : Nat} {x : Int} (hj : j < w.length) : en (w.set j x) k = if k = j then x else en w k := by
 unfold en
 by_cases h : k = j
 ·subst h; simp [List.getD, hj]
 ·rw [if_neg h]; simp [List.getD, List.getElem?_set_ne (Ne.symm h)]
theorem gI_n {α : Type} {X : List Int} {i : Nat} {f : Int → Option α} (h : i < X.length) : getI .i64 (gp (iL X) (Int.toNat (i : Int))) f = f (en X i) := by
 rw [toNatN, iL_gp h, getI_t]
theorem gL_n {α : Type} {L : List (List Int)} {i : Nat} {f : Nat → List PV → Option α} (h : i < L.length) : getL (gp (rwsP L) (Int.toNat (i : Int))) f = f (ro L i).length (iL (ro L i)) := by
 rw [toNatN, rws_gp h, getL_t]
theorem isame_L (N : Nat) (X : List Int) (hX : X.length ≤ 1000) : ∀ (s i fuel : Nat), X.length - i = s → s < fuel →
  m22_L0 N X.length (iL X) X.length (iL X) fuel (i : Int) = some (.inr ())
 | s, i, 0, _, h => by omega
 | s, i, f + 1, hs, hf => by
  rw [m22_L0]
  by_cases hi : i < X.length
  ·have ih := isame_L N X hX (s - 1) (i + 1) f (by omega) (by omega)
   rw [brn_dt (by omega)]
   simp (disch := (try simp only [List.length_drop, iL_len, rws_len, toNatN]) <;> omega) only [↓grd_t, ↓gI_n]
   rw [brn_nf rfl, wrapN (by omega), ih]
  ·rw [brn_df (by omega)]
theorem isame_ok (N : Nat) (hN : 2000 ≤ N) (X : List Int) (hX : X.length ≤ 1000) : m22 N (.lst false X.length (iL X)) (.lst false X.length (iL X)) = some (.bool true) := by
 have := isame_L N X hX X.length 0 N (by omega) (by omega)
 rw [m22, getL_t, getL_t, brn_nf rfl, show m22_L0 N X.length (iL X) X.length (iL X) N 0 = _ from this]
 rfl
theorem lsame_L (N : Nat) (hN : 2000 ≤ N) (L : List (List Int)) (hX : L.length ≤ 1000) (hr : ∀ r ∈ L, r.length ≤ 1000) : ∀ (s i fuel : Nat), L.length - i = s → s < fuel →
  m21_L0 N L.length (rwsP L) L.length (rwsP L) fuel (i : Int) = some (.inr ())
 | s, i, 0, _, h => by omega
 | s, i, f + 1, hs, hf => by
  rw [m21_L0]
  by_cases hi : i < L.length
  ·have ih := lsame_L N hN L hX hr (s - 1) (i + 1) f (by omega) (by omega)
   rw [brn_dt (by omega)]
   simp (disch := (try simp only [List.length_drop, iL_len, rws_len, toNatN]) <;> omega) only [↓grd_t, ↓gL_n]
   rw [isame_ok N hN _ (hr _ (ro_mem hi)), bnd_t, getB_t, brn_t rfl, wrapN (by omega), ih]
  ·rw [brn_df (by omega)]
theorem lsame_ok (N : Nat) (hN : 2000 ≤ N) (L : List (List Int)) (hX : L.length ≤ 1000) (hr : ∀ r ∈ L, r.length ≤ 1000) : m21 N (.lst false L.length (rwsP L)) (.lst false L.length (rwsP L)) = some (.bool true) := by
 have := lsame_L N hN L hX hr L.length 0 N (by omega) (by omega)
 rw [m21, getL_t, getL_t, brn_nf rfl, show m21_L0 N L.length (rwsP L) L.length (rwsP L) N 0 = _ from this]
 rfl
theorem b_or : ∀ x : Nat, x < 32 → ∀ s : Nat, s < 5 → bitsI .or .u64 (x : Int) (IntKind.u64.wrap (1 * 2 ^ (min s 64))) = ((x ||| 2 ^ s : Nat) : Int) := by decide +kernel
theorem b_un : ∀ x : Nat, x < 32 → ∀ s : Nat, s < 5 → bitsI .andNot .u64 (x : Int) (IntKind.u64.wrap (1 * 2 ^ (min s 64))) = ((x &&& (31 - 2 ^ s) : Nat) : Int) := by decide +kernel
theorem b_diff : ∀ x : Nat, x < 32 → ∀ y : Nat, y < 32 → bitsI .andNot .u64 (x : Int) (y : Int) = ((x &&& (31 - y) : Nat) : Int) := by decide +kernel
theorem b_all : ∀ n : Nat, n < 6 → IntKind.u64.wrap ((IntKind.u64.wrap (1 * 2 ^ (min n 64))) - 1) = ((2 ^ n - 1 : Nat) : Int) := by decide +kernel
theorem b_tst : ∀ x : Nat, x < 32 → ∀ s : Nat, s < 5 → (bitsI .and .u64 (Int.fdiv (x : Int) (2 ^ (min s 64))) 1 == 1) = x.testBit s := by decide +kernel
theorem b_rest : ∀ x : Nat, x < 32 → x ≠ 0 → bitsI .and .u64 (x : Int) (IntKind.u64.wrap ((x : Int) - 1)) = ((x &&& (x - 1) : Nat) : Int) := by decide +kernel
def bits (x : Nat) : List Nat := (List.range 5).filter fun s => x.testBit s
def low (x : Nat) : Nat := (bits x).headD 0
theorem bits_step : ∀ x : Nat, x < 32 → x ≠ 0 → bits x = low x :: bits (x &&& (x - 1)) ∧ x &&& (x - 1) < x ∧ low x < 5 := by decide +kernel
theorem bits_zero : bits 0 = [] := by decide
theorem tz_ok (N : Nat) : ∀ x : Nat, x < 32 → x ≠ 0 → m87 N (x : Int) = some (.int .i64 (low x : Int)) := by
 have h : ∀ x : Nat, x < 32 → x ≠ 0 → (match m96 0 (x : Int) with | some (.int k y) => decide (k = .i64) && decide (y = (low x : Int)) | _ => false) = true := by decide +kernel
 intro x hx h0
 have h1 := h x hx h0
 rw [m87, show m96 N (x : Int) = m96 0 (x : Int) from rfl]
 split at h1
 ·rename_i k y e
  simp only [Bool.and_eq_true, decide_eq_true_eq] at h1
  rw [e, h1.1, h1.2, bnd_t, getI_t]
 ·cases h1
theorem or_lt : ∀ x : Nat, x < 32 → ∀ s : Nat, s < 5 → x ||| 2 ^ s < 32 := by decide +kernel
theorem un_lt : ∀ x : Nat, x < 32 → ∀ s : Nat, s < 5 → x &&& (31 - 2 ^ s) < 32 := by decide +kernel
theorem diff_lt : ∀ x : Nat, x < 32 → ∀ y : Nat, y < 32 → x &&& (31 - y) < 32 := by decide +kernel
theorem un_or : ∀ x : Nat, x < 32 → ∀ s : Nat, s < 5 → x.testBit s = false → (x ||| 2 ^ s) &&& (31 - 2 ^ s) = x := by decide +kernel
theorem mem_bits {x s : Nat} : s ∈ bits x ↔ s < 5 ∧ x.testBit s = true := by simp [bits]
theorem tst_or : ∀ x : Nat, x < 32 → ∀ s : Nat, s < 5 → ∀ t : Nat, t < 5 → (x ||| 2 ^ s).testBit t = (x.testBit t || decide (t = s)) := by decide +kernel
theorem tst_diff : ∀ x : Nat, x < 32 → ∀ y : Nat, y < 32 → ∀ t : Nat, t < 5 → (x &&& (31 - y)).testBit t = (x.testBit t && !y.testBit t) := by decide +kernel
theorem tst_all : ∀ n : Nat, n < 6 → ∀ t : Nat, t < 5 → (2 ^ n - 1).testBit t = decide (t < n) := by decide +kernel
def uL (X : List Nat) : List PV := X.map fun (b : Nat) => PV.int .u64 (b : Int)
def bn (X : List Nat) (i : Nat) : Nat := X.getD i 0
def tblP (n : Nat) (A : List Int) (B D : List Nat) : List PV := .int .i64 (n : Int) :: (iL A ++ (uL B ++ uL D))
structure Tb (A : List Int) (B D : List Nat) : Prop where
 la : A.length = 25
 lb : B.length = 5
 ld : D.length = 5
 b32 : ∀ i, i < 5 → bn B i < 32
 d32 : ∀ i, i < 5 → bn D i < 32
theorem uL_len (X : List Nat) : (uL X).length = X.length := by simp [uL]
theorem bn_set {w : List Nat} {j k : Nat} {x : Nat} (hj : j < w.length) : bn (w.set j x) k = if k = j then x else bn w k := by
 unfold bn
 by_cases h : k = j
 ·subst h; simp [List.getD, hj]
 ·rw [if_neg h]; simp [List.getD, List.getElem?_set_ne (Ne.symm h)]
theorem tbl_len {n : Nat} {A : List Int} {B D : List Nat} (h : Tb A B D) : (tblP n A B D).length = 36 := by
 have := h.la; have := h.lb; have := h.ld
 simp only [tblP, List.length_cons, List.length_append, iL_len, uL_len]; omega
theorem gp_cons {p : PV} {l : List PV} {i : Nat} : gp (p :: l) (i + 1) = gp l i := by simp [gp]
theorem gp_left {l m : List PV} {i : Nat} (h : i < l.length) : gp (l ++ m) i = gp l i := by simp [gp, List.getD, List.getElem?_append_left h]
theorem gp_right {l m : List PV} {i j : Nat} (h : i = l.length + j) : gp (l ++ m) i = gp m j := by
 subst h; simp [gp, List.getD, List.getElem?_append_right]
theorem uL_gp {X : List Nat} {i : Nat} (h : i < X.length) : gp (uL X) i = .int .u64 (bn X i : Int) := by
 simp [uL, gp, bn, List.getD, h]
theorem gp_0 {n : Nat} {A : List Int} {B D : List Nat} : gp (tblP n A B D) 0 = .int .i64 (n : Int) := rfl
theorem gp_a {n : Nat} {A : List Int} {B D : List Nat} (h : Tb A B D) {j : Nat} (hj : j < 25) : gp (tblP n A B D) (1 + j) = .int .i64 (en A j) := by
 have := h.la
 rw [Nat.add_comm, tblP, gp_cons, gp_left (by rw [iL_len]; omega), iL_gp (by omega)]
theorem gp_b {n : Nat} {A : List Int} {B D : List Nat} (h : Tb A B D) {i : Nat} (hi : i < 5) : gp (tblP n A B D) (26 + i) = .int .u64 (bn B i : Int) := by
 have := h.la; have := h.lb
 rw [show 26 + i = (25 + i) + 1 by omega, tblP, gp_cons, gp_right (j := i) (by rw [iL_len]; omega), gp_left (by rw [uL_len]; omega), uL_gp (by omega)]
theorem gp_d {n : Nat} {A : List Int} {B D : List Nat} (h : Tb A B D) {i : Nat} (hi : i < 5) : gp (tblP n A B D) (31 + i) = .int .u64 (bn D i : Int) := by
 have := h.la; have := h.lb; have := h.ld
 rw [show 31 + i = (30 + i) + 1 by omega, tblP, gp_cons, gp_right (j := 5 + i) (by rw [iL_len]; omega), gp_right (j := i) (by rw [uL_len]; omega), uL_gp (by omega)]
theorem uL_set (w : List Nat) (j : Nat) (x : Nat) : (uL w).set j (.int .u64 (x : Int)) = uL (w.set j x) := by simp [uL, List.map_set]
theorem set_a {n : Nat} {A : List Int} {B D : List Nat} (h : Tb A B D) {j : Nat} {x : Int} (hj : j < 25) : (tblP n A B D).set (1 + j) (.int .i64 x) = tblP n (A.set j x) B D := by
 have := h.la
 rw [Nat.add_comm, tblP, List.set_cons_succ, List.set_append_left _ _ (by rw [iL_len]; omega), iL_set]; rfl
theorem set_b {n : Nat} {A : List Int} {B D : List Nat} (h : Tb A B D) {i : Nat} {x : Nat} (hi : i < 5) : (tblP n A B D).set (26 + i) (.int .u64 (x : Int)) = tblP n A (B.set i x) D := by
 have := h.la; have := h.lb
 rw [show 26 + i = (25 + i) + 1 by omega, tblP, List.set_cons_succ, List.set_append_right _ _ (by rw [iL_len]; omega), iL_len, show 25 + i - A.length = i by omega, List.set_append_left _ _ (by rw [uL_len]; omega), uL_set]; rfl
theorem set_d {n : Nat} {A : List Int} {B D : List Nat} (h : Tb A B D) {i : Nat} {x : Nat} (hi : i < 5) : (tblP n A B D).set (31 + i) (.int .u64 (x : Int)) = tblP n A B (D.set i x) := by
 have := h.la; have := h.lb; have := h.ld
 rw [show 31 + i = (30 + i) + 1 by omega, tblP, List.set_cons_succ, List.set_append_right _ _ (by rw [iL_len]; omega), iL_len, List.set_append_right _ _ (by rw [uL_len]; omega), uL_len, show 30 + i - A.length - B.length = i by omega, uL_set]; rfl
def putT (T : List Int × List Nat × List Nat) (i k s : Nat) : List Int × List Nat × List Nat := (T.1.set (i * 5 + k) (s : Int), T.2.1.set i (bn T.2.1 i ||| 2 ^ s), T.2.2.set k (bn T.2.2 k ||| 2 ^ s))
theorem Tb.seta {A : List Int} {B D : List Nat} (h : Tb A B D) {j : Nat} {x : Int} : Tb (A.set j x) B D := ⟨by rw [List.length_set]; exact h.la, h.lb, h.ld, h.b32, h.d32⟩
theorem Tb.setb {A : List Int} {B D : List Nat} (h : Tb A B D) {j x : Nat} (hj : j < 5) (hx : x < 32) : Tb A (B.set j x) D := ⟨h.la, by rw [List.length_set]; exact h.lb, h.ld, fun i hi => by
 rw [bn_set (by have := h.lb; omega)]; split
 ·exact hx
 ·exact h.b32 i hi, h.d32⟩
theorem Tb.setd {A : List Int} {B D : List Nat} (h : Tb A B D) {j x : Nat} (hj : j < 5) (hx : x < 32) : Tb A B (D.set j x) := ⟨h.la, h.lb, by rw [List.length_set]; exact h.ld, h.b32, fun i hi => by
 rw [bn_set (by have := h.ld; omega)]; split
 ·exact hx
 ·exact h.d32 i hi⟩
theorem Tb.put {A : List Int} {B D : List Nat} (h : Tb A B D) {i k s : Nat} (hi : i < 5) (hk : k < 5) (hs : s < 5) : Tb (putT (A, B, D) i k s).1 (putT (A, B, D) i k s).2.1 (putT (A, B, D) i k s).2.2 :=
 (h.seta.setb hi (or_lt _ (h.b32 i hi) s hs)).setd hk (or_lt _ (h.d32 k hk) s hs)
theorem getU_t {α : Type} {x : Int} {f : Int → Option α} : getI .u64 (.int .u64 x) f = f x := by simp [getI]
theorem put_ok (N n : Nat) {A : List Int} {B D : List Nat} (h : Tb A B D) {i k s : Nat} (hi : i < 5) (hk : k < 5) (hs : s < 5) :
  m72 N (i : Int) (k : Int) (s : Int) (tblP n A B D) = some (.tup [], tblP n (putT (A, B, D) i k s).1 (putT (A, B, D) i k s).2.1 (putT (A, B, D) i k s).2.2) := by
 have hl := tbl_len (n := n) h
 have h1 : Tb (A.set (i * 5 + k) (s : Int)) B D := h.seta
 have h2 := h1.setb hi (or_lt _ (h.b32 i hi) s hs)
 rw [m72, toNatN, toNatN, toNatN, grd_t ⟨by omega, by omega⟩, grd_t ⟨by omega, by omega⟩, grd_t (by omega), grd_t (by omega), show 1 + i * 5 + k = 1 + (i * 5 + k) by omega, set_a h (by omega), gp_b h1 hi, getU_t, grd_t (by omega), grd_t (by omega), grd_t (by omega), b_or _ (h.b32 i hi) s hs, set_b h1 hi, gp_d h2 hk, getU_t, grd_t (by omega), b_or _ (h.d32 k hk) s hs, set_d h2 hk]
 rfl
theorem take_ok (N n : Nat) {A : List Int} {B D : List Nat} (h : Tb A B D) {i k s : Nat} (hi : i < 5) (hk : k < 5) (hs : s < 5) (ha : en A (i * 5 + k) = (s : Int)) :
  m90 N (i : Int) (k : Int) (tblP n A B D) = some (.tup [], tblP n (A.set (i * 5 + k) (-1)) (B.set i (bn B i &&& (31 - 2 ^ s))) (D.set k (bn D k &&& (31 - 2 ^ s)))) := by
 have hl := tbl_len (n := n) h
 have h1 : Tb (A.set (i * 5 + k) (-1)) B D := h.seta
 have h2 := h1.setb hi (un_lt _ (h.b32 i hi) s hs)
 rw [m90, toNatN, toNatN, grd_t ⟨by omega, by omega⟩, grd_t ⟨by omega, by omega⟩, grd_t (by omega), show 1 + i * 5 + k = 1 + (i * 5 + k) by omega, gp_a h (by omega), getI_t, ha, toNatN, grd_t (by omega), grd_t (by omega), set_a h (by omega), gp_b h1 hi, getU_t, grd_t (by omega), grd_t (by omega), grd_t (by omega), b_un _ (h.b32 i hi) s hs, set_b h1 hi, gp_d h2 hk, getU_t, grd_t (by omega), b_un _ (h.d32 k hk) s hs, set_d h2 hk]
theorem list_set_set {α : Type} {l : List α} {i : Nat} {x y : α} : (l.set i x).set i y = l.set i y := by simp
theorem bn_self {w : List Nat} {j : Nat} (hj : j < w.length) : w.set j (bn w j) = w := by
 apply List.ext_getElem?
 intro i
 by_cases h : i = j
 ·subst h; simp [bn, List.getD, hj]
 ·rw [List.getElem?_set_ne (Ne.symm h)]
theorem en_self {w : List Int} {j : Nat} (hj : j < w.length) : w.set j (en w j) = w := by
 apply List.ext_getElem?
 intro i
 by_cases h : i = j
 ·subst h; simp [en, List.getD, hj]
 ·rw [List.getElem?_set_ne (Ne.symm h)]
theorem put_take (N n : Nat) {A : List Int} {B D : List Nat} (h : Tb A B D) {i k s : Nat} (hi : i < 5) (hk : k < 5) (hs : s < 5) (ha : en A (i * 5 + k) = -1) (hb : (bn B i).testBit s = false) (hd : (bn D k).testBit s = false) :
  m90 N (i : Int) (k : Int) (tblP n (putT (A, B, D) i k s).1 (putT (A, B, D) i k s).2.1 (putT (A, B, D) i k s).2.2) = some (.tup [], tblP n A B D) := by
 have la := h.la; have lb := h.lb; have ld := h.ld
 rw [take_ok N n (h.put hi hk hs) hi hk hs (by show en (A.set (i * 5 + k) (s : Int)) _ = _; rw [en_set (by omega), if_pos rfl])]
 simp only [putT, list_set_set]
 rw [bn_set (by omega), if_pos rfl, bn_set (by omega), if_pos rfl, un_or _ (h.b32 i hi) s hs hb, un_or _ (h.d32 k hk) s hs hd, bn_self (by omega), bn_self (by omega), ← ha, en_self (by omega)]
def mayB (n : Nat) (b d : Nat) : Nat := ((2 ^ n - 1) &&& (31 - b)) &&& (31 - d)
theorem all_lt : ∀ n : Nat, n < 6 → 2 ^ n - 1 < 32 := by decide
theorem may_lt {n b d : Nat} (hn : n < 6) (hb : b < 32) (hd : d < 32) : mayB n b d < 32 := diff_lt _ (diff_lt _ (all_lt n hn) _ hb) _ hd
theorem may_tst {n b d t : Nat} (hn : n < 6) (hb : b < 32) (hd : d < 32) (ht : t < 5) : (mayB n b d).testBit t = (decide (t < n) && !b.testBit t && !d.testBit t) := by
 rw [mayB, tst_diff _ (diff_lt _ (all_lt n hn) _ hb) _ hd t ht, tst_diff _ (all_lt n hn) _ hb t ht, tst_all n hn t ht]
theorem may_ok (N n : Nat) (hn : n < 6) {A : List Int} {B D : List Nat} (h : Tb A B D) {i k : Nat} (hi : i < 5) (hk : k < 5) : m89 N (i : Int) (k : Int) (tblP n A B D) = some (.int .u64 (mayB n (bn B i) (bn D k) : Int)) := by
 have hl := tbl_len (n := n) h
 rw [m89, grd_t (by omega), gp_0, getI_t, toNatN, toNatN, toNatN, grd_t (by omega), grd_t ⟨by omega, by omega⟩, grd_t (by omega), gp_b h hi, getU_t, grd_t ⟨by omega, by omega⟩, grd_t (by omega), gp_d h hk, getU_t, b_all n hn, b_diff _ (all_lt n hn) _ (h.b32 i hi), b_diff _ (diff_lt _ (all_lt n hn) _ (h.b32 i hi)) _ (h.d32 k hk)]
 rfl
abbrev T3 := List Int × List Nat × List Nat
def tP (n : Nat) (T : T3) : List PV := tblP n T.1 T.2.1 T.2.2
structure Tv (T : T3) : Prop where
 tb : Tb T.1 T.2.1 T.2.2
 a1 : ∀ j, j < 25 → -1 ≤ en T.1 j
theorem Tv.put {T : T3} (h : Tv T) {i k s : Nat} (hi : i < 5) (hk : k < 5) (hs : s < 5) : Tv (putT T i k s) := ⟨h.tb.put hi hk hs, fun j hj => by
 have la := h.tb.la
 show -1 ≤ en (T.1.set (i * 5 + k) (s : Int)) j
 rw [en_set (by omega)]; split
 ·omega
 ·exact h.a1 j hj⟩
def cmpl (n to : Nat) : Nat → Nat → Nat → T3 → List T3
 | 0, _, _, _ => []
 | f + 1, i, k, T =>
  if i = to then [T] else if k = n then cmpl n to f (i + 1) 0 T
  else if 0 ≤ en T.1 (i * 5 + k) then cmpl n to f i (k + 1) T
  else (bits (mayB n (bn T.2.1 i) (bn T.2.2 k))).flatMap fun s => cmpl n to f i (k + 1) (putT T i k s)
def oneP (a b : Nat) (z : Bool) (A : List Int) : List PV := [.int .i64 (a : Int), .int .i64 (b : Int), .bool z] ++ iL A
theorem putP_all : ∀ (ps l m : List PV), m.length = ps.length → putP (l ++ m) l.length ps = l ++ ps
 | [], l, m, h => by
  have : m = [] := List.eq_nil_of_length_eq_zero h
  subst this; rw [putP]
 | p :: ps, l, [], h => by simp at h
 | p :: ps, l, q :: m, h => by
  rw [putP]
  have : (l ++ q :: m).set l.length p = (l ++ [p]) ++ m := by simp
  rw [this]
  have ih := putP_all ps (l ++ [p]) m (by simpa using h)
  rw [show (l ++ [p]).length = l.length + 1 by simp] at ih
  rw [ih]; simp
theorem found_ok (N n a b : Nat) (z : Bool) (A : List Int) (T : T3) (hA : A.length = 25) (hT : Tv T) : m113 N (oneP a b z A) (tP n T) = some (.bool true, oneP a b true T.1) := by
 have hl := tbl_len (n := n) hT.tb
 have la := hT.tb.la
 have e : List.take 25 (List.drop 1 (tP n T)) = iL T.1 := by
  unfold tP tblP
  rw [List.drop_succ_cons, List.drop_zero, List.take_append_of_le_length (by rw [iL_len]; omega), List.take_of_length_le (by rw [iL_len]; omega)]
 have lo : (oneP a b z A).length = 28 := by simp [oneP, iL_len, hA]
 rw [m113, grd_t (by unfold tP; omega), e, grd_t ⟨by rw [iL_len]; exact la, by omega⟩, grd_t (by omega)]
 have p := putP_all (iL T.1) [.int .i64 (a : Int), .int .i64 (b : Int), .bool z] (iL A) (by rw [iL_len, iL_len]; omega)
 rw [show oneP a b z A = [.int .i64 (a : Int), .int .i64 (b : Int), .bool z] ++ iL A from rfl, show (3 : Nat) = [PV.int .i64 (a : Int), .int .i64 (b : Int), .bool z].length from rfl, p]
 rfl
def oneR (n a b : Nat) (z : Bool) (A : List Int) (T : T3) : List T3 → PV × List PV × List PV
 | [] => (.bool false, oneP a b z A, tP n T)
 | T' :: _ => (.bool true, oneP a b true T'.1, tP n T')
theorem one_L (N n to a b : Nat) (z : Bool) (A : List Int) (rec : Int → Int → Int → List PV → List PV → Option (PV × List PV × List PV)) (T : T3) (hT : Tv T) (i k : Nat) (hi : i < 5) (hk : k < 5) (ha : en T.1 (i * 5 + k) = -1) (g : Nat → List T3)
  (hrec : ∀ s, s < 5 → rec (i : Int) ((k + 1 : Nat) : Int) (to : Int) (oneP a b z A) (tP n (putT T i k s)) = some (oneR n a b z A (putT T i k s) (g s))) :
  ∀ (X fuel : Nat), X < 32 → X < fuel → (∀ s, s ∈ bits X → (bn T.2.1 i).testBit s = false ∧ (bn T.2.2 k).testBit s = false) →
  m88_L0 N rec (i : Int) (k : Int) (to : Int) fuel (X : Int) (oneP a b z A) (tP n T) = some (match (bits X).flatMap g with | [] => .inr (oneP a b z A, tP n T) | T' :: _ => .inl (.bool true, oneP a b true T'.1, tP n T'))
 | X, 0, _, h, _ => by omega
 | X, fuel + 1, hX, hf, hs => by
  rw [m88_L0]
  by_cases h0 : X = 0
  ·subst h0
   rw [brn_nf (by simp), bits_zero]; rfl
  ·obtain ⟨b1, b2, b3⟩ := bits_step X hX h0
   have h1 := hs (low X) (by rw [b1]; exact .head _)
   have hr := hrec (low X) b3
   rw [brn_nt (by omega), tz_ok N X hX h0, bnd_t, getI_t]
   unfold tP at hr ⊢
   rw [put_ok N n hT.tb hi hk b3, bnd_t]
   show getT0 (.tup []) _ = _
   rw [getT0_t, wrapN (by omega)]
   rw [show (putT (T.1, T.2.1, T.2.2) i k (low X)) = putT T i k (low X) from rfl, hr, bnd_t, b1, List.flatMap_cons]
   cases hg : g (low X) with
   | cons T' l =>
    show getB (.bool true) _ = _
    rw [getB_t, brn_t rfl]; rfl
   | nil =>
    show getB (.bool false) _ = _
    rw [getB_t, brn_f rfl]
    have pt := put_take N n hT.tb hi hk b3 ha h1.1 h1.2
    rw [show (putT (T.1, T.2.1, T.2.2) i k (low X)) = putT T i k (low X) from rfl] at pt
    show bnd' (m90 N (i : Int) (k : Int) (tblP n (putT T i k (low X)).1 (putT T i k (low X)).2.1 (putT T i k (low X)).2.2)) _ = _
    rw [pt, bnd_t]
    show getT0 (.tup []) _ = _
    rw [getT0_t, b_rest X hX h0, List.nil_append]
    exact one_L N n to a b z A rec T hT i k hi hk ha g hrec (X &&& (X - 1)) fuel (by omega) (by omega) (fun s hs' => hs s (by rw [b1]; exact .tail _ hs'))
theorem one_ok (N n to a b : Nat) (hN : 2000 ≤ N) (hn : n ≤ 5) (hto : to ≤ n) (z : Bool) (A : List Int) (hA : A.length = 25) : ∀ (f fu i k : Nat) (T : T3), Tv T → f ≤ fu → (to - i) * (n + 1) + (n - k) < f → i ≤ to → k ≤ n →
  m88 N fu (i : Int) (k : Int) (to : Int) (oneP a b z A) (tP n T) = some (oneR n a b z A T (cmpl n to f i k T))
 | 0, _, _, _, _, _, _, h, _, _ => by omega
 | f + 1, 0, _, _, _, _, h, _, _, _ => by omega
 | f + 1, fu + 1, i, k, T, hT, hfu, hf, hi, hk => by
  have hl := tbl_len (n := n) hT.tb
  rw [m88]
  unfold cmpl
  by_cases h1 : i = to
  ·rw [if_pos h1, brn_et (by omega), found_ok N n a b z A T hA hT, bnd_t]
   rfl
  ·rw [if_neg h1]
   have hm : (to - i) * (n + 1) = (to - (i + 1)) * (n + 1) + (n + 1) := by
    rw [show to - i = (to - (i + 1)) + 1 by omega, Nat.add_mul, Nat.one_mul]
   rw [brn_ef (by omega), grd_t (by unfold tP; omega)]
   rw [show gp (tP n T) 0 = .int .i64 (n : Int) from rfl, getI_t]
   by_cases h2 : k = n
   ·rw [if_pos h2]
    have ih := one_ok N n to a b hN hn hto z A hA f fu (i + 1) 0 T hT (by omega) (by omega) (by omega) (by omega)
    rw [brn_et (by omega), wrapN (by omega), show m88 N fu ((i + 1 : Nat) : Int) 0 (to : Int) (oneP a b z A) (tP n T) = _ from ih, bnd_t]
    cases cmpl n to f (i + 1) 0 T <;> rfl
   ·rw [if_neg h2, brn_ef (by omega), grd_t ⟨by omega, by omega⟩, grd_t ⟨by omega, by omega⟩, toNatN, toNatN, grd_t (by unfold tP; omega), show 1 + i * 5 + k = 1 + (i * 5 + k) by omega]
    rw [show gp (tP n T) (1 + (i * 5 + k)) = .int .i64 (en T.1 (i * 5 + k)) from gp_a hT.tb (by omega), getI_t]
    by_cases h3 : 0 ≤ en T.1 (i * 5 + k)
    ·rw [if_pos h3]
     have ih := one_ok N n to a b hN hn hto z A hA f fu i (k + 1) T hT (by omega) (by omega) (by omega) (by omega)
     rw [brn_dt h3, wrapN (by omega), ih, bnd_t]
     cases cmpl n to f i (k + 1) T <;> rfl
    ·rw [if_neg h3]
     have ha := hT.a1 (i * 5 + k) (by omega)
     have L := one_L N n to a b z A (m88 N fu) T hT i k (by omega) (by omega) (by omega) (fun s => cmpl n to f i (k + 1) (putT T i k s))
      (fun s h5 => one_ok N n to a b hN hn hto z A hA f fu i (k + 1) (putT T i k s) (hT.put (by omega) (by omega) h5) (by omega) (by omega) (by omega) (by omega))
      (mayB n (bn T.2.1 i) (bn T.2.2 k)) N (may_lt (by omega) (hT.tb.b32 i (by omega)) (hT.tb.d32 k (by omega))) (by have := may_lt (n := n) (by omega) (hT.tb.b32 i (by omega)) (hT.tb.d32 k (by omega)); omega)
      (fun s hs => by
       obtain ⟨s5, hs⟩ := mem_bits.1 hs
       rw [may_tst (by omega) (hT.tb.b32 i (by omega)) (hT.tb.d32 k (by omega)) s5] at hs
       simp only [Bool.and_eq_true, Bool.not_eq_true', decide_eq_true_eq] at hs
       exact ⟨hs.1.2, hs.2⟩)
     rw [brn_df (by omega)]
     rw [show m89 N (i : Int) (k : Int) (tP n T) = _ from may_ok N n (by omega) hT.tb (by omega) (by omega), bnd_t, getU_t, L, bnd_t]
     cases (bits (mayB n (bn T.2.1 i) (bn T.2.2 k))).flatMap fun s => cmpl n to f i (k + 1) (putT T i k s) <;> rfl
def dayE (n : Int) (P : List (List Int)) (r : List Int) : Nat → Nat → Int
 | 0, _ => 0
 | f + 1, k => if en r k < 0 then 2 else if n ≤ en r k then 2 else if en r k ∈ r.take k then 6 else if P.any (fun q => decide (k < q.length) && (en q k == en r k)) then 13 else dayE n P r f (k + 1)
def rowE (n w : Int) (L : List (List Int)) : Nat → Nat → Int
 | 0, _ => 0
 | f + 1, i => if ((ro L i).length : Int) ≠ w then 5 else if n < w then 5 else if dayE n (L.take i) (ro L i) (ro L i).length 0 ≠ 0 then dayE n (L.take i) (ro L i) (ro L i).length 0 else rowE n w L f (i + 1)
def chkE (n w : Int) (L : List (List Int)) : Int := if n < 1 then 1 else if 5 < n then 1 else if n < (L.length : Int) then 3 else rowE n w L L.length 0
structure Rp (P : List (List Int)) (i : Nat) (r : List Int) (k : Nat) (T : T3) : Prop where
 tv : Tv T
 b : ∀ s, s < 5 → ((bn T.2.1 i).testBit s = true ↔ (s : Int) ∈ r.take k)
 bz : ∀ j, i < j → j < 5 → bn T.2.1 j = 0
 d : ∀ d s, d < 5 → s < 5 → ((bn T.2.2 d).testBit s = true ↔ (∃ q ∈ P, d < q.length ∧ en q d = (s : Int)) ∨ (d < k ∧ en r d = (s : Int)))
 a : ∀ j d, j < 5 → d < 5 → en T.1 (j * 5 + d) = if j < i then (if d < (ro P j).length then en (ro P j) d else -1) else if j = i ∧ d < k then en r d else -1
theorem Rp.put {P : List (List Int)} {i : Nat} {r : List Int} {k : Nat} {T : T3} (h : Rp P i r k T) (hi : i < 5) (hk : k < 5) (hr : k < r.length) {s : Nat} (hs : s < 5) (he : en r k = (s : Int)) : Rp P i r (k + 1) (putT T i k s) := by
 have la := h.tv.tb.la; have lb := h.tv.tb.lb; have ld := h.tv.tb.ld
 refine ⟨h.tv.put hi hk hs, fun t ht => ?_, fun j hj h5 => ?_, fun d t hd ht => ?_, fun j d hj hd => ?_⟩
 ·show (bn (T.2.1.set i (bn T.2.1 i ||| 2 ^ s)) i).testBit t = true ↔ _
  rw [bn_set (by omega), if_pos rfl, tst_or _ (h.tv.tb.b32 i hi) s hs t ht, Bool.or_eq_true, h.b t ht, decide_eq_true_eq, take_en hr, List.mem_append, List.mem_singleton, he]
  constructor
  ·rintro (h1 | rfl)
   ·exact .inl h1
   ·exact .inr rfl
  ·rintro (h1 | h1)
   ·exact .inl h1
   ·exact .inr (by omega)
 ·show bn (T.2.1.set i (bn T.2.1 i ||| 2 ^ s)) j = 0
  rw [bn_set (by omega), if_neg (by omega)]; exact h.bz j hj h5
 ·show (bn (T.2.2.set k (bn T.2.2 k ||| 2 ^ s)) d).testBit t = true ↔ _
  rw [bn_set (by omega)]
  by_cases hdk : d = k
  ·subst hdk
   rw [if_pos rfl, tst_or _ (h.tv.tb.d32 d hd) s hs t ht, Bool.or_eq_true, h.d d t hd ht, decide_eq_true_eq, he]
   constructor
   ·rintro ((h1 | h1) | rfl)
    ·exact .inl h1
    ·omega
    ·exact .inr ⟨by omega, rfl⟩
   ·rintro (h1 | h1)
    ·exact .inl (.inl h1)
    ·exact .inr (by omega)
  ·rw [if_neg hdk, h.d d t hd ht]
   constructor
   ·rintro (h1 | h1)
    ·exact .inl h1
    ·exact .inr ⟨by omega, h1.2⟩
   ·rintro (h1 | h1)
    ·exact .inl h1
    ·exact .inr ⟨by omega, h1.2⟩
 ·show en (T.1.set (i * 5 + k) (s : Int)) (j * 5 + d) = _
  rw [en_set (by omega), h.a j d hj hd]
  by_cases hx : j * 5 + d = i * 5 + k
  ·have : j = i ∧ d = k := by omega
   obtain ⟨rfl, rfl⟩ := this
   rw [if_pos hx, if_neg (by omega), if_pos ⟨rfl, by omega⟩, he]
  ·rw [if_neg hx]
   by_cases h1 : j < i
   ·rw [if_pos h1, if_pos h1]
   ·rw [if_neg h1, if_neg h1]
    by_cases h2 : j = i ∧ d < k
    ·rw [if_pos h2, if_pos ⟨h2.1, by omega⟩]
    ·rw [if_neg h2, if_neg (by omega)]
theorem Rp.next {P : List (List Int)} {i : Nat} {r : List Int} {T : T3} (h : Rp P i r r.length T) (hi : P.length = i) (hr : r.length ≤ 5) (r' : List Int) : Rp (P ++ [r]) (i + 1) r' 0 T := by
 refine ⟨h.tv, fun s hs => ?_, fun j hj h5 => h.bz j (by omega) h5, fun d s hd hs => ?_, fun j d hj hd => ?_⟩
 ·rw [List.take_zero]
  by_cases h5 : i + 1 < 5
  ·rw [h.bz (i + 1) (by omega) h5]; simp
  ·have : bn T.2.1 (i + 1) = 0 := by
    have := h.tv.tb.lb
    unfold bn; rw [List.getD, List.getElem?_eq_none (by omega)]; rfl
   rw [this]; simp
 ·rw [h.d d s hd hs]
  constructor
  ·rintro (⟨q, hq, h1⟩ | h1)
   ·exact .inl ⟨q, List.mem_append_left _ hq, h1⟩
   ·exact .inl ⟨r, List.mem_append_right _ (.head _), h1⟩
  ·rintro (⟨q, hq, h1⟩ | h1)
   ·rcases List.mem_append.1 hq with hq | hq
    ·exact .inl ⟨q, hq, h1⟩
    ·obtain rfl := List.mem_singleton.1 hq
     exact .inr h1
   ·omega
 ·rw [h.a j d hj hd]
  by_cases h1 : j < i
  ·rw [if_pos h1, if_pos (show j < i + 1 by omega)]
   have : ro (P ++ [r]) j = ro P j := by simp [ro, List.getD, List.getElem?_append_left (show j < P.length by omega)]
   rw [this]
  ·rw [if_neg h1]
   by_cases h2 : j = i
   ·have : ro (P ++ [r]) j = r := by
     subst h2; rw [← hi]; simp [ro, List.getD]
    rw [if_pos (show j < i + 1 by omega), this]
    by_cases h3 : d < r.length
    ·rw [if_pos (show j = i ∧ d < r.length from ⟨h2, h3⟩), if_pos h3]
    ·rw [if_neg (show ¬ (j = i ∧ d < r.length) by omega), if_neg h3]
   ·rw [if_neg (show ¬ (j = i ∧ d < r.length) by omega), if_neg (show ¬ j < i + 1 by omega), if_neg (show ¬ (j = i + 1 ∧ d < 0) by omega)]
def outR (n : Nat) (e : Int) (T : T3) : (Int ⊕ (Int × List PV)) ⊕ List PV := if e = 0 then .inr (tP n T) else .inl (.inl e)
def T0 : T3 := (List.replicate 25 (-1), List.replicate 5 0, List.replicate 5 0)
theorem T0_rp (r : List Int) : Rp [] 0 r 0 T0 := by
 have hb : ∀ j, j < 5 → bn (List.replicate 5 0) j = 0 := by decide
 have ha : ∀ j, j < 25 → en (List.replicate 25 (-1)) j = -1 := by decide
 refine ⟨⟨⟨rfl, rfl, rfl, fun i hi => by show bn (List.replicate 5 0) i < 32; rw [hb i hi]; omega, fun i hi => by show bn (List.replicate 5 0) i < 32; rw [hb i hi]; omega⟩, fun j hj => by show -1 ≤ en (List.replicate 25 (-1)) j; rw [ha j hj]; omega⟩, fun s hs => ?_, fun j _ h5 => hb j h5, fun d s hd hs => ?_, fun j d hj hd => ?_⟩
 ·show (bn (List.replicate 5 0) 0).testBit s = true ↔ _
  rw [hb 0 (by omega)]; simp
 ·show (bn (List.replicate 5 0) d).testBit s = true ↔ _
  rw [hb d hd]; simp
 ·show en (List.replicate 25 (-1)) (j * 5 + d) = _
  rw [ha _ (by omega), if_neg (by omega), if_neg (by omega)]
def zA (i k : Nat) : List Int := List.replicate (i * 5 + k) (-1) ++ List.replicate (25 - (i * 5 + k)) 0
theorem zA_set {i k : Nat} (h : i * 5 + k < 25) : (zA i k).set (i * 5 + k) (-1) = zA i (k + 1) := by
 unfold zA
 rw [List.set_append_right _ _ (by simp), List.length_replicate, Nat.sub_self, show 25 - (i * 5 + k) = (25 - (i * 5 + (k + 1))) + 1 by omega, List.replicate_succ, List.set_cons_zero, show i * 5 + (k + 1) = i * 5 + k + 1 by omega, List.replicate_succ']
 simp
theorem beg_L1 (N n i : Nat) (hi : i < 5) : ∀ (f k fuel : Nat), 5 - k = f → f < fuel → k ≤ 5 →
  m71_L1 N (i : Int) fuel (k : Int) (tblP n (zA i k) (List.replicate 5 0) (List.replicate 5 0)) = some (tblP n (zA i 5) (List.replicate 5 0) (List.replicate 5 0))
 | f, k, 0, _, h, _ => by omega
 | 0, k, fuel + 1, hf, _, hk => by
  have : k = 5 := by omega
  subst this
  rw [m71_L1, brn_df (by omega)]
 | f + 1, k, fuel + 1, hf, hfu, hk => by
  have hb : ∀ j, j < 5 → bn (List.replicate 5 0) j = 0 := by decide
  have tb : Tb (zA i k) (List.replicate 5 0) (List.replicate 5 0) := ⟨by simp [zA]; omega, rfl, rfl, fun i hi => by rw [hb i hi]; omega, fun i hi => by rw [hb i hi]; omega⟩
  have hl := tbl_len (n := n) tb
  rw [m71_L1, brn_dt (by omega), grd_t ⟨by omega, by omega⟩, grd_t ⟨by omega, by omega⟩, toNatN, toNatN, grd_t (by omega), wrapN (by omega), show 1 + i * 5 + k = 1 + (i * 5 + k) by omega, set_a tb (by omega), zA_set (by omega)]
  exact beg_L1 N n i hi f (k + 1) fuel (by omega) (by omega) (by omega)
theorem beg_L0 (N n : Nat) (hN : 2000 ≤ N) : ∀ (f i fuel : Nat), 5 - i = f → f < fuel → i ≤ 5 →
  m71_L0 N fuel (i : Int) (tblP n (zA i 0) (List.replicate 5 0) (List.replicate 5 0)) = some (tP n T0)
 | f, i, 0, _, h, _ => by omega
 | 0, i, fuel + 1, hf, _, hi => by
  have : i = 5 := by omega
  subst this
  rw [m71_L0, brn_df (by omega)]; rfl
 | f + 1, i, fuel + 1, hf, hfu, hi => by
  rw [m71_L0, brn_dt (by omega), show m71_L1 N (i : Int) N 0 (tblP n (zA i 0) (List.replicate 5 0) (List.replicate 5 0)) = _ from beg_L1 N n i (by omega) 5 0 N (by omega) (by omega) (by omega), bnd_t, wrapN (by omega)]
  have e : zA i 5 = zA (i + 1) 0 := by
   unfold zA
   rw [show i * 5 + 5 = (i + 1) * 5 + 0 by omega]
  rw [e]
  exact beg_L0 N n hN f (i + 1) fuel (by omega) (by omega) (by omega)
theorem begun_ok (N n : Nat) (hN : 2000 ≤ N) : m71 N (n : Int) = some (tP n T0) := by
 have := beg_L0 N n hN 5 0 N (by omega) (by omega) (by omega)
 rw [m71]
 show bnd' (m71_L0 N N ((0 : Nat) : Int) (tblP n (zA 0 0) (List.replicate 5 0) (List.replicate 5 0))) _ = _
 rw [this, bnd_t]
def opE (n : Nat) (e : Int) (T : T3) : Int ⊕ (Int × List PV) := if e = 0 then .inr (0, tP n T) else .inl e
def metB (P : List (List Int)) (k : Nat) (s : Int) : Bool := P.any fun q => decide (k < q.length) && (en q k == s)
def ext (n : Nat) : Nat → List Nat → List (List Nat)
 | 0, l => [l]
 | f + 1, l => (List.range n).flatMap fun s => if s ∈ l then [] else ext n f (l ++ [s])
def nL (l : List Nat) : List Int := l.map fun (s : Nat) => (s : Int)
def gn (l : List Nat) (d : Nat) : Nat := l.getD d 0
def fitB (P : List (List Int)) (l : List Nat) : Nat → Nat → Bool
 | 0, _ => true
 | f + 1, d => !metB P d (gn l d : Nat) && fitB P l f (d + 1)
def fitn (n : Nat) (P : List (List Int)) : List (List Nat) := (ext n n []).filter fun l => fitB P l n 0
theorem nL_len (l : List Nat) : (nL l).length = l.length := by simp [nL]
theorem nL_en {l : List Nat} {d : Nat} (h : d < l.length) : en (nL l) d = (gn l d : Int) := by
 simp [nL, en, gn, List.getD, h]
theorem gn_app1 {l m : List Nat} {d : Nat} (h : d < l.length) : gn (l ++ m) d = gn l d := by
 simp [gn, List.getD, List.getElem?_append_left h]
theorem gn_app2 {l : List Nat} {s : Nat} : gn (l ++ [s]) l.length = s := by simp [gn, List.getD]
theorem ext_get {n : Nat} : ∀ {f : Nat} {l x : List Nat}, x ∈ ext n f l → x.length = l.length + f ∧ (∀ d, d < l.length → gn x d = gn l d)
 | 0, l, x, h => by
  obtain rfl := List.mem_singleton.1 h
  exact ⟨rfl, fun _ _ => rfl⟩
 | f + 1, l, x, h => by
  rw [ext, List.mem_flatMap] at h
  obtain ⟨s, hs, h⟩ := h
  by_cases g : s ∈ l
  ·rw [if_pos g] at h; cases h
  ·rw [if_neg g] at h
   obtain ⟨h1, h2⟩ := ext_get h
   rw [List.length_append, List.length_singleton] at h1 h2
   exact ⟨by omega, fun d hd => by rw [h2 d (by omega), gn_app1 hd]⟩
theorem ext_lt {n : Nat} : ∀ {f : Nat} {l x : List Nat}, (∀ s ∈ l, s < n) → x ∈ ext n f l → ∀ s ∈ x, s < n
 | 0, l, x, hl, h => by
  obtain rfl := List.mem_singleton.1 h
  exact hl
 | f + 1, l, x, hl, h => by
  rw [ext, List.mem_flatMap] at h
  obtain ⟨s, hs, h⟩ := h
  by_cases g : s ∈ l
  ·rw [if_pos g] at h; cases h
  ·rw [if_neg g] at h
   refine ext_lt (fun t ht => ?_) h
   rcases List.mem_append.1 ht with ht | ht
   ·exact hl t ht
   ·obtain rfl := List.mem_singleton.1 ht
    exact List.mem_range.1 hs
theorem flen_le {α β : Type} {b : Nat} {g : α → List β} : ∀ (L : List α), (∀ x ∈ L, (g x).length ≤ b) → (L.flatMap g).length ≤ L.length * b
 | [], _ => by simp
 | x :: L, h => by
  have h1 := h x (.head _)
  have ih := flen_le L fun y hy => h y (.tail _ hy)
  rw [List.flatMap_cons, List.length_append, List.length_cons, Nat.add_mul, Nat.one_mul]; omega
theorem ext_card {n : Nat} : ∀ (f : Nat) (l : List Nat), (ext n f l).length ≤ n ^ f
 | 0, l => by simp [ext]
 | f + 1, l => by
  have := flen_le (b := n ^ f) (g := fun s => if s ∈ l then [] else ext n f (l ++ [s])) (List.range n) (fun s _ => by
   by_cases g : s ∈ l
   ·simp only [if_pos g]; simp
   ·simp only [if_neg g]; exact ext_card f _)
  rw [List.length_range] at this
  rw [ext, Nat.pow_succ, Nat.mul_comm]; exact this
theorem pow5 {n f : Nat} (hn : n ≤ 5) (hf : f ≤ 5) : n ^ f ≤ 3125 := by
 have h : ∀ n : Nat, n < 6 → ∀ f : Nat, f < 6 → n ^ f ≤ 3125 := by decide
 exact h n (by omega) f (by omega)
theorem fm_range {α : Type} {n : Nat} {h : Nat → List α} (hz : ∀ s, n ≤ s → h s = []) : ∀ m, n ≤ m → (List.range m).flatMap h = (List.range n).flatMap h
 | 0, hm => by have : n = 0 := by omega
               subst this; rfl
 | m + 1, hm => by
  by_cases e : n = m + 1
  ·rw [e]
  ·rw [List.range_succ, List.flatMap_append, fm_range hz m (by omega)]
   simp [hz m (by omega)]
theorem fm_filter {α β : Type} {q : α → Bool} {g : α → List β} : ∀ L : List α, (L.filter q).flatMap g = L.flatMap fun s => if q s then g s else []
 | [] => rfl
 | x :: L => by
  rw [List.filter_cons, List.flatMap_cons]
  cases q x with
  | true => rw [if_pos rfl, if_pos rfl, List.flatMap_cons, fm_filter L]
  | false => rw [if_neg (by simp), if_neg (by simp), List.nil_append, fm_filter L]
theorem filter_fm {α β : Type} {p : β → Bool} {g : α → List β} : ∀ L : List α, (L.flatMap g).filter p = L.flatMap fun s => (g s).filter p
 | [] => rfl
 | x :: L => by rw [List.flatMap_cons, List.flatMap_cons, List.filter_append, filter_fm L]
theorem fm_congr {α β : Type} {g h : α → List β} : ∀ {L : List α}, (∀ x ∈ L, g x = h x) → L.flatMap g = L.flatMap h
 | [], _ => rfl
 | x :: L, hh => by rw [List.flatMap_cons, List.flatMap_cons, hh x (.head _), fm_congr fun y hy => hh y (.tail _ hy)]
theorem filter_congr' {α : Type} {p q : α → Bool} : ∀ {L : List α}, (∀ x ∈ L, p x = q x) → L.filter p = L.filter q
 | [], _ => rfl
 | x :: L, h => by rw [List.filter_cons, List.filter_cons, h x (.head _), filter_congr' fun y hy => h y (.tail _ hy)]
theorem Rp.congr {P : List (List Int)} {i k : Nat} {r r' : List Int} {T : T3} (h : Rp P i r k T) (h1 : r.take k = r'.take k) (h2 : ∀ d, d < k → en r d = en r' d) : Rp P i r' k T := by
 refine ⟨h.tv, fun s hs => by rw [← h1]; exact h.b s hs, h.bz, fun d s hd hs => ?_, fun j d hj hd => ?_⟩
 ·rw [h.d d s hd hs]
  constructor
  ·rintro (h3 | h3)
   ·exact .inl h3
   ·exact .inr ⟨h3.1, by rw [← h2 d h3.1]; exact h3.2⟩
  ·rintro (h3 | h3)
   ·exact .inl h3
   ·exact .inr ⟨h3.1, by rw [h2 d h3.1]; exact h3.2⟩
 ·rw [h.a j d hj hd]
  by_cases h3 : j < i
  ·rw [if_pos h3, if_pos h3]
  ·rw [if_neg h3, if_neg h3]
   by_cases h4 : j = i ∧ d < k
   ·rw [if_pos h4, if_pos h4, h2 d h4.2]
   ·rw [if_neg h4, if_neg h4]
def rowOf (n p : Nat) (T : T3) : List Int := (T.1.drop (p * 5)).take n
theorem en_at {X : List Int} {a d : Nat} : en (X.drop a) d = en X (a + d) := by simp [en, List.getD]
theorem list_en {X Y : List Int} (hl : X.length = Y.length) (h : ∀ d, d < X.length → en X d = en Y d) : X = Y := by
 apply List.ext_getElem hl
 intro d h1 h2
 have := h d h1
 simpa [en, List.getD, h1, h2] using this
theorem rowOf_eq {n p : Nat} (hn : n ≤ 5) (hp : p < 5) {T : T3} (hT : Tv T) {r : List Int} (hr : r.length = n) (h : ∀ d, d < n → en T.1 (p * 5 + d) = en r d) : rowOf n p T = r := by
 have la := hT.tb.la
 refine list_en ?_ fun d hd => ?_
 ·simp only [rowOf, List.length_take, List.length_drop]; omega
 ·simp only [rowOf, List.length_take, List.length_drop] at hd
  have e : en (rowOf n p T) d = en (T.1.drop (p * 5)) d := by
   unfold rowOf en
   simp only [List.getD]
   rw [List.getElem?_take, if_pos (by omega)]
  rw [e, en_at]; exact h d (by omega)
theorem row_cmpl (n : Nat) (hn : n ≤ 5) (P : List (List Int)) (p : Nat) (hp : p < n) : ∀ (f : Nat) (l : List Nat) (T : T3) (F : Nat), l.length + f = n → (∀ s ∈ l, s < n) → Rp P p (nL l) l.length T → f + 2 ≤ F →
  (cmpl n (p + 1) F p l.length T).map (rowOf n p) = ((ext n f l).filter fun x => fitB P x f l.length).map nL
 | 0, l, T, F, hl, hs, hT, hF => by
  obtain ⟨F, rfl⟩ : ∃ G, F = G + 2 := ⟨F - 2, by omega⟩
  rw [cmpl, if_neg (by omega), if_pos (by omega), cmpl, if_pos rfl]
  have : rowOf n p T = nL l := rowOf_eq hn (by omega) hT.tv (by rw [nL_len]; omega) fun d hd => by
   rw [hT.a p d (by omega) (by omega), if_neg (by omega), if_pos ⟨rfl, by omega⟩]
  simp [ext, fitB, this]
 | f + 1, l, T, F, hl, hs, hT, hF => by
  obtain ⟨F, rfl⟩ : ∃ G, F = G + 1 := ⟨F - 1, by omega⟩
  have ha : en T.1 (p * 5 + l.length) = -1 := by
   rw [hT.a p l.length (by omega) (by omega), if_neg (by omega), if_neg (by omega)]
  rw [cmpl, if_neg (by omega), if_neg (by omega), if_neg (by omega), ext]
  unfold bits
  rw [fm_filter, List.map_flatMap, filter_fm, List.map_flatMap]
  have hz : ∀ s, s < 5 → (mayB n (bn T.2.1 p) (bn T.2.2 l.length)).testBit s = (decide (s < n) && !decide (s ∈ l) && !metB P l.length (s : Nat)) := fun s h5 => by
   rw [may_tst (by omega) (hT.tv.tb.b32 p (by omega)) (hT.tv.tb.d32 l.length (by omega)) h5]
   have hb : (bn T.2.1 p).testBit s = decide (s ∈ l) := by
    rw [Bool.eq_iff_iff, hT.b s h5, List.take_of_length_le (by rw [nL_len]; omega), decide_eq_true_eq]
    unfold nL
    rw [List.mem_map]
    constructor
    ·rintro ⟨t, ht, e⟩
     have : t = s := by omega
     exact this ▸ ht
    ·exact fun h => ⟨s, h, rfl⟩
   have hd : (bn T.2.2 l.length).testBit s = metB P l.length (s : Nat) := by
    rw [Bool.eq_iff_iff, hT.d l.length s (by omega) h5]
    unfold metB
    rw [List.any_eq_true]
    constructor
    ·rintro (⟨q, hq, h5, h6⟩ | h5)
     ·exact ⟨q, hq, by simp [h5, h6]⟩
     ·omega
    ·rintro ⟨q, hq, h5⟩
     simp only [Bool.and_eq_true, decide_eq_true_eq, beq_iff_eq] at h5
     exact .inl ⟨q, hq, h5⟩
   rw [hb, hd]
  have e1 : (List.range 5).flatMap (fun s => List.map (rowOf n p) (if (mayB n (bn T.2.1 p) (bn T.2.2 l.length)).testBit s = true then cmpl n (p + 1) F p (l.length + 1) (putT T p l.length s) else [])) =
    (List.range 5).flatMap (fun s => if (decide (s < n) && !decide (s ∈ l) && !metB P l.length (s : Nat)) = true then ((ext n f (l ++ [s])).filter fun x => fitB P x f (l.length + 1)).map nL else []) := by
   refine fm_congr fun s hs5 => ?_
   have h5 := List.mem_range.1 hs5
   rw [hz s h5]
   by_cases g : (decide (s < n) && !decide (s ∈ l) && !metB P l.length (s : Nat)) = true
   ·rw [if_pos g, if_pos g]
    simp only [Bool.and_eq_true, decide_eq_true_eq] at g
    have hl1 : (l ++ [s]).length = l.length + 1 := by simp
    have hR : Rp P p (nL (l ++ [s])) l.length T := hT.congr (by rw [show nL (l ++ [s]) = nL l ++ [(s : Int)] by simp [nL], List.take_append_of_le_length (by rw [nL_len]; omega)]) fun d hd => by rw [nL_en hd, nL_en (by omega), gn_app1 hd]
    have hR2 := hR.put (by omega) (by omega) (by rw [nL_len]; omega) h5 (by rw [nL_en (by omega), gn_app2])
    rw [← hl1] at hR2
    have ih := row_cmpl n hn P p hp f (l ++ [s]) (putT T p l.length s) F (by omega) (fun t ht => by
     rcases List.mem_append.1 ht with ht | ht
     ·exact hs t ht
     ·obtain rfl := List.mem_singleton.1 ht
      exact g.1.1) hR2 (by omega)
    rw [hl1] at ih
    exact ih
   ·rw [if_neg g, if_neg g]; rfl
  rw [e1, fm_range (n := n) (fun s h => by rw [decide_eq_false (by omega)]; rfl) 5 hn]
  refine fm_congr fun s hs' => ?_
  have hsn := List.mem_range.1 hs'
  rw [decide_eq_true hsn, Bool.true_and]
  by_cases g : s ∈ l
  ·rw [if_pos g, decide_eq_true g]; rfl
  ·rw [if_neg g, decide_eq_false g, Bool.not_false, Bool.true_and]
   have hx : ∀ x ∈ ext n f (l ++ [s]), gn x l.length = s := fun x hx => by
    rw [(ext_get hx).2 l.length (by simp), gn_app2]
   have hq : (ext n f (l ++ [s])).filter (fun x => fitB P x (f + 1) l.length) = (ext n f (l ++ [s])).filter (fun x => !metB P l.length (s : Nat) && fitB P x f (l.length + 1)) := filter_congr' fun x h => by
    show (!metB P l.length (gn x l.length : Nat) && _) = _
    rw [hx x h]
   rw [hq]
   cases metB P l.length (s : Nat) with
   | true => simp
   | false => simp
end Go.Proofs.YtcaecfofgdogbaaDoor
namespace Go.Proofs.YtcaecfofgdogbaaDoor
open Go.V
set_option linter.unusedSectionVars false
set_option maxRecDepth 100000
def pc (x : Nat) : Nat := (bits x).length
def subs : Nat → Nat → List Nat
 | 1, 0 => [0]
 | 1, 1 => [1]
 | 2, 0 => [0]
 | 2, 1 => [1, 2]
 | 2, 2 => [3]
 | 3, 0 => [0]
 | 3, 1 => [1, 2, 4]
 | 3, 2 => [3, 5, 6]
 | 3, 3 => [7]
 | 4, 0 => [0]
 | 4, 1 => [1, 2, 4, 8]
 | 4, 2 => [3, 5, 6, 9, 10, 12]
 | 4, 3 => [7, 11, 13, 14]
 | 4, 4 => [15]
 | 5, 0 => [0]
 | 5, 1 => [1, 2, 4, 8, 16]
 | 5, 2 => [3, 5, 6, 9, 10, 12, 17, 18, 20, 24]
 | 5, 3 => [7, 11, 13, 14, 19, 21, 22, 25, 26, 28]
 | 5, 4 => [15, 23, 27, 29, 30]
 | 5, 5 => [31]
 | _, _ => []
def prm (n : Nat) : List Nat → Nat → Nat
 | [], _ => 1
 | M :: D, u => ((List.range n).map fun s => bif (M ||| u).testBit s then 0 else prm n D (u ||| 2 ^ s)).sum
def fac : Nat → Nat
 | 0 => 1
 | n + 1 => (n + 1) * fac n
def okC (M : Nat) : Nat → List Nat → Bool
 | _, [] => true
 | s, c :: l => (bif M.testBit s then !(c == 0) else true) && okC M (s + 1) l
def sbC (M : Nat) : Nat → List Nat → List Nat
 | _, [] => []
 | s, c :: l => (bif M.testBit s then c - 1 else c) :: sbC M (s + 1) l
def hallB (n k : Nat) : Nat → List Nat → List Nat → Bool
 | 0, cols, D => !(cols.all (· == 0)) || Nat.ble (fac (n - k)) (prm n D 0)
 | d + 1, cols, D => (subs n k).all fun M => !(okC M 0 cols) || hallB n k d (sbC M 0 cols) (D ++ [M])
theorem hall1_0 : hallB 1 0 1 (List.replicate 1 0) [] = true := by decide +kernel
theorem hall2_0 : hallB 2 0 2 (List.replicate 2 0) [] = true := by decide +kernel
theorem hall2_1 : hallB 2 1 2 (List.replicate 2 1) [] = true := by decide +kernel
theorem hall3_0 : hallB 3 0 3 (List.replicate 3 0) [] = true := by decide +kernel
theorem hall3_1 : hallB 3 1 3 (List.replicate 3 1) [] = true := by decide +kernel
theorem hall3_2 : hallB 3 2 3 (List.replicate 3 2) [] = true := by decide +kernel
theorem hall4_0 : hallB 4 0 4 (List.replicate 4 0) [] = true := by decide +kernel
theorem hall4_1 : hallB 4 1 4 (List.replicate 4 1) [] = true := by decide +kernel
theorem hall4_2 : hallB 4 2 4 (List.replicate 4 2) [] = true := by decide +kernel
theorem hall4_3 : hallB 4 3 4 (List.replicate 4 3) [] = true := by decide +kernel
theorem hall5_0 : hallB 5 0 5 (List.replicate 5 0) [] = true := by decide +kernel
theorem hall5_1 : hallB 5 1 5 (List.replicate 5 1) [] = true := by decide +kernel
theorem hall5_2 : hallB 5 2 5 (List.replicate 5 2) [] = true := by decide +kernel
theorem hall5_3 : hallB 5 3 5 (List.replicate 5 3) [] = true := by decide +kernel
theorem hall5_4 : hallB 5 4 5 (List.replicate 5 4) [] = true := by decide +kernel
end Go.Proofs.YtcaecfofgdogbaaDoor
namespace Go.Proofs.YtcaecfofgdogbaaDoor
open Go.V
set_option linter.unusedSectionVars false
def cc (D : List Nat) (s : Nat) : Nat := (D.filter fun M => M.testBit s).length
theorem cc_cons (M : Nat) (D : List Nat) (s : Nat) : cc (M :: D) s = (if M.testBit s then 1 else 0) + cc D s := by
 unfold cc
 rw [List.filter_cons]
 split <;> simp <;> omega
theorem okC_ok (M : Nat) : ∀ (l : List Nat) (s0 : Nat), (∀ j, j < l.length → M.testBit (s0 + j) = true → gn l j ≠ 0) → okC M s0 l = true
 | [], _, _ => rfl
 | c :: l, s0, h => by
  have h0 := h 0 (by simp)
  have ih := okC_ok M l (s0 + 1) fun j hj ht => by
   have := h (j + 1) (by simpa using hj) (by rw [show s0 + (j + 1) = s0 + 1 + j by omega]; exact ht)
   simpa [gn] using this
  rw [okC, ih, Bool.and_true]
  cases hb : M.testBit s0 with
  | false => rfl
  | true =>
   have := h0 (by simpa using hb)
   simp [gn] at this
   simp [this]
theorem sbC_len (M : Nat) : ∀ (l : List Nat) (s0 : Nat), (sbC M s0 l).length = l.length
 | [], _ => rfl
 | c :: l, s0 => by rw [sbC, List.length_cons, sbC_len M l, List.length_cons]
theorem sbC_get (M : Nat) : ∀ (l : List Nat) (s0 j : Nat), j < l.length → gn (sbC M s0 l) j = if M.testBit (s0 + j) then gn l j - 1 else gn l j
 | [], _, j, h => by simp at h
 | c :: l, s0, 0, _ => by
  rw [sbC]
  show (bif M.testBit s0 then c - 1 else c) = if M.testBit s0 = true then c - 1 else c
  cases M.testBit s0 <;> rfl
 | c :: l, s0, j + 1, h => by
  have ih := sbC_get M l (s0 + 1) j (by simpa using h)
  rw [sbC, show s0 + (j + 1) = s0 + 1 + j by omega]
  simpa [gn] using ih
theorem hall_sound (n k : Nat) : ∀ (d : Nat) (cols acc rest : List Nat), rest.length = d → (∀ M ∈ rest, M ∈ subs n k) → (∀ s, s < cols.length → gn cols s = cc rest s) → hallB n k d cols acc = true → fac (n - k) ≤ prm n (acc ++ rest) 0
 | 0, cols, acc, rest, hr, _, hc, hh => by
  have : rest = [] := List.eq_nil_of_length_eq_zero hr
  subst this
  rw [hallB] at hh
  have hz : cols.all (· == 0) = true := by
   rw [List.all_eq_true]
   intro c hcm
   obtain ⟨j, hj, rfl⟩ := List.getElem_of_mem hcm
   have := hc j hj
   simp [gn, cc, List.getD, hj] at this
   simp [this]
  rw [hz, Bool.not_true, Bool.false_or, Nat.ble_eq] at hh
  simpa using hh
 | d + 1, cols, acc, [], hr, _, _, _ => by simp at hr
 | d + 1, cols, acc, M :: rest, hr, hs, hc, hh => by
  rw [hallB, List.all_eq_true] at hh
  have h1 := hh M (hs M (.head _))
  have h2 : okC M 0 cols = true := okC_ok M cols 0 fun j hj ht => by
   rw [Nat.zero_add] at ht
   rw [hc j hj, cc_cons, if_pos ht]; omega
  rw [h2, Bool.not_true, Bool.false_or] at h1
  have := hall_sound n k d (sbC M 0 cols) (acc ++ [M]) rest (by simpa using hr) (fun M' h => hs M' (.tail _ h)) (fun s h => by
   rw [sbC_len] at h
   rw [sbC_get M cols 0 s h, Nat.zero_add, hc s h, cc_cons]
   split <;> omega) h1
  rwa [List.append_assoc, List.singleton_append] at this
theorem hall_all {n k : Nat} (hn : n ≤ 5) (hk : k < n) : hallB n k n (List.replicate n k) [] = true := by
 rcases (show n = 1 ∨ n = 2 ∨ n = 3 ∨ n = 4 ∨ n = 5 by omega) with rfl | rfl | rfl | rfl | rfl
 ·obtain rfl : k = 0 := by omega
  exact hall1_0
 ·rcases (show k = 0 ∨ k = 1 by omega) with rfl | rfl
  ·exact hall2_0
  ·exact hall2_1
 ·rcases (show k = 0 ∨ k = 1 ∨ k = 2 by omega) with rfl | rfl | rfl
  ·exact hall3_0
  ·exact hall3_1
  ·exact hall3_2
 ·rcases (show k = 0 ∨ k = 1 ∨ k = 2 ∨ k = 3 by omega) with rfl | rfl | rfl | rfl
  ·exact hall4_0
  ·exact hall4_1
  ·exact hall4_2
  ·exact hall4_3
 ·rcases (show k = 0 ∨ k = 1 ∨ k = 2 ∨ k = 3 ∨ k = 4 by omega) with rfl | rfl | rfl | rfl | rfl
  ·exact hall5_0
  ·exact hall5_1
  ·exact hall5_2
  ·exact hall5_3
  ·exact hall5_4
def stp (D x : List Nat) : List Nat := List.zipWith (fun M s => M ||| 2 ^ s) D x
inductive Vp (n : Nat) : List (List Nat) → List Nat → Prop
 | nil : Vp n [] (List.replicate n 0)
 | snoc (X : List (List Nat)) (D x : List Nat) (h : Vp n X D) (hx : x ∈ ext n n []) (hf : fitB (X.map nL) x n 0 = true) : Vp n (X ++ [x]) (stp D x)
theorem pc_or : ∀ M : Nat, M < 32 → ∀ s : Nat, s < 5 → M.testBit s = false → pc (M ||| 2 ^ s) = pc M + 1 := by decide +kernel
theorem or_ltn : ∀ n : Nat, n < 6 → ∀ M : Nat, M < 2 ^ n → ∀ s : Nat, s < n → M ||| 2 ^ s < 2 ^ n := by decide +kernel
theorem subs_mem : ∀ n : Nat, n < 6 → 1 ≤ n → ∀ M : Nat, M < 2 ^ n → M ∈ subs n (pc M) := by decide +kernel
theorem pow_lt : ∀ n : Nat, n < 6 → 2 ^ n ≤ 32 := by decide
theorem ext_cnt : ∀ n : Nat, n < 6 → ∀ x ∈ ext n n [], ∀ s : Nat, s < n → x.count s = 1 := by decide +kernel
theorem gn_stp {D x : List Nat} {d : Nat} (h1 : d < D.length) (h2 : d < x.length) : gn (stp D x) d = gn D d ||| 2 ^ gn x d := by
 simp [gn, stp, List.getD, List.getElem?_zipWith, h1, h2]
theorem cc_stp (s : Nat) (hs : s < 5) : ∀ (D x : List Nat), D.length = x.length → (∀ d, d < D.length → gn D d < 32 ∧ gn x d < 5 ∧ (gn D d).testBit (gn x d) = false) → cc (stp D x) s = cc D s + x.count s
 | [], [], _, _ => rfl
 | [], _ :: _, h, _ => by simp at h
 | _ :: _, [], h, _ => by simp at h
 | M :: D, t :: x, h, hd => by
  have h0 := hd 0 (by simp)
  simp only [gn, List.getD_cons_zero] at h0
  have ih := cc_stp s hs D x (by simpa using h) fun d hd' => by
   have := hd (d + 1) (by simpa using hd')
   simpa [gn] using this
  show cc ((M ||| 2 ^ t) :: stp D x) s = _
  rw [cc_cons, cc_cons, ih, tst_or M h0.1 t h0.2.1 s hs, List.count_cons]
  by_cases e : s = t
  ·subst e
   rw [h0.2.2]
   simp; omega
  ·have : (t == s) = false := by simpa using fun h => e h.symm
   rw [this, decide_eq_false e]
   simp; omega
theorem metB_app (P : List (List Int)) (r : List Int) (d : Nat) (s : Int) : metB (P ++ [r]) d s = (metB P d s || (decide (d < r.length) && (en r d == s))) := by
 simp [metB, List.any_append]
theorem fitB_get {P : List (List Int)} {x : List Nat} : ∀ {f d : Nat}, fitB P x f d = true → ∀ j, d ≤ j → j < d + f → metB P j (gn x j : Nat) = false
 | 0, d, _, j, h1, h2 => by omega
 | f + 1, d, h, j, h1, h2 => by
  rw [fitB, Bool.and_eq_true, Bool.not_eq_true'] at h
  by_cases e : j = d
  ·subst e; exact h.1
  ·exact fitB_get h.2 j (by omega) (by omega)
structure Vd (n : Nat) (X : List (List Nat)) (D : List Nat) : Prop where
 len : D.length = n
 lt : ∀ d, d < n → gn D d < 2 ^ n
 pc : ∀ d, d < n → pc (gn D d) = X.length
 cc : ∀ s, s < n → cc D s = X.length
 met : ∀ d s, d < n → s < 5 → (gn D d).testBit s = metB (X.map nL) d (s : Nat)
theorem gn_mem {l : List Nat} {d : Nat} (h : d < l.length) : gn l d ∈ l := by simp [gn, List.getD, h]
theorem Vp.vd {n : Nat} (hn : n ≤ 5) {X : List (List Nat)} {D : List Nat} (h : Vp n X D) : Vd n X D := by
 induction h with
 | nil =>
  have hz : ∀ d, gn (List.replicate n 0) d = 0 := fun d => by simp [gn, List.getD, List.getElem?_replicate]; split <;> rfl
  refine ⟨by simp, fun d _ => by rw [hz]; exact Nat.two_pow_pos n, fun d _ => by rw [hz]; decide, fun s _ => ?_, fun d s _ _ => by rw [hz]; simp [metB]⟩
  simp [Go.Proofs.YtcaecfofgdogbaaDoor.cc]
 | snoc X D x h hx hf ih =>
  obtain ⟨e1, _⟩ := ext_get hx
  have hxl : x.length = n := by simpa using e1
  have hlt := ext_lt (n := n) (by simp) hx
  have h2 := pow_lt n (by omega)
  have hnot : ∀ d, d < n → (gn D d).testBit (gn x d) = false := fun d hd => by
   have := hlt _ (gn_mem (l := x) (d := d) (by omega))
   rw [ih.met d _ hd (by omega)]
   exact fitB_get hf d (by omega) (by omega)
  have hg : ∀ d, d < n → gn (stp D x) d = gn D d ||| 2 ^ gn x d := fun d hd => gn_stp (by rw [ih.len]; exact hd) (by omega)
  have hx5 : ∀ d, d < n → gn x d < n := fun d hd => hlt _ (gn_mem (by omega))
  refine ⟨by simp [stp, ih.len, hxl], fun d hd => ?_, fun d hd => ?_, fun s hs => ?_, fun d s hd hs => ?_⟩
  ·rw [hg d hd]; exact or_ltn n (by omega) _ (ih.lt d hd) _ (hx5 d hd)
  ·have := ih.lt d hd
   have := hx5 d hd
   rw [hg d hd, pc_or _ (by omega) _ (by omega) (hnot d hd), ih.pc d hd]; simp
  ·rw [cc_stp s (by omega) D x (by rw [ih.len, hxl]) fun d hd => by
    rw [ih.len] at hd
    have := ih.lt d hd
    have := hx5 d hd
    exact ⟨by omega, by omega, hnot d hd⟩, ih.cc s hs, ext_cnt n (by omega) x hx s hs]
   simp
  ·have := ih.lt d hd
   have hx' := hx5 d hd
   rw [hg d hd, tst_or _ (by omega) _ (by omega) s hs, ih.met d s hd hs, List.map_append, List.map_singleton, metB_app, nL_len, decide_eq_true (show d < x.length by omega), Bool.true_and, nL_en (by omega)]
   congr 1
   rw [Bool.eq_iff_iff, decide_eq_true_eq, beq_iff_eq]
   constructor
   ·intro h; omega
   ·intro h; omega
theorem sum_len {α β : Type} {g : α → List β} : ∀ L : List α, (L.flatMap g).length = (L.map fun x => (g x).length).sum
 | [] => rfl
 | x :: L => by rw [List.flatMap_cons, List.length_append, List.map_cons, List.sum_cons, sum_len L]
theorem prm_ok (n : Nat) (hn : n ≤ 5) (X : List (List Nat)) (D : List Nat) (hD : Vd n X D) : ∀ (f : Nat) (l : List Nat) (u : Nat), l.length + f = n → u < 32 → (∀ s ∈ l, s < n) → (∀ s, s < 5 → u.testBit s = decide (s ∈ l)) →
  ((ext n f l).filter fun x => fitB (X.map nL) x f l.length).length = prm n (D.drop l.length) u
 | 0, l, u, hl, _, _, _ => by
  rw [List.drop_eq_nil_of_le (by rw [hD.len]; omega)]
  simp [ext, fitB, prm]
 | f + 1, l, u, hl, hu, hs, hb => by
  have hd : l.length < n := by omega
  have ed : D.drop l.length = gn D l.length :: D.drop (l.length + 1) := by
   rw [List.drop_eq_getElem_cons (by rw [hD.len]; exact hd)]
   simp [gn, List.getD, hD.len, hd]
  have h2 := pow_lt n (by omega)
  have hM := hD.lt l.length hd
  rw [ext, filter_fm, sum_len, ed, prm]
  congr 1
  refine List.map_congr_left fun s hs' => ?_
  have hsn := List.mem_range.1 hs'
  rw [Nat.testBit_or, hb s (by omega), hD.met l.length s hd (by omega)]
  by_cases g : s ∈ l
  ·rw [if_pos g, decide_eq_true g, Bool.or_true]; rfl
  ·rw [if_neg g, decide_eq_false g, Bool.or_false]
   have hx : ∀ x ∈ ext n f (l ++ [s]), gn x l.length = s := fun x hx => by
    rw [(ext_get hx).2 l.length (by simp), gn_app2]
   have hq : (ext n f (l ++ [s])).filter (fun x => fitB (X.map nL) x (f + 1) l.length) = (ext n f (l ++ [s])).filter (fun x => !metB (X.map nL) l.length (s : Nat) && fitB (X.map nL) x f (l.length + 1)) := filter_congr' fun x h => by
    show (!metB (X.map nL) l.length (gn x l.length : Nat) && _) = _
    rw [hx x h]
   rw [hq]
   cases metB (X.map nL) l.length (s : Nat) with
   | true => simp
   | false =>
    have hl1 : (l ++ [s]).length = l.length + 1 := by simp
    have ih := prm_ok n hn X D hD f (l ++ [s]) (u ||| 2 ^ s) (by omega) (or_lt u hu s (by omega)) (fun t ht => by
     rcases List.mem_append.1 ht with ht | ht
     ·exact hs t ht
     ·obtain rfl := List.mem_singleton.1 ht
      exact hsn) (fun t ht => by
     rw [tst_or u hu s (by omega) t ht, hb t ht, Bool.eq_iff_iff]
     simp)
    rw [hl1] at ih
    simpa using ih
theorem fit_many {n : Nat} (hn : n ≤ 5) {X : List (List Nat)} {D : List Nat} (h : Vp n X D) (hk : X.length < n) : fac (n - X.length) ≤ (fitn n (X.map nL)).length := by
 have hD := h.vd hn
 have e := prm_ok n hn X D hD n [] 0 (by simp) (by omega) (by simp) (fun s _ => by simp)
 rw [show (fitn n (X.map nL)).length = _ from e, List.length_nil, List.drop_zero]
 have := hall_sound n X.length n (List.replicate n X.length) [] D hD.len (fun M hM => by
  obtain ⟨d, hd, rfl⟩ := List.getElem_of_mem hM
  rw [hD.len] at hd
  have e2 : D[d]'(by rw [hD.len]; exact hd) = gn D d := by simp [gn, List.getD, hD.len, hd]
  rw [e2, ← hD.pc d hd]
  exact subs_mem n (by omega) (by omega) _ (hD.lt d hd)) (fun s hs => by
  rw [List.length_replicate] at hs
  rw [hD.cc s hs]
  simp [gn, List.getD, hs]) (hall_all hn hk)
 simpa using this
theorem ext_mem {n : Nat} : ∀ (f : Nat) (l x : List Nat), x.length = l.length + f → x.take l.length = l → (∀ s ∈ x, s < n) → (∀ k, k < x.length → gn x k ∉ x.take k) → x ∈ ext n f l
 | 0, l, x, hl, ht, _, _ => by
  rw [List.take_of_length_le (by omega)] at ht
  rw [ht]; exact .head _
 | f + 1, l, x, hl, ht, hs, hd => by
  have h1 : l.length < x.length := by omega
  rw [ext, List.mem_flatMap]
  refine ⟨gn x l.length, List.mem_range.2 (hs _ (gn_mem h1)), ?_⟩
  have h2 := hd l.length h1
  rw [ht] at h2
  rw [if_neg h2]
  refine ext_mem f _ x (by simp; omega) ?_ hs hd
  rw [List.length_append, List.length_singleton, List.take_succ_eq_append_getElem h1, ht]
  congr 2
  simp [gn, List.getD, h1]
theorem dayE_zero {n : Int} {P : List (List Int)} {r : List Int} : ∀ {f k : Nat}, dayE n P r f k = 0 → ∀ j, k ≤ j → j < k + f → 0 ≤ en r j ∧ en r j < n ∧ en r j ∉ r.take j ∧ metB P j (en r j) = false
 | 0, k, _, j, h1, h2 => by omega
 | f + 1, k, h, j, h1, h2 => by
  rw [dayE] at h
  split at h
  ·cases h
  ·rename_i a1
   split at h
   ·cases h
   ·rename_i a2
    split at h
    ·cases h
    ·rename_i a3
     split at h
     ·cases h
     ·rename_i a4
      by_cases e : j = k
      ·subst e
       exact ⟨by omega, by omega, a3, by unfold metB; simpa using a4⟩
      ·exact dayE_zero h j (by omega) (by omega)
theorem nL_toNat {r : List Int} (h : ∀ k, k < r.length → 0 ≤ en r k) : nL (r.map Int.toNat) = r := by
 refine list_en (by simp [nL]) fun d hd => ?_
 have hd' : d < r.length := by simpa [nL] using hd
 have := h d hd'
 rw [nL_en (by simpa using hd')]
 have e : gn (r.map Int.toNat) d = (en r d).toNat := by simp [gn, en, List.getD, hd']
 rw [e]; omega
theorem rowE_zero {n : Nat} {w : Int} {L : List (List Int)} : ∀ {f i : Nat}, rowE n w L f i = 0 → ∀ j, i ≤ j → j < i + f → ((ro L j).length : Int) = w ∧ w ≤ n ∧ dayE n (L.take j) (ro L j) (ro L j).length 0 = 0
 | 0, i, _, j, h1, h2 => by omega
 | f + 1, i, h, j, h1, h2 => by
  rw [rowE] at h
  split at h
  ·cases h
  ·rename_i a1
   split at h
   ·cases h
   ·rename_i a2
    split at h
    ·rename_i a3; exact absurd h a3
    ·rename_i a3
     by_cases e : j = i
     ·subst e
      exact ⟨by omega, by omega, by omega⟩
     ·exact rowE_zero h j (by omega) (by omega)
theorem fitB_mk {P : List (List Int)} {x : List Nat} : ∀ {f d : Nat}, (∀ j, d ≤ j → j < d + f → metB P j (gn x j : Nat) = false) → fitB P x f d = true
 | 0, _, _ => rfl
 | f + 1, d, h => by
  rw [fitB, h d (by omega) (by omega), fitB_mk fun j h1 h2 => h j (by omega) (by omega)]; rfl
theorem plan_vp {n : Nat} {L : List (List Int)} (h : ∀ j, j < L.length → ((ro L j).length : Int) = n ∧ dayE n (L.take j) (ro L j) (ro L j).length 0 = 0) : ∀ i, i ≤ L.length → ∃ X D, Vp n X D ∧ X.map nL = L.take i
 | 0, _ => ⟨[], _, .nil, by simp⟩
 | i + 1, hi => by
  obtain ⟨X, D, h1, h2⟩ := plan_vp h i (by omega)
  obtain ⟨a1, a2⟩ := h i (by omega)
  have hz := fun j (hj : j < (ro L i).length) => dayE_zero a2 j (by omega) (by omega)
  have en' : nL ((ro L i).map Int.toNat) = ro L i := nL_toNat fun k hk => (hz k hk).1
  have ge : ∀ k, k < (ro L i).length → gn ((ro L i).map Int.toNat) k = (en (ro L i) k).toNat := fun k hk => by simp [gn, en, List.getD, hk]
  refine ⟨X ++ [(ro L i).map Int.toNat], _, .snoc X D _ h1 ?_ ?_, ?_⟩
  ·refine ext_mem n [] _ (by simp; omega) rfl (fun s hs => ?_) (fun k hk => ?_)
   ·obtain ⟨k, hk, rfl⟩ := List.getElem_of_mem hs
    have hk' : k < (ro L i).length := by simpa using hk
    have := hz k hk'
    have e := ge k hk'
    simp only [gn, List.getD, hk, List.getElem?_eq_getElem, Option.getD_some] at e
    rw [e]; omega
   ·have hk' : k < (ro L i).length := by simpa using hk
    have hzk := hz k hk'
    rw [ge k hk']
    intro hm
    apply hzk.2.2.1
    rw [← List.map_take, List.mem_map] at hm
    obtain ⟨y, hy, e⟩ := hm
    obtain ⟨q, hq, rfl⟩ := List.getElem_of_mem hy
    have hq2 : q < (ro L i).length := by
     rw [List.length_take] at hq; omega
    have := (hz q hq2).1
    have eq : ((ro L i).take k)[q] = en (ro L i) q := by simp [en, List.getD, hq2]
    rw [eq] at e
    have : en (ro L i) q = en (ro L i) k := by omega
    rw [← this, ← eq]
    exact List.getElem_mem hq
  ·refine fitB_mk fun j _ hj => ?_
   have hj' : j < (ro L i).length := by omega
   have := hz j hj'
   rw [ge j hj', h2]
   rw [show (((en (ro L i) j).toNat : Nat) : Int) = en (ro L i) j by omega]
   exact this.2.2.2
  ·rw [List.map_append, h2, List.map_singleton, en', ← take_ro (by omega)]
theorem chkE_zero {x w : Int} {L : List (List Int)} (h : chkE x w L = 0) : 1 ≤ x ∧ x ≤ 5 ∧ (L.length : Int) ≤ x ∧ rowE x w L L.length 0 = 0 := by
 unfold chkE at h
 split at h
 ·cases h
 ·split at h
  ·cases h
  ·split at h
   ·cases h
   ·exact ⟨by omega, by omega, by omega, h⟩
theorem plan_ok {n : Nat} {L : List (List Int)} (h : chkE n n L = 0) : ∃ X D, Vp n X D ∧ X.map nL = L := by
 obtain ⟨h1, h2, h3, h4⟩ := chkE_zero h
 obtain ⟨X, D, e1, e2⟩ := plan_vp (n := n) (L := L) (fun j hj => by
  have := rowE_zero h4 j (by omega) (by omega)
  exact ⟨this.1, this.2.2⟩) L.length (by omega)
 exact ⟨X, D, e1, by rw [e2, List.take_length]⟩
theorem fitn_le {n : Nat} (hn : n ≤ 5) (L : List (List Int)) : (fitn n L).length ≤ 3125 := by
 have h1 := ext_card (n := n) n []
 have h2 := pow5 (f := n) hn hn
 have h3 := List.length_filter_le (fun l => fitB L l n 0) (ext n n [])
 unfold fitn; omega
theorem row_fit {n : Nat} (hn : n ≤ 5) {L : List (List Int)} (hp : L.length < n) {T : T3} (hT : ∀ r', Rp L L.length r' 0 T) (F : Nat) (hF : n + 2 ≤ F) : (cmpl n (L.length + 1) F L.length 0 T).map (rowOf n L.length) = (fitn n L).map nL :=
 row_cmpl n hn L L.length hp n [] T F (by simp) (by simp) (hT _) (by omega)
def rowsE (n : Nat) (A : List Int) : List (List Int) := (List.range n).map fun j => (A.drop (j * 5)).take n
theorem rows_L (N n : Nat) (hN : 5000 ≤ N) (hn1 : 1 ≤ n) (hn : n ≤ 5) (A : List Int) (hA : A.length = 25) : ∀ (f i fuel : Nat), n - i = f → f < fuel → i ≤ n →
  m65_L0 N (n : Int) (iL A) fuel i (i : Int) (rwsP ((List.range i).map fun j => (A.drop (j * 5)).take n)) = some (n, rwsP (rowsE n A))
 | f, i, 0, _, h, _ => by omega
 | 0, i, fuel + 1, hf, _, hi => by
  have : i = n := by omega
  subst this
  rw [m65_L0, brn_df (by omega)]; rfl
 | f + 1, i, fuel + 1, hf, hfu, hi => by
  have e1 : List.take n (List.drop (i * 5) (iL A)) = iL ((A.drop (i * 5)).take n) := by simp [iL, List.map_drop, List.map_take]
  have hl : ((A.drop (i * 5)).take n).length = n := by rw [List.length_take, List.length_drop]; omega
  have c : m56 N (.lst false n (iL ((A.drop (i * 5)).take n))) = some (rwP ((A.drop (i * 5)).take n)) := by
   rw [m56, getL_t, grd_t (by omega), grd_t (by rw [iL_len]; exact hl), grd_t (by omega)]
   unfold rwP; rw [hl]
  have ih := rows_L N n hN hn1 hn A hA f (i + 1) fuel (by omega) (by omega) (by omega)
  have e2 : rwsP ((List.range i).map fun j => (A.drop (j * 5)).take n) ++ [rwP ((A.drop (i * 5)).take n)] = rwsP ((List.range (i + 1)).map fun j => (A.drop (j * 5)).take n) := by
   rw [rws_app, List.range_succ, List.map_append]; rfl
  rw [m65_L0, brn_dt (by omega), grd_t ⟨by omega, by omega⟩, grd_t ⟨by omega, by omega⟩, toNatN, toNatN, e1, c, bnd_t]
  show getL (.lst false _ _) _ = _
  rw [getL_t, grd_t (by omega), grd_t (by rw [rws_len]; simp), wrapN (by omega)]
  show m65_L0 N (n : Int) (iL A) fuel (i + 1) ((i + 1 : Nat) : Int) (rwsP ((List.range i).map fun j => (A.drop (j * 5)).take n) ++ [rwP ((A.drop (i * 5)).take n)]) = _
  rw [e2, ih]
theorem getA_t {α : Type} {c : List PV} {f : List PV → Option α} : getA (.agg c) f = f c := rfl
theorem rows_ok' (N n : Nat) (hN : 5000 ≤ N) (hn1 : 1 ≤ n) (hn : n ≤ 5) (A : List Int) (hA : A.length = 25) : m65 N (.agg (iL A)) (n : Int) = some (.lst false n (rwsP (rowsE n A))) := by
 have := rows_L N n hN hn1 hn A hA n 0 N (by omega) (by omega) (by omega)
 rw [m65, getA_t, show m65_L0 N (n : Int) (iL A) N 0 0 [] = _ from this, bnd_t]
 show grd _ _ = _
 rw [grd_t (by rw [rws_len]; simp [rowsE])]
theorem oneP_A (a b : Nat) (z : Bool) (A : List Int) (hA : A.length = 25) : List.take 25 (List.drop 3 (oneP a b z A)) = iL A := by
 have : List.drop 3 (oneP a b z A) = iL A := rfl
 rw [this, List.take_of_length_le (by rw [iL_len]; omega)]
theorem search_one (N n : Nat) (hN : 5000 ≤ N) (a b : Nat) (A : List Int) (hA : A.length = 25) (T : T3) (R : List T3) (h : m88 N N (a : Int) 0 (b : Int) (oneP a b false A) (tP n T) = some (oneR n a b false A T R)) :
  m64 N (tP n T) (oneP a b false A) = some (.tup [], (oneR n a b false A T R).2.2, (oneR n a b false A T R).2.1) := by
 rw [m64, m112, grd_t (by simp [oneP]), show gp (oneP a b false A) 0 = .int .i64 (a : Int) from rfl, getI_t, grd_t (by simp [oneP]), show gp (oneP a b false A) 1 = .int .i64 (b : Int) from rfl, getI_t, bnd_t, getT2_t, getI_t, getI_t, h, bnd_t]
 cases R <;> rfl
theorem fit_cons {n : Nat} (hn : n ≤ 5) {L : List (List Int)} (h : chkE n n L = 0) (hp : L.length < n) : ∃ y l, fitn n L = y :: l := by
 obtain ⟨X, D, h1, rfl⟩ := plan_ok h
 have hm := fit_many hn h1 (by simpa using hp)
 have hf : ∀ m, 1 ≤ fac m := fun m => by
  induction m with
  | zero => exact Nat.le_refl _
  | succ m ih => rw [fac]; exact Nat.le_trans ih (Nat.le_mul_of_pos_left _ (by omega))
 have h0 := hf (n - X.length)
 cases e : fitn n (X.map nL) with
 | nil => rw [e] at hm; simp at hm; omega
 | cons y l => exact ⟨y, l, rfl⟩
def fl (n : Nat) (P : List (List Int)) (f : Nat) (l : List Nat) : List (List Nat) := (ext n f l).filter fun x => fitB P x f l.length
def fitG (n : Nat) (P : List (List Int)) (f : Nat) (l : List Nat) (s : Nat) : List (List Nat) := if (decide (s ∈ l) || metB P l.length (s : Nat)) = true then [] else fl n P f (l ++ [s])
theorem fl_step (n : Nat) (P : List (List Int)) (f : Nat) (l : List Nat) : fl n P (f + 1) l = (List.range n).flatMap (fitG n P f l) := by
 unfold fl
 rw [ext, filter_fm]
 refine fm_congr fun s _ => ?_
 unfold fitG fl
 by_cases g : s ∈ l
 ·rw [if_pos g, decide_eq_true g, Bool.true_or, if_pos rfl]; rfl
 ·rw [if_neg g, decide_eq_false g, Bool.false_or]
  have hx : ∀ x ∈ ext n f (l ++ [s]), gn x l.length = s := fun x hx => by
   rw [(ext_get hx).2 l.length (by simp), gn_app2]
  have hq : (ext n f (l ++ [s])).filter (fun x => fitB P x (f + 1) l.length) = (ext n f (l ++ [s])).filter (fun x => !metB P l.length (s : Nat) && fitB P x f (l.length + 1)) := filter_congr' fun x h => by
   show (!metB P l.length (gn x l.length : Nat) && _) = _
   rw [hx x h]
  rw [hq]
  cases metB P l.length (s : Nat) with
  | true => simp
  | false => simp
theorem idx_L (N : Nat) (s : Int) (X : List Int) (hX : X.length ≤ 1000) : ∀ (f i fuel : Nat), X.length - i = f → f < fuel → ∃ o, m86_L0 N s X.length (iL X) fuel (i : Int) = some o ∧ (s ∈ X.drop i → ∃ j : Nat, o = .inl (.int .i64 (j : Int))) ∧ (s ∉ X.drop i → o = .inr ())
 | f, i, 0, _, h => by omega
 | f, i, fuel + 1, hf, hfu => by
  rw [m86_L0]
  by_cases h : i < X.length
  ·obtain ⟨o, o1, o2, o3⟩ := idx_L N s X hX (f - 1) (i + 1) fuel (by omega) (by omega)
   rw [brn_dt (by omega), grd_t ⟨by omega, by omega⟩, toNatN, grd_t (by rw [List.length_drop, iL_len]; omega), iL_gp h, getI_t, drop_en h]
   by_cases e : s = en X i
   ·rw [brn_et e]
    exact ⟨_, rfl, fun _ => ⟨i, rfl⟩, fun g => absurd (by rw [← e]; exact .head _) g⟩
   ·rw [brn_ef e, wrapN (by omega)]
    refine ⟨o, o1, fun g => o2 ?_, fun g => o3 fun g2 => g (.tail _ g2)⟩
    rcases List.mem_cons.1 g with g | g
    ·exact absurd g e
    ·exact g
  ·rw [brn_df (by omega), List.drop_eq_nil_of_le (by omega)]
   exact ⟨_, rfl, fun g => absurd g (by simp), fun _ => rfl⟩
theorem cont_ok (N : Nat) (hN : 2000 ≤ N) (s : Int) (X : List Int) (hX : X.length ≤ 1000) : m57 N (rwP X) s = some (.bool (decide (s ∈ X))) := by
 obtain ⟨o, o1, o2, o3⟩ := idx_L N s X hX X.length 0 N (by omega) (by omega)
 rw [List.drop_zero] at o2 o3
 unfold rwP
 rw [m57, getL_t, m86, getL_t, show m86_L0 N s X.length (iL X) N 0 = _ from o1, bnd_t]
 by_cases h : s ∈ X
 ·obtain ⟨j, rfl⟩ := o2 h
  show bnd' (some (PV.int .i64 (j : Int))) _ = _
  rw [bnd_t, getI_t, decide_eq_true h, decide_eq_true (show (j : Int) ≥ 0 by omega)]
 ·rw [o3 h, decide_eq_false h]; rfl
theorem nL_mem {s : Nat} {l : List Nat} : decide ((s : Int) ∈ nL l) = decide (s ∈ l) := by
 refine decide_eq_decide.2 ?_
 unfold nL
 rw [List.mem_map]
 constructor
 ·rintro ⟨t, ht, e⟩
  have : t = s := by omega
  exact this ▸ ht
 ·exact fun h => ⟨s, h, rfl⟩
theorem clash3_L1 (N n : Nat) (hn : n ≤ 5) (P : List (List Int)) (hP : P.length ≤ 1000) (hPn : ∀ q ∈ P, q.length = n) (rec : PV → List PV → Nat → List PV → List PV → Option (List PV × Nat × List PV × List PV)) (k : Nat) (hk : k < n) (cl : List PV) (s : Int) (cc oc pc : List PV) (on : Nat) : ∀ (f i fuel : Nat) (b : Bool), P.length - i = f → f < fuel → i ≤ P.length →
  m79_3_L1 N rec k cl (n : Int) s cc on pc oc P.length (rwsP P) fuel b (i : Int) = some (b || metB (P.drop i) k s)
 | f, i, 0, _, _, h, _ => by omega
 | 0, i, fuel + 1, b, hf, _, hi => by
  rw [m79_3_L1, brn_df (by omega), List.drop_eq_nil_of_le (by omega)]; simp [metB]
 | f + 1, i, fuel + 1, b, hf, hfu, hi => by
  have h1 : i < P.length := by omega
  have hq := hPn _ (ro_mem h1)
  have ih := fun b => clash3_L1 N n hn P hP hPn rec k hk cl s cc oc pc on f (i + 1) fuel b (by omega) (by omega) (by omega)
  have em : metB (P.drop i) k s = ((en (ro P i) k == s) || metB (P.drop (i + 1)) k s) := by
   rw [drop_ro h1]
   unfold metB
   rw [List.any_cons, decide_eq_true (show k < (ro P i).length by omega), Bool.true_and]
  rw [m79_3_L1, brn_dt (by omega), grd_t ⟨by omega, by omega⟩, toNatN, grd_t (by rw [List.length_drop, rws_len]; omega), rws_gp h1, getL_t, wrapN (by omega), em]
  cases b with
  | true => rw [brn_t rfl, ih]; simp
  | false =>
   rw [brn_f rfl, grd_t ⟨by omega, by omega⟩, grd_t (by rw [List.length_drop, iL_len]; omega), iL_gp (by omega), getI_t, ih, Bool.false_or]
theorem fit3_L0 (N n : Nat) (hN : 5000 ≤ N) (hn : n ≤ 5) (P : List (List Int)) (hP : P.length ≤ 1000) (hPn : ∀ q ∈ P, q.length = n) (rec : PV → List PV → Nat → List PV → List PV → Option (List PV × Nat × List PV × List PV)) (f : Nat) (l : List Nat) (hl : l.length + (f + 1) = n)
  (hrec : ∀ s (A : List (List Nat)), A.length + (fl n P f (l ++ [s])).length ≤ 100000 → rec (rwP (nL (l ++ [s]))) [.int .i64 (n : Int)] A.length (rwsP (A.map nL)) [.lst false P.length (rwsP P)] = some (([.int .i64 (n : Int)], (A ++ fl n P f (l ++ [s])).length, [.lst false P.length (rwsP P)], rwsP ((A ++ fl n P f (l ++ [s])).map nL)))) : ∀ (g s fuel : Nat) (A : List (List Nat)), n - s = g → g < fuel → A.length + ((List.range' s (n - s)).flatMap (fitG n P f l)).length ≤ 100000 →
  m79_3_L0 N rec l.length (iL (nL l)) (n : Int) fuel (s : Int) [.int .i64 (n : Int)] A.length [.lst false P.length (rwsP P)] (rwsP (A.map nL)) = some (([.int .i64 (n : Int)], (A ++ (List.range' s (n - s)).flatMap (fitG n P f l)).length, [.lst false P.length (rwsP P)], rwsP ((A ++ (List.range' s (n - s)).flatMap (fitG n P f l)).map nL)))
 | g, s, 0, _, _, h, _ => by omega
 | g, s, fuel + 1, A, hg, hfu, hA => by
  rw [m79_3_L0]
  by_cases h : s < n
  ·have hc := cont_ok N (by omega) (s : Int) (nL l) (by rw [nL_len]; omega)
   unfold rwP at hc
   rw [nL_len, nL_mem] at hc
   rw [range'_step h, List.flatMap_cons, List.length_append] at hA
   rw [brn_dt (by omega), hc, bnd_t, getB_t, grd_t (by simp), show gp [PV.lst false P.length (rwsP P)] 0 = .lst false P.length (rwsP P) from rfl, getL_t, show m79_3_L1 N rec l.length (iL (nL l)) (n : Int) (s : Int) [.int .i64 (n : Int)] A.length [.lst false P.length (rwsP P)] (rwsP (A.map nL)) P.length (rwsP P) N (decide (s ∈ l)) 0 = _ from clash3_L1 N n hn P hP hPn rec l.length (by omega) (iL (nL l)) (s : Int) [.int .i64 (n : Int)] (rwsP (A.map nL)) _ A.length P.length 0 N (decide (s ∈ l)) (by omega) (by omega) (by omega), List.drop_zero, bnd_t, range'_step h, List.flatMap_cons, wrapN (by omega)]
   by_cases g1 : (decide (s ∈ l) || metB P l.length (s : Nat)) = true
   ·have e : fitG n P f l s = [] := by unfold fitG; rw [if_pos g1]
    rw [e] at hA ⊢
    rw [brn_t g1, List.nil_append]
    exact fit3_L0 N n hN hn P hP hPn rec f l hl hrec (g - 1) (s + 1) fuel A (by omega) (by omega) (by simpa using hA)
   ·have e : fitG n P f l s = fl n P f (l ++ [s]) := by unfold fitG; rw [if_neg g1]
    rw [e] at hA ⊢
    have ih := fit3_L0 N n hN hn P hP hPn rec f l hl hrec (g - 1) (s + 1) fuel (A ++ fl n P f (l ++ [s])) (by omega) (by omega) (by rw [List.length_append]; omega)
    have hr := hrec s A (by omega)
    have e2 : PV.lst false (l.length + 1) (iL (nL l) ++ [.int .i64 (s : Int)]) = rwP (nL (l ++ [s])) := by
     rw [iL_app, show nL l ++ [(s : Int)] = nL (l ++ [s]) by simp [nL]]
     unfold rwP; rw [nL_len, List.length_append, List.length_singleton]
    rw [List.append_assoc] at ih
    rw [brn_f (by simpa using g1), grd_t ⟨by omega, by omega⟩, grd_t (by rw [iL_len, nL_len]), grd_t (by omega), e2, hr, bnd_t]
    exact ih
  ·rw [brn_df (by omega), show n - s = 0 by omega]; simp
theorem fit3_ok (N n : Nat) (hN : 5000 ≤ N) (hn : n ≤ 5) (P : List (List Int)) (hP : P.length ≤ 1000) (hPn : ∀ q ∈ P, q.length = n) : ∀ (f fu : Nat) (l : List Nat) (A : List (List Nat)), l.length + f = n → f < fu → A.length + (fl n P f l).length ≤ 100000 →
  m79_3 N fu (rwP (nL l)) [.int .i64 (n : Int)] A.length (rwsP (A.map nL)) [.lst false P.length (rwsP P)] = some (([.int .i64 (n : Int)], (A ++ fl n P f l).length, [.lst false P.length (rwsP P)], rwsP ((A ++ fl n P f l).map nL)))
 | f, 0, _, _, _, h, _ => by omega
 | 0, fu + 1, l, A, hl, _, hA => by
  have hll := nL_len l
  have e0 : fl n P 0 l = [l] := by simp [fl, ext, fitB]
  rw [e0] at hA ⊢
  rw [m79_3]
  unfold rwP
  rw [getL_t, grd_t (by simp), show gp [PV.int .i64 (n : Int)] 0 = .int .i64 (n : Int) from rfl, getI_t, brn_et (by omega), grd_t (by simp at hA; omega), grd_t (by rw [rws_len]; simp)]
  rw [show rwsP (A.map nL) ++ [PV.lst false (nL l).length (iL (nL l))] = rwsP ((A ++ [l]).map nL) by simp [rwsP, rwP], List.length_append, List.length_singleton]
 | f + 1, fu + 1, l, A, hl, hf, hA => by
  have hll := nL_len l
  have hs := fl_step n P f l
  rw [hs] at hA ⊢
  rw [m79_3]
  unfold rwP
  have e := fit3_L0 N n hN hn P hP hPn (m79_3 N fu) f l hl (fun s A hA => fit3_ok N n hN hn P hP hPn f fu (l ++ [s]) A (by simp; omega) (by omega) hA) n 0 N A (by omega) (by omega) (by rw [Nat.sub_zero, ← List.range_eq_range']; exact hA)
  rw [Nat.sub_zero, ← List.range_eq_range'] at e
  rw [getL_t, grd_t (by simp), show gp [PV.int .i64 (n : Int)] 0 = .int .i64 (n : Int) from rfl, getI_t, brn_ef (by omega), hll]
  rw [show m79_3_L0 N (m79_3 N fu) l.length (iL (nL l)) (n : Int) N 0 [.int .i64 (n : Int)] A.length [.lst false P.length (rwsP P)] (rwsP (A.map nL)) = _ from e, bnd_t]
theorem clash9_L1 (N n : Nat) (hn : n ≤ 5) (P : List (List Int)) (hP : P.length ≤ 1000) (hPn : ∀ q ∈ P, q.length = n) (rec : PV → List PV → Nat → List PV → Nat → List PV → Option (List PV × Nat × Nat × List PV × List PV)) (k : Nat) (hk : k < n) (cl : List PV) (s : Int) (cc oc pc : List PV) (on : Nat) : ∀ (f i fuel : Nat) (b : Bool), P.length - i = f → f < fuel → i ≤ P.length →
  m79_9_L1 N rec k cl (n : Int) s cc on P.length (rwsP P) oc fuel b (i : Int) = some (b || metB (P.drop i) k s)
 | f, i, 0, _, _, h, _ => by omega
 | 0, i, fuel + 1, b, hf, _, hi => by
  rw [m79_9_L1, brn_df (by omega), List.drop_eq_nil_of_le (by omega)]; simp [metB]
 | f + 1, i, fuel + 1, b, hf, hfu, hi => by
  have h1 : i < P.length := by omega
  have hq := hPn _ (ro_mem h1)
  have ih := fun b => clash9_L1 N n hn P hP hPn rec k hk cl s cc oc pc on f (i + 1) fuel b (by omega) (by omega) (by omega)
  have em : metB (P.drop i) k s = ((en (ro P i) k == s) || metB (P.drop (i + 1)) k s) := by
   rw [drop_ro h1]
   unfold metB
   rw [List.any_cons, decide_eq_true (show k < (ro P i).length by omega), Bool.true_and]
  rw [m79_9_L1, brn_dt (by omega), grd_t ⟨by omega, by omega⟩, toNatN, grd_t (by rw [rws_len]; omega), rws_gp h1, getL_t, wrapN (by omega), em]
  cases b with
  | true => rw [brn_t rfl, ih]; simp
  | false =>
   rw [brn_f rfl, grd_t ⟨by omega, by omega⟩, grd_t (by rw [List.length_drop, iL_len]; omega), iL_gp (by omega), getI_t, ih, Bool.false_or]
theorem fit9_L0 (N n : Nat) (hN : 5000 ≤ N) (hn : n ≤ 5) (P : List (List Int)) (hP : P.length ≤ 1000) (hPn : ∀ q ∈ P, q.length = n) (rec : PV → List PV → Nat → List PV → Nat → List PV → Option (List PV × Nat × Nat × List PV × List PV)) (f : Nat) (l : List Nat) (hl : l.length + (f + 1) = n)
  (hrec : ∀ s (A : List (List Nat)), A.length + (fl n P f (l ++ [s])).length ≤ 100000 → rec (rwP (nL (l ++ [s]))) [.int .i64 (n : Int)] A.length (rwsP (A.map nL)) P.length (rwsP P) = some (([.int .i64 (n : Int)], (A ++ fl n P f (l ++ [s])).length, P.length, rwsP P, rwsP ((A ++ fl n P f (l ++ [s])).map nL)))) : ∀ (g s fuel : Nat) (A : List (List Nat)), n - s = g → g < fuel → A.length + ((List.range' s (n - s)).flatMap (fitG n P f l)).length ≤ 100000 →
  m79_9_L0 N rec l.length (iL (nL l)) (n : Int) fuel (s : Int) [.int .i64 (n : Int)] A.length P.length (rwsP P) (rwsP (A.map nL)) = some (([.int .i64 (n : Int)], (A ++ (List.range' s (n - s)).flatMap (fitG n P f l)).length, P.length, rwsP P, rwsP ((A ++ (List.range' s (n - s)).flatMap (fitG n P f l)).map nL)))
 | g, s, 0, _, _, h, _ => by omega
 | g, s, fuel + 1, A, hg, hfu, hA => by
  rw [m79_9_L0]
  by_cases h : s < n
  ·have hc := cont_ok N (by omega) (s : Int) (nL l) (by rw [nL_len]; omega)
   unfold rwP at hc
   rw [nL_len, nL_mem] at hc
   rw [range'_step h, List.flatMap_cons, List.length_append] at hA
   rw [brn_dt (by omega), hc, bnd_t, getB_t, show m79_9_L1 N rec l.length (iL (nL l)) (n : Int) (s : Int) [.int .i64 (n : Int)] A.length P.length (rwsP P) (rwsP (A.map nL)) N (decide (s ∈ l)) 0 = _ from clash9_L1 N n hn P hP hPn rec l.length (by omega) (iL (nL l)) (s : Int) [.int .i64 (n : Int)] (rwsP (A.map nL)) [] A.length P.length 0 N (decide (s ∈ l)) (by omega) (by omega) (by omega), List.drop_zero, bnd_t, range'_step h, List.flatMap_cons, wrapN (by omega)]
   by_cases g1 : (decide (s ∈ l) || metB P l.length (s : Nat)) = true
   ·have e : fitG n P f l s = [] := by unfold fitG; rw [if_pos g1]
    rw [e] at hA ⊢
    rw [brn_t g1, List.nil_append]
    exact fit9_L0 N n hN hn P hP hPn rec f l hl hrec (g - 1) (s + 1) fuel A (by omega) (by omega) (by simpa using hA)
   ·have e : fitG n P f l s = fl n P f (l ++ [s]) := by unfold fitG; rw [if_neg g1]
    rw [e] at hA ⊢
    have ih := fit9_L0 N n hN hn P hP hPn rec f l hl hrec (g - 1) (s + 1) fuel (A ++ fl n P f (l ++ [s])) (by omega) (by omega) (by rw [List.length_append]; omega)
    have hr := hrec s A (by omega)
    have e2 : PV.lst false (l.length + 1) (iL (nL l) ++ [.int .i64 (s : Int)]) = rwP (nL (l ++ [s])) := by
     rw [iL_app, show nL l ++ [(s : Int)] = nL (l ++ [s]) by simp [nL]]
     unfold rwP; rw [nL_len, List.length_append, List.length_singleton]
    rw [List.append_assoc] at ih
    rw [brn_f (by simpa using g1), grd_t ⟨by omega, by omega⟩, grd_t (by rw [iL_len, nL_len]), grd_t (by omega), e2, hr, bnd_t]
    exact ih
  ·rw [brn_df (by omega), show n - s = 0 by omega]; simp
theorem fit9_ok (N n : Nat) (hN : 5000 ≤ N) (hn : n ≤ 5) (P : List (List Int)) (hP : P.length ≤ 1000) (hPn : ∀ q ∈ P, q.length = n) : ∀ (f fu : Nat) (l : List Nat) (A : List (List Nat)), l.length + f = n → f < fu → A.length + (fl n P f l).length ≤ 100000 →
  m79_9 N fu (rwP (nL l)) [.int .i64 (n : Int)] A.length (rwsP (A.map nL)) P.length (rwsP P) = some (([.int .i64 (n : Int)], (A ++ fl n P f l).length, P.length, rwsP P, rwsP ((A ++ fl n P f l).map nL)))
 | f, 0, _, _, _, h, _ => by omega
 | 0, fu + 1, l, A, hl, _, hA => by
  have hll := nL_len l
  have e0 : fl n P 0 l = [l] := by simp [fl, ext, fitB]
  rw [e0] at hA ⊢
  rw [m79_9]
  unfold rwP
  rw [getL_t, grd_t (by simp), show gp [PV.int .i64 (n : Int)] 0 = .int .i64 (n : Int) from rfl, getI_t, brn_et (by omega), grd_t (by simp at hA; omega), grd_t (by rw [rws_len]; simp)]
  rw [show rwsP (A.map nL) ++ [PV.lst false (nL l).length (iL (nL l))] = rwsP ((A ++ [l]).map nL) by simp [rwsP, rwP], List.length_append, List.length_singleton]
 | f + 1, fu + 1, l, A, hl, hf, hA => by
  have hll := nL_len l
  have hs := fl_step n P f l
  rw [hs] at hA ⊢
  rw [m79_9]
  unfold rwP
  have e := fit9_L0 N n hN hn P hP hPn (m79_9 N fu) f l hl (fun s A hA => fit9_ok N n hN hn P hP hPn f fu (l ++ [s]) A (by simp; omega) (by omega) hA) n 0 N A (by omega) (by omega) (by rw [Nat.sub_zero, ← List.range_eq_range']; exact hA)
  rw [Nat.sub_zero, ← List.range_eq_range'] at e
  rw [getL_t, grd_t (by simp), show gp [PV.int .i64 (n : Int)] 0 = .int .i64 (n : Int) from rfl, getI_t, brn_ef (by omega), hll]
  rw [show m79_9_L0 N (m79_9 N fu) l.length (iL (nL l)) (n : Int) N 0 [.int .i64 (n : Int)] A.length P.length (rwsP P) (rwsP (A.map nL)) = _ from e, bnd_t]
theorem met_hd {P : List (List Int)} {i n : Nat} (hn1 : 1 ≤ n) (h1 : i < P.length) (hq : (ro P i).length = n) (s : Int) : metB (P.drop i) 0 s = ((en (ro P i) 0 == s) || metB (P.drop (i + 1)) 0 s) := by
 rw [drop_ro h1]
 unfold metB
 rw [List.any_cons, decide_eq_true (show 0 < (ro P i).length by omega), Bool.true_and]
theorem topA_L1 (N n : Nat) (hn1 : 1 ≤ n) (P : List (List Int)) (hP : P.length ≤ 1000) (hPn : ∀ q ∈ P, q.length = n) (s : Int) (c0 c2 c3 : List PV) (a : Nat) : ∀ (f i fuel : Nat) (b : Bool), P.length - i = f → f < fuel → i ≤ P.length →
  m79_L1 N (n : Int) s c0 a c2 c3 P.length (rwsP P) fuel b (i : Int) = some (b || metB (P.drop i) 0 s)
 | f, i, 0, _, _, h, _ => by omega
 | 0, i, fuel + 1, b, hf, _, hi => by
  rw [m79_L1, brn_df (by omega), List.drop_eq_nil_of_le (by omega)]; simp [metB]
 | f + 1, i, fuel + 1, b, hf, hfu, hi => by
  have h1 : i < P.length := by omega
  have hq := hPn _ (ro_mem h1)
  have ih := fun b => topA_L1 N n hn1 P hP hPn s c0 c2 c3 a f (i + 1) fuel b (by omega) (by omega) (by omega)
  rw [m79_L1, brn_dt (by omega), grd_t ⟨by omega, by omega⟩, toNatN, grd_t (by rw [List.length_drop, rws_len]; omega), rws_gp h1, getL_t, wrapN (by omega), met_hd hn1 h1 hq]
  cases b with
  | true => rw [brn_t rfl, ih]; simp
  | false =>
   rw [brn_f rfl, grd_t (by omega), grd_t (by rw [iL_len]; omega), iL_gp (by omega), getI_t, ih, Bool.false_or]
theorem topB_L1 (N n : Nat) (hn1 : 1 ≤ n) (P : List (List Int)) (hP : P.length ≤ 1000) (hPn : ∀ q ∈ P, q.length = n) (s : Int) (c0 c3 : List PV) (a : Nat) : ∀ (f i fuel : Nat) (b : Bool), P.length - i = f → f < fuel → i ≤ P.length →
  m79_7_L1 N (n : Int) s c0 a P.length (rwsP P) c3 fuel b (i : Int) = some (b || metB (P.drop i) 0 s)
 | f, i, 0, _, _, h, _ => by omega
 | 0, i, fuel + 1, b, hf, _, hi => by
  rw [m79_7_L1, brn_df (by omega), List.drop_eq_nil_of_le (by omega)]; simp [metB]
 | f + 1, i, fuel + 1, b, hf, hfu, hi => by
  have h1 : i < P.length := by omega
  have hq := hPn _ (ro_mem h1)
  have ih := fun b => topB_L1 N n hn1 P hP hPn s c0 c3 a f (i + 1) fuel b (by omega) (by omega) (by omega)
  rw [m79_7_L1, brn_dt (by omega), grd_t ⟨by omega, by omega⟩, toNatN, grd_t (by rw [rws_len]; omega), rws_gp h1, getL_t, wrapN (by omega), met_hd hn1 h1 hq]
  cases b with
  | true => rw [brn_t rfl, ih]; simp
  | false =>
   rw [brn_f rfl, grd_t (by omega), grd_t (by rw [iL_len]; omega), iL_gp (by omega), getI_t, ih, Bool.false_or]
theorem topA_L0 (N n : Nat) (hN : 5000 ≤ N) (hn1 : 1 ≤ n) (hn : n ≤ 5) (P : List (List Int)) (hP : P.length ≤ 1000) (hPn : ∀ q ∈ P, q.length = n) : ∀ (g s fuel : Nat) (A : List (List Nat)), n - s = g → g < fuel → A.length + ((List.range' s (n - s)).flatMap (fitG n P (n - 1) [])).length ≤ 100000 →
  m79_L0 N (n : Int) fuel (s : Int) [.int .i64 (n : Int)] A.length [.lst false P.length (rwsP P)] (rwsP (A.map nL)) = some ([.int .i64 (n : Int)], (A ++ (List.range' s (n - s)).flatMap (fitG n P (n - 1) [])).length, [.lst false P.length (rwsP P)], rwsP ((A ++ (List.range' s (n - s)).flatMap (fitG n P (n - 1) [])).map nL))
 | g, s, 0, _, _, h, _ => by omega
 | g, s, fuel + 1, A, hg, hfu, hA => by
  rw [m79_L0]
  by_cases h : s < n
  ·have hc := cont_ok N (by omega) (s : Int) [] (by simp)
   rw [show rwP [] = PV.lst false 0 [] from rfl, decide_eq_false (show ¬ (s : Int) ∈ ([] : List Int) by simp)] at hc
   rw [range'_step h, List.flatMap_cons, List.length_append] at hA
   have hm := topA_L1 N n hn1 P hP hPn (s : Int) [.int .i64 (n : Int)] [.lst false P.length (rwsP P)] (rwsP (A.map nL)) A.length P.length 0 N false (by omega) (by omega) (by omega)
   rw [Bool.false_or, List.drop_zero] at hm
   rw [brn_dt (by omega), hc, bnd_t, getB_t, grd_t (by simp), show gp [PV.lst false P.length (rwsP P)] 0 = .lst false P.length (rwsP P) from rfl, getL_t, show m79_L1 N (n : Int) (s : Int) [.int .i64 (n : Int)] A.length [.lst false P.length (rwsP P)] (rwsP (A.map nL)) P.length (rwsP P) N false 0 = _ from hm, bnd_t, wrapN (by omega), range'_step h, List.flatMap_cons]
   by_cases g1 : metB P 0 (s : Nat) = true
   ·have e : fitG n P (n - 1) [] s = [] := by unfold fitG; rw [if_pos (by simpa using g1)]
    rw [e] at hA ⊢
    rw [brn_t g1, List.nil_append]
    exact topA_L0 N n hN hn1 hn P hP hPn (g - 1) (s + 1) fuel A (by omega) (by omega) (by simpa using hA)
   ·have e : fitG n P (n - 1) [] s = fl n P (n - 1) [s] := by unfold fitG; rw [if_neg (by simpa using g1)]; rfl
    rw [e] at hA ⊢
    have ih := topA_L0 N n hN hn1 hn P hP hPn (g - 1) (s + 1) fuel (A ++ fl n P (n - 1) [s]) (by omega) (by omega) (by rw [List.length_append]; omega)
    have hr := fit3_ok N n hN hn P hP hPn (n - 1) N [s] A (by simp; omega) (by omega) (by omega)
    rw [List.append_assoc] at ih
    rw [brn_f (by simpa using g1), show PV.lst false 1 [PV.int .i64 (s : Int)] = rwP (nL [s]) from rfl, hr, bnd_t]
    exact ih
  ·rw [brn_df (by omega), show n - s = 0 by omega]; simp
theorem topB_L0 (N n : Nat) (hN : 5000 ≤ N) (hn1 : 1 ≤ n) (hn : n ≤ 5) (P : List (List Int)) (hP : P.length ≤ 1000) (hPn : ∀ q ∈ P, q.length = n) : ∀ (g s fuel : Nat) (A : List (List Nat)), n - s = g → g < fuel → A.length + ((List.range' s (n - s)).flatMap (fitG n P (n - 1) [])).length ≤ 100000 →
  m79_7_L0 N (n : Int) fuel (s : Int) [.int .i64 (n : Int)] A.length P.length (rwsP P) (rwsP (A.map nL)) = some ([.int .i64 (n : Int)], (A ++ (List.range' s (n - s)).flatMap (fitG n P (n - 1) [])).length, P.length, rwsP P, rwsP ((A ++ (List.range' s (n - s)).flatMap (fitG n P (n - 1) [])).map nL))
 | g, s, 0, _, _, h, _ => by omega
 | g, s, fuel + 1, A, hg, hfu, hA => by
  rw [m79_7_L0]
  by_cases h : s < n
  ·have hc := cont_ok N (by omega) (s : Int) [] (by simp)
   rw [show rwP [] = PV.lst false 0 [] from rfl, decide_eq_false (show ¬ (s : Int) ∈ ([] : List Int) by simp)] at hc
   rw [range'_step h, List.flatMap_cons, List.length_append] at hA
   have hm := topB_L1 N n hn1 P hP hPn (s : Int) [.int .i64 (n : Int)] (rwsP (A.map nL)) A.length P.length 0 N false (by omega) (by omega) (by omega)
   rw [Bool.false_or, List.drop_zero] at hm
   rw [brn_dt (by omega), hc, bnd_t, getB_t, show m79_7_L1 N (n : Int) (s : Int) [.int .i64 (n : Int)] A.length P.length (rwsP P) (rwsP (A.map nL)) N false 0 = _ from hm, bnd_t, wrapN (by omega), range'_step h, List.flatMap_cons]
   by_cases g1 : metB P 0 (s : Nat) = true
   ·have e : fitG n P (n - 1) [] s = [] := by unfold fitG; rw [if_pos (by simpa using g1)]
    rw [e] at hA ⊢
    rw [brn_t g1, List.nil_append]
    exact topB_L0 N n hN hn1 hn P hP hPn (g - 1) (s + 1) fuel A (by omega) (by omega) (by simpa using hA)
   ·have e : fitG n P (n - 1) [] s = fl n P (n - 1) [s] := by unfold fitG; rw [if_neg (by simpa using g1)]; rfl
    rw [e] at hA ⊢
    have ih := topB_L0 N n hN hn1 hn P hP hPn (g - 1) (s + 1) fuel (A ++ fl n P (n - 1) [s]) (by omega) (by omega) (by rw [List.length_append]; omega)
    have hr := fit9_ok N n hN hn P hP hPn (n - 1) N [s] A (by simp; omega) (by omega) (by omega)
    rw [List.append_assoc] at ih
    rw [brn_f (by simpa using g1), show PV.lst false 1 [PV.int .i64 (s : Int)] = rwP (nL [s]) from rfl, hr, bnd_t]
    exact ih
  ·rw [brn_df (by omega), show n - s = 0 by omega]; simp
theorem fl_all {n : Nat} (hn1 : 1 ≤ n) (P : List (List Int)) : (List.range' 0 (n - 0)).flatMap (fitG n P (n - 1) []) = fitn n P := by
 have := fl_step n P (n - 1) []
 rw [Nat.sub_zero, ← List.range_eq_range', ← this, show n - 1 + 1 = n by omega]; rfl
theorem m38_ok (N n : Nat) (hN : 5000 ≤ N) (hn1 : 1 ≤ n) (hn : n ≤ 5) (P : List (List Int)) (hP : P.length ≤ 1000) (hPn : ∀ q ∈ P, q.length = n) : m38 N (n : Int) (.lst false P.length (rwsP P)) = some (.lst false (fitn n P).length (rwsP ((fitn n P).map nL))) := by
 have h := topA_L0 N n hN hn1 hn P hP hPn n 0 N [] (by omega) (by omega) (by rw [fl_all hn1]; have := fitn_le hn P; simp; omega)
 rw [fl_all hn1, List.nil_append] at h
 rw [m38, getL_t, m79, brn_ef (by omega), show m79_L0 N (n : Int) N 0 [.int .i64 (n : Int)] 0 [.lst false P.length (rwsP P)] [] = _ from h, bnd_t, bnd_t]
 show grd _ _ = _
 rw [grd_t (by rw [rws_len, List.length_map])]
theorem m38_3_ok (N n : Nat) (hN : 5000 ≤ N) (hn1 : 1 ≤ n) (hn : n ≤ 5) (P : List (List Int)) (hP : P.length ≤ 1000) (hPn : ∀ q ∈ P, q.length = n) : m38_3 N (n : Int) P.length (rwsP P) = some (.lst false (fitn n P).length (rwsP ((fitn n P).map nL)), rwsP P) := by
 have h := topB_L0 N n hN hn1 hn P hP hPn n 0 N [] (by omega) (by omega) (by rw [fl_all hn1]; have := fitn_le hn P; simp; omega)
 rw [fl_all hn1, List.nil_append] at h
 rw [m38_3, m79_7, brn_ef (by omega), show m79_7_L0 N (n : Int) N 0 [.int .i64 (n : Int)] 0 P.length (rwsP P) [] = _ from h, bnd_t, bnd_t]
 show grd _ _ = _
 rw [grd_t (by rw [rws_len, List.length_map])]
theorem ext_dis : ∀ n : Nat, n < 6 → ∀ x ∈ ext n n [], ∀ k : Nat, k < n → gn x k ∉ x.take k := by decide +kernel
theorem mem_nL {s : Nat} {l : List Nat} : (s : Int) ∈ nL l ↔ s ∈ l := by
 have := @nL_mem s l
 exact ⟨fun h => by simpa [h] using this, fun h => by simpa [h] using this⟩
theorem dayE_mk {n : Int} {P : List (List Int)} {r : List Int} : ∀ {f k : Nat}, (∀ j, k ≤ j → j < k + f → 0 ≤ en r j ∧ en r j < n ∧ en r j ∉ r.take j ∧ metB P j (en r j) = false) → dayE n P r f k = 0
 | 0, k, _ => rfl
 | f + 1, k, h => by
  obtain ⟨h1, h2, h3, h4⟩ := h k (by omega) (by omega)
  unfold metB at h4
  rw [dayE, if_neg (by omega), if_neg (by omega), if_neg h3, if_neg (by simpa using h4)]
  exact dayE_mk fun j g1 g2 => h j (by omega) (by omega)
theorem rowE_mk {n : Nat} {L : List (List Int)} : ∀ {f i : Nat}, (∀ j, i ≤ j → j < i + f → (ro L j).length = n ∧ dayE n (L.take j) (ro L j) (ro L j).length 0 = 0) → rowE n n L f i = 0
 | 0, i, _ => rfl
 | f + 1, i, h => by
  obtain ⟨h1, h2⟩ := h i (by omega) (by omega)
  rw [rowE, if_neg (by omega), if_neg (by omega), if_neg (by rw [h2]; simp)]
  exact rowE_mk fun j g1 g2 => h j (by omega) (by omega)
theorem vp_rows {n : Nat} (hn : n ≤ 5) {X : List (List Nat)} {D : List Nat} (h : Vp n X D) : ∀ j, j < X.length → (ro (X.map nL) j).length = n ∧ dayE n ((X.map nL).take j) (ro (X.map nL) j) (ro (X.map nL) j).length 0 = 0 := by
 induction h with
 | nil => intro j hj; simp at hj
 | snoc X D x h hx hf ih =>
  intro j hj
  rw [List.map_append, List.map_singleton]
  by_cases e : j < X.length
  ·have e1 : ro (X.map nL ++ [nL x]) j = ro (X.map nL) j := by
    unfold ro; rw [List.getD, List.getElem?_append_left (by simpa using e)]; rfl
   rw [e1, List.take_append_of_le_length (by simp; omega)]
   exact ih j e
  ·have ej : j = (X.map nL).length := by simp at hj ⊢; omega
   have e1 : ro (X.map nL ++ [nL x]) j = nL x := by subst ej; simp [ro]
   have hl := (ext_get hx).1
   have hlt := ext_lt (fun s hs => absurd hs (by simp)) hx
   simp at hl
   rw [e1, List.take_append_of_le_length (by omega), ej, List.take_length, nL_len]
   refine ⟨hl, dayE_mk fun k _ hk => ?_⟩
   have hk' : k < x.length := by omega
   have hd := ext_dis n (by omega) x hx k (by omega)
   have hm := hlt _ (gn_mem hk')
   rw [nL_en hk']
   refine ⟨by omega, by omega, ?_, fitB_get hf k (by omega) (by omega)⟩
   rw [show (nL x).take k = nL (x.take k) by simp [nL], mem_nL]
   exact hd
theorem vp_chk {n : Nat} (hn1 : 1 ≤ n) (hn : n ≤ 5) {X : List (List Nat)} {D : List Nat} (h : Vp n X D) (hX : X.length ≤ n) : chkE n n (X.map nL) = 0 := by
 unfold chkE
 rw [if_neg (by omega), if_neg (by omega), if_neg (by simp; omega)]
 exact rowE_mk fun j _ hj => vp_rows hn h j (by simpa using hj)
theorem vp_len {n : Nat} {X : List (List Nat)} {D : List Nat} (h : Vp n X D) : ∀ q ∈ X.map nL, q.length = n := by
 induction h with
 | nil => intro q hq; simp at hq
 | snoc X D x h hx hf ih =>
  intro q hq
  rw [List.map_append, List.mem_append] at hq
  rcases hq with hq | hq
  ·exact ih q hq
  ·simp at hq; subst hq
   rw [nL_len]; simpa using (ext_get hx).1
theorem fac_pos : ∀ n : Nat, 1 ≤ fac n
 | 0 => Nat.le_refl 1
 | n + 1 => by rw [fac]; exact Nat.le_trans (fac_pos n) (Nat.le_mul_of_pos_left _ (by omega))
theorem getA7_t {α : Type} {a b c d e f g : PV} {k : PV → PV → PV → PV → PV → PV → PV → Option α} : getA7 (.agg [a, b, c, d, e, f, g]) k = k a b c d e f g := rfl
theorem wr9 : ∀ n : Nat, n < 6 → ∀ b : Nat, b < 256 → Int.tmod (IntKind.i64.wrap (b : Int)) (IntKind.i64.wrap ((n : Int) + 1)) = ((b % (n + 1) : Nat) : Int) := by decide +kernel
theorem wr0 {b m : Nat} (hb : b < 256) : Int.tmod (IntKind.i64.wrap (b : Int)) (m : Int) = ((b % m : Nat) : Int) := by
 have : IntKind.i64.wrap (b : Int) = (b : Int) := by
  cases b with
  | zero => decide
  | succ b => exact wrapN (by omega)
 rw [this]; rfl
def u8s (l : List Nat) : List PV := l.map fun (x : Nat) => PV.int .u8 (x : Int)
theorem u8_gp {l : List Nat} {i : Nat} (h : i < l.length) : gp (u8s l) i = .int .u8 (gn l i : Int) := by simp [u8s, gp, gn, List.getD, h]
theorem plan_L2 (N n : Nat) (hn : n ≤ 5) (L : List (List Int)) (hL : L.length ≤ 1000) (hl : ∀ i, i < L.length → (ro L i).length = n) (i : Nat) (hi : i < L.length) (y : Int) (c : List PV) (m : Nat) (k : Nat) (hk : k < n) (s : Int) (h : metB (L.take i) k s = false) : ∀ (f j fuel : Nat), i - j = f → f < fuel → j ≤ i →
  m40_L2 N y L.length (rwsP L) (i : Int) m c (k : Int) s fuel (j : Int) = some (.inr ())
 | f, j, 0, _, _, _ => by omega
 | f, j, fuel + 1, hf, hfu, hj => by
  rw [m40_L2, toNatN]
  by_cases g : j < i
  ·have hq := hl j (by omega)
   have e : (en (ro L j) k == s) = false := by
    unfold metB at h
    rw [List.any_eq_false] at h
    have := h (ro L j) (by
     have : ro L j = ro (L.take i) j := by unfold ro; rw [List.getD, List.getD, List.getElem?_take_of_lt g]
     rw [this]; exact ro_mem (by rw [List.length_take]; omega))
    rw [decide_eq_true (show k < (ro L j).length by omega), Bool.true_and] at this
    simpa using this
   rw [brn_dt (by omega), grd_t ⟨by omega, by omega⟩, toNatN, grd_t ⟨by rw [List.length_drop, List.length_take, rws_len]; omega, by omega⟩, rws_gp (by omega), getL_t, grd_t (by omega), toNatN, grd_t (by rw [List.length_drop, iL_len]; omega), iL_gp (by omega), getI_t, brn_f e, wrapN (by omega)]
   exact plan_L2 N n hn L hL hl i hi y c m k hk s h (f - 1) (j + 1) fuel (by omega) (by omega) (by omega)
  ·rw [brn_df (by omega)]
theorem plan_L1 (N n : Nat) (hN : 5000 ≤ N) (hn : n ≤ 5) (L : List (List Int)) (hL : L.length ≤ 1000) (hl : ∀ i, i < L.length → (ro L i).length = n) (i : Nat) (hi : i < L.length) (h : ∀ k, k < n → 0 ≤ en (ro L i) k ∧ en (ro L i) k < n ∧ en (ro L i) k ∉ (ro L i).take k ∧ metB (L.take i) k (en (ro L i) k) = false) : ∀ (f k fuel : Nat), n - k = f → f < fuel → k ≤ n →
  m40_L1 N (n : Int) L.length (rwsP L) (i : Int) n (iL (ro L i)) fuel (k : Int) = some (.inr ())
 | f, k, 0, _, _, _ => by omega
 | f, k, fuel + 1, hf, hfu, hk => by
  rw [m40_L1]
  by_cases g : k < n
  ·obtain ⟨e1, e2, e3, e4⟩ := h k g
   have h1 := hl i hi
   have ec := cont_ok N (by omega) (en (ro L i) k) ((ro L i).take k) (by rw [List.length_take]; omega)
   unfold rwP at ec
   rw [decide_eq_false e3, List.length_take, show min k (ro L i).length = k by omega, ← iL_take] at ec
   have e5 := plan_L2 N n hn L hL hl i hi (n : Int) (iL (ro L i)) n k g (en (ro L i) k) e4 i 0 N (by omega) (by omega) (by omega)
   rw [brn_dt (by omega), grd_t ⟨by omega, by omega⟩, toNatN, grd_t (by rw [List.length_drop, iL_len]; omega), iL_gp (by omega), getI_t, brn_df (by omega), brn_df (by omega), grd_t (by omega), grd_t (by rw [iL_len]; omega), ec, bnd_t, getB_t, brn_f rfl, grd_t (by omega), grd_t (rws_len L), show m40_L2 N (n : Int) L.length (rwsP L) (i : Int) n (iL (ro L i)) (k : Int) (en (ro L i) k) N 0 = _ from e5, bnd_t]
   dsimp only
   rw [wrapN (by omega)]
   exact plan_L1 N n hN hn L hL hl i hi h (f - 1) (k + 1) fuel (by omega) (by omega) (by omega)
  ·rw [brn_df (by omega)]
theorem plan_L0 (N n : Nat) (hN : 5000 ≤ N) (hn : n ≤ 5) (L : List (List Int)) (hL : L.length ≤ n) (h : ∀ j, j < L.length → (ro L j).length = n ∧ dayE n (L.take j) (ro L j) (ro L j).length 0 = 0) : ∀ (f i fuel : Nat), L.length - i = f → f < fuel → i ≤ L.length →
  m40_L0 N (n : Int) L.length (rwsP L) fuel (i : Int) = some (.inr ())
 | f, i, 0, _, _, _ => by omega
 | f, i, fuel + 1, hf, hfu, hi => by
  rw [m40_L0]
  by_cases g : i < L.length
  ·obtain ⟨e1, e2⟩ := h i g
   have e3 := plan_L1 N n hN hn L (by omega) (fun j hj => (h j hj).1) i g (fun k hk => dayE_zero e2 k (by omega) (by omega)) n 0 N (by omega) (by omega) (by omega)
   rw [brn_dt (by omega), grd_t ⟨by omega, by omega⟩, toNatN, grd_t (by rw [List.length_drop, rws_len]; omega), rws_gp g, getL_t, e1, brn_nf rfl, show m40_L1 N (n : Int) L.length (rwsP L) (i : Int) n (iL (ro L i)) N 0 = _ from e3, bnd_t]
   dsimp only
   rw [wrapN (by omega)]
   exact plan_L0 N n hN hn L hL h (f - 1) (i + 1) fuel (by omega) (by omega) (by omega)
  ·rw [brn_df (by omega)]
theorem planned_ok (N : Nat) (hN : 5000 ≤ N) (n : Nat) (hn : n ≤ 5) (L : List (List Int)) (hL : L.length ≤ n) (h : ∀ j, j < L.length → (ro L j).length = n ∧ dayE n (L.take j) (ro L j) (ro L j).length 0 = 0) : m40 N (n : Int) (.lst false L.length (rwsP L)) = some (.bool true) := by
 have e := plan_L0 N n hN hn L hL h L.length 0 N (by omega) (by omega) (by omega)
 rw [m40, getL_t, brn_df (by omega), show m40_L0 N (n : Int) L.length (rwsP L) N 0 = _ from e, bnd_t]
def inv (n : Nat) (x : List Nat) : List Nat := (List.range n).map fun s => x.idxOf s
theorem inv_at : ∀ n : Nat, n < 6 → ∀ x ∈ ext n n [], ∀ d : Nat, d < n → gn (inv n x) (gn x d) = d ∧ gn x (gn (inv n x) d) = d ∧ gn (inv n x) d < n := by decide +kernel
theorem met_nL (X : List (List Nat)) (k s : Nat) : metB (X.map nL) k (s : Nat) = X.any fun q => decide (k < q.length) && (gn q k == s) := by
 induction X with
 | nil => rfl
 | cons q X ih =>
  unfold metB at ih ⊢
  rw [List.map_cons, List.any_cons, ih, List.any_cons, nL_len]
  congr 1
  by_cases h : k < q.length
  ·rw [nL_en h]
   congr 1
   by_cases g : gn q k = s
   ·rw [g]; simp
   ·rw [beq_eq_false_iff_ne.2 g, beq_eq_false_iff_ne.2 (by omega)]
  ·rw [decide_eq_false h]; rfl
theorem fit_iff {n : Nat} {X : List (List Nat)} (hX : ∀ q ∈ X, q.length = n) (x : List Nat) : fitB (X.map nL) x n 0 = true ↔ ∀ q ∈ X, ∀ j, j < n → gn q j ≠ gn x j := by
 constructor
 ·intro h q hq j hj e
  have h1 := fitB_get h j (by omega) (by omega)
  rw [met_nL, List.any_eq_false] at h1
  exact h1 q hq (by rw [decide_eq_true (show j < q.length by rw [hX q hq]; exact hj), e]; simp)
 ·intro h
  refine fitB_mk fun j _ hj => ?_
  rw [met_nL, List.any_eq_false]
  intro q hq hh
  have hh' : j < q.length ∧ gn q j = gn x j := by simpa using hh
  exact h q hq j (by omega) hh'.2
theorem ext_len {n : Nat} {x : List Nat} (h : x ∈ ext n n []) : x.length = n := by simpa using (ext_get h).1
theorem vp_mem {n : Nat} {X : List (List Nat)} {D : List Nat} (h : Vp n X D) : ∀ q ∈ X, q ∈ ext n n [] := by
 induction h with
 | nil => intro q hq; simp at hq
 | snoc X D x h hx hf ih =>
  intro q hq
  rcases List.mem_append.1 hq with hq | hq
  ·exact ih q hq
  ·simp at hq; subst hq; exact hx
theorem nd_lt {to i n : Nat} (h : i < to) : (to - (i + 1)) * (n + 1) + n < (to - i) * (n + 1) := by
 obtain ⟨a, rfl⟩ : ∃ a, to = i + 1 + a := ⟨to - (i + 1), by omega⟩
 rw [show i + 1 + a - (i + 1) = a by omega, show i + 1 + a - i = a + 1 by omega, Nat.add_mul, Nat.one_mul]; omega
theorem cmpl_fuel (n to : Nat) : ∀ (f f' i k : Nat) (T : T3), (to - i) * (n + 1) + (n - k) < f → (to - i) * (n + 1) + (n - k) < f' → i ≤ to → k ≤ n → cmpl n to f i k T = cmpl n to f' i k T
 | 0, _, _, _, _, h, _, _, _ => by omega
 | _ + 1, 0, _, _, _, _, h, _, _ => by omega
 | f + 1, f' + 1, i, k, T, h, h', hi, hk => by
  rw [cmpl, cmpl]
  by_cases e : i = to
  ·rw [if_pos e, if_pos e]
  ·have hh := nd_lt (n := n) (show i < to by omega)
   rw [if_neg e, if_neg e]
   by_cases e2 : k = n
   ·rw [if_pos e2, if_pos e2, cmpl_fuel n to f f' (i + 1) 0 T (by omega) (by omega) (by omega) (by omega)]
   ·rw [if_neg e2, if_neg e2, cmpl_fuel n to f f' i (k + 1) T (by omega) (by omega) hi (by omega)]
    by_cases e3 : 0 ≤ en T.1 (i * 5 + k)
    ·rw [if_pos e3, if_pos e3]
    ·rw [if_neg e3, if_neg e3]
     exact fm_congr fun s _ => cmpl_fuel n to f f' i (k + 1) _ (by omega) (by omega) hi (by omega)
theorem cmpl_in {n to f i k : Nat} {T : T3} (h1 : i ≠ to) (h2 : k ≠ n) : cmpl n to (f + 1) i k T = if 0 ≤ en T.1 (i * 5 + k) then cmpl n to f i (k + 1) T else (bits (mayB n (bn T.2.1 i) (bn T.2.2 k))).flatMap fun s => cmpl n to f i (k + 1) (putT T i k s) := by
 rw [cmpl, if_neg h1, if_neg h2]
theorem cmpl_split (n p : Nat) (hp : p < n) : ∀ (f k : Nat) (T : T3), k + f = n → ∀ F F' G, (n - p) * (n + 1) + (n - k) < F → (p + 1 - p) * (n + 1) + (n - k) < F' → (n - (p + 1)) * (n + 1) + n < G →
  cmpl n n F p k T = (cmpl n (p + 1) F' p k T).flatMap fun T' => cmpl n n G (p + 1) 0 T'
 | 0, k, T, hk, F, F', G, hF, hF', hG => by
  obtain ⟨F, rfl⟩ : ∃ x, F = x + 1 := ⟨F - 1, by omega⟩
  obtain ⟨F', rfl⟩ : ∃ x, F' = x + 2 := ⟨F' - 2, by rw [show p + 1 - p = 1 by omega] at hF'; omega⟩
  have hh := nd_lt (n := n) hp
  rw [cmpl, if_neg (by omega), if_pos (by omega), cmpl, if_neg (by omega), if_pos (by omega), cmpl, if_pos rfl, List.flatMap_singleton]
  exact cmpl_fuel n n F G (p + 1) 0 T (by omega) (by omega) (by omega) (by omega)
 | f + 1, k, T, hk, F, F', G, hF, hF', hG => by
  obtain ⟨F, rfl⟩ : ∃ x, F = x + 1 := ⟨F - 1, by omega⟩
  obtain ⟨F', rfl⟩ : ∃ x, F' = x + 1 := ⟨F' - 1, by omega⟩
  have ih := fun T => cmpl_split n p hp f (k + 1) T (by omega) F F' G (by omega) (by omega) hG
  rw [cmpl_in (by omega) (by omega), cmpl_in (by omega) (by omega)]
  by_cases e3 : 0 ≤ en T.1 (p * 5 + k)
  ·rw [if_pos e3, if_pos e3, ih]
  ·rw [if_neg e3, if_neg e3, List.flatMap_assoc]
   exact fm_congr fun s _ => ih _
theorem row_mem (n : Nat) (hn : n ≤ 5) (P : List (List Int)) (p : Nat) (hp : p < n) (hP : P.length = p) : ∀ (f : Nat) (l : List Nat) (T : T3) (F : Nat), l.length + f = n → Rp P p (nL l) l.length T → f + 2 ≤ F → ∀ T' ∈ cmpl n (p + 1) F p l.length T, ∃ x : List Nat, x.length = n ∧ rowOf n p T' = nL x ∧ ∀ r', Rp (P ++ [nL x]) (p + 1) r' 0 T'
 | 0, l, T, F, hl, hT, hF => by
  obtain ⟨F, rfl⟩ : ∃ G, F = G + 2 := ⟨F - 2, by omega⟩
  rw [cmpl, if_neg (by omega), if_pos (by omega), cmpl, if_pos rfl]
  intro T' hm
  obtain rfl := List.mem_singleton.1 hm
  have h2 := hT
  rw [show l.length = (nL l).length from (nL_len l).symm] at h2
  refine ⟨l, by omega, ?_, fun r' => h2.next hP (by rw [nL_len]; omega) r'⟩
  exact rowOf_eq hn (by omega) hT.tv (by rw [nL_len]; omega) fun d hd => by
   rw [hT.a p d (by omega) (by omega), if_neg (by omega), if_pos ⟨rfl, by omega⟩]
 | f + 1, l, T, F, hl, hT, hF => by
  obtain ⟨F, rfl⟩ : ∃ G, F = G + 1 := ⟨F - 1, by omega⟩
  have ha : en T.1 (p * 5 + l.length) = -1 := by
   rw [hT.a p l.length (by omega) (by omega), if_neg (by omega), if_neg (by omega)]
  rw [cmpl, if_neg (by omega), if_neg (by omega), if_neg (by omega)]
  intro T' hm
  obtain ⟨s, hs, hm⟩ := List.mem_flatMap.1 hm
  have h5 := (mem_bits.1 hs).1
  have hl1 : (l ++ [s]).length = l.length + 1 := by simp
  have hR : Rp P p (nL (l ++ [s])) l.length T := hT.congr (by rw [show nL (l ++ [s]) = nL l ++ [(s : Int)] by simp [nL], List.take_append_of_le_length (by rw [nL_len]; omega)]) fun d hd => by rw [nL_en hd, nL_en (by omega), gn_app1 hd]
  have hR2 := hR.put (by omega) (by omega) (by rw [nL_len]; omega) h5 (by rw [nL_en (by omega), gn_app2])
  rw [← hl1] at hR2 hm
  exact row_mem n hn P p hp hP f (l ++ [s]) _ F (by omega) hR2 (by omega) T' hm
def gre (n : Nat) : Nat → List (List Nat) → List (List Nat)
 | 0, X => X
 | m + 1, X => gre n m (X ++ [(fitn n (X.map nL)).headD []])
theorem gre_len (n : Nat) : ∀ (m : Nat) (X : List (List Nat)), (gre n m X).length = X.length + m
 | 0, X => rfl
 | m + 1, X => by rw [gre, gre_len n m]; simp; omega
theorem vp_head {n : Nat} (hn1 : 1 ≤ n) (hn : n ≤ 5) {X : List (List Nat)} {D : List Nat} (h : Vp n X D) (hX : X.length < n) : ∃ y l, fitn n (X.map nL) = y :: l ∧ Vp n (X ++ [y]) (stp D y) ∧ y.length = n := by
 obtain ⟨y, l, e⟩ := fit_cons hn (vp_chk hn1 hn h (by omega)) (by simpa using hX)
 have hm : y ∈ fitn n (X.map nL) := by rw [e]; exact .head _
 obtain ⟨h1, h2⟩ := List.mem_filter.1 hm
 exact ⟨y, l, e, .snoc X D y h h1 h2, by simpa using (ext_get h1).1⟩
theorem gre_vp {n : Nat} (hn1 : 1 ≤ n) (hn : n ≤ 5) : ∀ (m : Nat) {X : List (List Nat)} {D : List Nat}, Vp n X D → X.length + m = n → ∃ D', Vp n (gre n m X) D'
 | 0, X, D, h, _ => ⟨D, h⟩
 | m + 1, X, D, h, hm => by
  obtain ⟨y, l, e, h2, _⟩ := vp_head hn1 hn h (by omega)
  rw [gre, e]
  exact gre_vp hn1 hn m h2 (by simp; omega)
theorem full_hd {n : Nat} (hn1 : 1 ≤ n) (hn : n ≤ 5) : ∀ (m : Nat) (X : List (List Nat)) (D : List Nat) (T : T3), Vp n X D → X.length + m = n → (∀ r', Rp (X.map nL) X.length r' 0 T) → ∀ F, (n - X.length) * (n + 1) + n < F →
  ∃ T1 l, cmpl n n F X.length 0 T = T1 :: l ∧ ∀ r', Rp ((gre n m X).map nL) n r' 0 T1
 | 0, X, D, T, h, hm, hT, F, hF => by
  obtain ⟨F, rfl⟩ : ∃ x, F = x + 1 := ⟨F - 1, by omega⟩
  rw [cmpl, if_pos (by omega)]
  exact ⟨T, [], rfl, by rw [show X.length = n by omega] at hT; exact hT⟩
 | m + 1, X, D, T, h, hm, hT, F, hF => by
  obtain ⟨y, l, e, h2, hy⟩ := vp_head hn1 hn h (by omega)
  have hl : (X.map nL).length = X.length := List.length_map ..
  have hr := row_fit hn (L := X.map nL) (by omega) (T := T) (by rw [hl]; exact hT) (n + n + 4) (by omega)
  rw [hl, e] at hr
  cases ec : cmpl n (X.length + 1) (n + n + 4) X.length 0 T with
  | nil => rw [ec] at hr; simp at hr
  | cons T' R =>
   rw [ec] at hr
   have hr1 : rowOf n X.length T' = nL y := by
    simp only [List.map_cons, List.cons.injEq] at hr; exact hr.1
   obtain ⟨x, x1, x2, x3⟩ := row_mem n hn (X.map nL) X.length (by omega) hl n [] T (n + n + 4) (by simp) (hT _) (by omega) T' (by rw [show ([] : List Nat).length = 0 from rfl, ec]; exact .head _)
   rw [← x2, hr1] at x3
   rw [gre, e]
   have hl1 : (X ++ [y]).length = X.length + 1 := by simp
   obtain ⟨T1, l1, g1, g2⟩ := full_hd hn1 hn m (X ++ [y]) _ T' h2 (by omega) (by rw [hl1, List.map_append, List.map_singleton]; exact x3) ((n - (X.length + 1)) * (n + 1) + n + 1) (by rw [hl1]; omega)
   rw [hl1] at g1
   rw [cmpl_split n X.length (by omega) n 0 T (by omega) F (n + n + 4) ((n - (X.length + 1)) * (n + 1) + n + 1) (by omega) (by rw [show X.length + 1 - X.length = 1 by omega]; omega) (by omega), ec, List.flatMap_cons, g1]
   exact ⟨T1, _, rfl, g2⟩
theorem full_rows {n : Nat} (hn : n ≤ 5) {L : List (List Int)} (hL : L.length = n) (hl : ∀ q ∈ L, q.length = n) {T : T3} (hT : ∀ r', Rp L n r' 0 T) : rowsE n T.1 = L := by
 have h := hT []
 unfold rowsE
 refine List.ext_getElem (by simp [hL]) fun i h1 h2 => ?_
 have hi : i < n := by simpa using h1
 have e : L[i] = ro L i := by simp [ro, List.getD, h2]
 rw [List.getElem_map, List.getElem_range, e]
 have hq := hl _ (ro_mem h2)
 exact rowOf_eq hn (by omega) h.tv hq fun d hd => by
  rw [h.a i d (by omega) (by omega), if_pos hi, if_pos (by omega)]
structure Rq (P : List (List Int)) (i : Nat) (r : List Int) (k : Nat) (T : T3) : Prop extends Rp P i r k T where
 bp : ∀ j s, j < i → j < 5 → s < 5 → ((bn T.2.1 j).testBit s = true ↔ (s : Int) ∈ ro P j)
theorem Rq.putq {P : List (List Int)} {i : Nat} {r : List Int} {k : Nat} {T : T3} (h : Rq P i r k T) (hi : i < 5) (hk : k < 5) (hr : k < r.length) {s : Nat} (hs : s < 5) (he : en r k = (s : Int)) : Rq P i r (k + 1) (putT T i k s) := by
 have lb := h.tv.tb.lb
 refine ⟨h.toRp.put hi hk hr hs he, fun j t hj h5 ht => ?_⟩
 show (bn (T.2.1.set i (bn T.2.1 i ||| 2 ^ s)) j).testBit t = true ↔ _
 rw [bn_set (by omega), if_neg (by omega)]; exact h.bp j t hj h5 ht
theorem Rq.nextq {P : List (List Int)} {i : Nat} {r : List Int} {T : T3} (h : Rq P i r r.length T) (hi : P.length = i) (hr : r.length ≤ 5) (r' : List Int) : Rq (P ++ [r]) (i + 1) r' 0 T := by
 refine ⟨h.toRp.next hi hr r', fun j s hj h5 hs => ?_⟩
 by_cases e : j = i
 ·have e1 : ro (P ++ [r]) j = r := by subst e; rw [← hi]; simp [ro, List.getD]
  rw [e1, e, h.b s hs, List.take_length]
 ·have e1 : ro (P ++ [r]) j = ro P j := by simp [ro, List.getD, List.getElem?_append_left (show j < P.length by omega)]
  rw [e1]; exact h.bp j s (by omega) h5 hs
theorem open3_L1 (N n : Nat) (hn : n ≤ 5) (w : Int) (L : List (List Int)) (P : List (List Int)) (r : List Int) (i : Nat) (hi : i < 5) (hr : r.length ≤ 5) : ∀ (f k fuel : Nat) (T : T3), r.length - k = f → f < fuel → k ≤ r.length → Rq P i r k T →
  ∃ T', m61_L1 N (n : Int) w L.length (rwsP L) (i : Int) r.length (iL r) fuel (k : Int) (tP n T) = some (outR n (dayE n P r f k) T') ∧ (dayE n P r f k = 0 → Rq P i r r.length T')
 | f, k, 0, _, _, h, _, _ => by omega
 | 0, k, fuel + 1, T, hf, _, hk, hT => by
  have : k = r.length := by omega
  subst this
  refine ⟨T, ?_, fun _ => hT⟩
  rw [m61_L1, brn_df (by omega)]; rfl
 | f + 1, k, fuel + 1, T, hf, hfu, hk, hT => by
  have hl := tbl_len (n := n) hT.tv.tb
  have h1 : k < r.length := by omega
  rw [m61_L1, brn_dt (by omega), dayE]
  rw [grd_t (p := 0 ≤ (k : Int) ∧ (k : Int) < ((r.length : Nat) : Int)) ⟨by omega, by omega⟩, grd_t (p := 0 < List.length (List.drop (Int.toNat (k : Int)) (iL r))) (by rw [List.length_drop, iL_len, toNatN]; omega), gI_n h1]
  by_cases h2 : en r k < 0
  ·rw [brn_dt h2, if_pos h2]; exact ⟨T, rfl, fun h => by cases h⟩
  ·rw [brn_df h2, if_neg h2]
   by_cases h3 : (n : Int) ≤ en r k
   ·rw [brn_dt (by omega), if_pos h3]; exact ⟨T, rfl, fun h => by cases h⟩
   ·obtain ⟨s, hs⟩ : ∃ s : Nat, en r k = (s : Int) := ⟨(en r k).toNat, by omega⟩
    have s5 : s < 5 := by omega
    rw [brn_df (by omega), if_neg h3, hs, toNatN, toNatN, toNatN, grd_t (by omega), grd_t (by unfold tP; omega)]
    rw [show gp (tP n T) (26 + i) = .int .u64 (bn T.2.1 i : Int) from gp_b hT.tv.tb hi, getU_t, grd_t (by omega), b_tst _ (hT.tv.tb.b32 i hi) s s5]
    by_cases h4 : (s : Int) ∈ r.take k
    ·rw [brn_t ((hT.b s s5).2 h4), if_pos h4]; exact ⟨T, rfl, fun h => by cases h⟩
    ·rw [brn_f (by rw [Bool.eq_false_iff]; intro h; exact h4 ((hT.b s s5).1 h)), if_neg h4, grd_t (by omega), grd_t (by unfold tP; omega)]
     rw [show gp (tP n T) (31 + k) = .int .u64 (bn T.2.2 k : Int) from gp_d hT.tv.tb (by omega), getU_t, b_tst _ (hT.tv.tb.d32 k (by omega)) s s5]
     have hd : (bn T.2.2 k).testBit s = P.any (fun q => decide (k < q.length) && (en q k == (s : Int))) := by
      rw [Bool.eq_iff_iff, hT.d k s (by omega) s5, List.any_eq_true]
      constructor
      ·rintro (⟨q, hq, h5, h6⟩ | h5)
       ·exact ⟨q, hq, by simp [h5, h6]⟩
       ·omega
      ·rintro ⟨q, hq, h5⟩
       simp only [Bool.and_eq_true, decide_eq_true_eq, beq_iff_eq] at h5
       exact .inl ⟨q, hq, h5⟩
     rw [hd]
     cases h5 : P.any (fun q => decide (k < q.length) && (en q k == (s : Int))) with
     | true => rw [brn_t rfl, if_pos rfl]; exact ⟨T, rfl, fun h => by cases h⟩
     | false =>
      rw [brn_f rfl, if_neg (by simp)]
      obtain ⟨T', e1, e2⟩ := open3_L1 N n hn w L P r i hi hr f (k + 1) fuel (putT T i k s) (by omega) (by omega) (by omega) (hT.putq hi (by omega) h1 s5 hs)
      refine ⟨T', ?_, e2⟩
      rw [show m72 N (i : Int) (k : Int) (s : Int) (tP n T) = _ from put_ok N n hT.tv.tb hi (by omega) s5, bnd_t]
      show getT0 (.tup []) _ = _
      rw [getT0_t, wrapN (by omega)]
      exact e1
theorem open3_L0 (N n : Nat) (hN : 2000 ≤ N) (hn : n ≤ 5) (w : Int) (L : List (List Int)) (hL : L.length ≤ n) (hr20 : ∀ r ∈ L, r.length ≤ 1000) : ∀ (f i fuel : Nat) (T : T3), L.length - i = f → f < fuel → i ≤ L.length → (∀ r', Rq (L.take i) i r' 0 T) →
  ∃ T', m61_L0 N (n : Int) w L.length (rwsP L) fuel (i : Int) (tP n T) = some (outR n (rowE n w L f i) T') ∧ (rowE n w L f i = 0 → ∀ r', Rq L L.length r' 0 T')
 | f, i, 0, _, _, h, _, _ => by omega
 | 0, i, fuel + 1, T, hf, _, hi, hT => by
  have : i = L.length := by omega
  subst this
  refine ⟨T, ?_, fun _ r' => by have := hT r'; rwa [List.take_length] at this⟩
  rw [m61_L0, brn_df (by omega)]; rfl
 | f + 1, i, fuel + 1, T, hf, hfu, hi, hT => by
  have h1 : i < L.length := by omega
  have hrl := hr20 _ (ro_mem h1)
  rw [m61_L0, brn_dt (by omega), rowE]
  simp (disch := (try simp only [List.length_drop, iL_len, rws_len, toNatN]) <;> omega) only [↓grd_t, ↓gL_n]
  by_cases h2 : ((ro L i).length : Int) = w
  ·rw [brn_nf h2, if_neg (by simpa using h2)]
   by_cases h3 : (n : Int) < w
   ·rw [brn_dt (by omega), if_pos h3]; exact ⟨T, rfl, fun h => by cases h⟩
   ·rw [brn_df (by omega), if_neg h3]
    obtain ⟨T', e1, e2⟩ := open3_L1 N n hn w L (L.take i) (ro L i) i (by omega) (by omega) (ro L i).length 0 N T (by omega) (by omega) (by omega) (hT _)
    rw [show m61_L1 N (n : Int) w L.length (rwsP L) (i : Int) (ro L i).length (iL (ro L i)) N 0 (tP n T) = _ from e1, bnd_t]
    by_cases h4 : dayE n (L.take i) (ro L i) (ro L i).length 0 = 0
    ·rw [if_neg (by simpa using h4), wrapN (by omega)]
     unfold outR
     rw [if_pos h4]
     have h5 := (e2 h4).nextq (by rw [List.length_take]; omega) (by omega)
     rw [← take_ro h1] at h5
     exact open3_L0 N n hN hn w L hL hr20 f (i + 1) fuel T' (by omega) (by omega) (by omega) h5
    ·unfold outR
     simp only [if_neg h4, if_pos (show dayE (n : Int) (L.take i) (ro L i) (ro L i).length 0 ≠ 0 from h4)]
     exact ⟨T, by trivial, fun h => absurd h h4⟩
  ·rw [brn_nt h2, if_pos h2]; exact ⟨T, rfl, fun h => by cases h⟩
theorem opened3_ok (N : Nat) (hN : 2000 ≤ N) (x w : Int) (L : List (List Int)) (hL : L.length ≤ 1000) (hr : ∀ r ∈ L, r.length ≤ 1000) :
  ∃ T, m61 N x (.lst false L.length (rwsP L)) w = some (opE x.toNat (chkE x w L) T) ∧ (chkE x w L = 0 → ∀ r', Rq L L.length r' 0 T) := by
 rw [m61, getL_t]
 unfold chkE
 by_cases h1 : x < 1
 ·rw [brn_dt h1, if_pos h1]; exact ⟨T0, rfl, fun h => by cases h⟩
 ·rw [brn_df h1, if_neg h1]
  by_cases h2 : 5 < x
  ·rw [brn_dt (by omega), if_pos h2]; exact ⟨T0, rfl, fun h => by cases h⟩
  ·rw [brn_df (by omega), if_neg h2]
   by_cases h3 : x < (L.length : Int)
   ·rw [brn_dt (by omega), if_pos h3]; exact ⟨T0, rfl, fun h => by cases h⟩
   ·obtain ⟨n, rfl⟩ : ∃ n : Nat, x = (n : Int) := ⟨x.toNat, by omega⟩
    rw [brn_df (by omega), if_neg h3, begun_ok N n hN, bnd_t]
    obtain ⟨T, e1, e2⟩ := open3_L0 N n hN (by omega) w L (by omega) hr L.length 0 N T0 (by omega) (by omega) (by omega) (fun r' => by rw [List.take_zero]; exact ⟨T0_rp r', fun j s hj => by omega⟩)
    refine ⟨T, ?_, e2⟩
    show bnd' (m61_L0 N (n : Int) w L.length (rwsP L) N 0 (tP n T0)) _ = _
    rw [show m61_L0 N (n : Int) w L.length (rwsP L) N 0 (tP n T0) = _ from e1, bnd_t, toNatN]
    unfold outR opE
    by_cases h4 : rowE (n : Int) w L L.length 0 = 0
    ·simp only [if_pos h4]
    ·simp only [if_neg h4]
structure Rc (P : List (List Int)) (i : Nat) (r : List Int) (k : Nat) (Q : List (List Int)) (T : T3) : Prop where
 tv : Tv T
 b : ∀ s, s < 5 → ((bn T.2.1 i).testBit s = true ↔ (s : Int) ∈ r.take k)
 bq : ∀ j s, j < 5 → i < j → s < 5 → ((bn T.2.1 j).testBit s = true ↔ (s : Int) ∈ ro Q (j - (i + 1)))
 d : ∀ d s, d < 5 → s < 5 → ((bn T.2.2 d).testBit s = true ↔ (∃ q ∈ P ++ Q, d < q.length ∧ en q d = (s : Int)) ∨ (d < k ∧ en r d = (s : Int)))
 ap : ∀ j d, j < i → j < 5 → d < 5 → en T.1 (j * 5 + d) = if d < (ro P j).length then en (ro P j) d else -1
 ai : ∀ d, i < 5 → d < 5 → en T.1 (i * 5 + d) = if d < k then en r d else -1
 aq : ∀ j d, i < j → j < 5 → d < 5 → en T.1 (j * 5 + d) = if d < (ro Q (j - (i + 1))).length then en (ro Q (j - (i + 1))) d else -1
theorem Rc.put {P Q : List (List Int)} {i : Nat} {r : List Int} {k : Nat} {T : T3} (h : Rc P i r k Q T) (hi : i < 5) (hk : k < 5) (hr : k < r.length) {s : Nat} (hs : s < 5) (he : en r k = (s : Int)) : Rc P i r (k + 1) Q (putT T i k s) := by
 have la := h.tv.tb.la; have lb := h.tv.tb.lb; have ld := h.tv.tb.ld
 have hset : ∀ j d, d < 5 → j * 5 + d ≠ i * 5 + k → en (putT T i k s).1 (j * 5 + d) = en T.1 (j * 5 + d) := fun j d hd hx => by
  show en (T.1.set (i * 5 + k) (s : Int)) (j * 5 + d) = _
  rw [en_set (by omega), if_neg hx]
 refine ⟨h.tv.put hi hk hs, fun t ht => ?_, fun j t h5 hj ht => ?_, fun d t hd ht => ?_, fun j d hj h5 hd => ?_, fun d h5 hd => ?_, fun j d hj h5 hd => ?_⟩
 ·show (bn (T.2.1.set i (bn T.2.1 i ||| 2 ^ s)) i).testBit t = true ↔ _
  rw [bn_set (by omega), if_pos rfl, tst_or _ (h.tv.tb.b32 i hi) s hs t ht, Bool.or_eq_true, h.b t ht, decide_eq_true_eq, take_en hr, List.mem_append, List.mem_singleton, he]
  constructor
  ·rintro (h1 | rfl)
   ·exact .inl h1
   ·exact .inr rfl
  ·rintro (h1 | h1)
   ·exact .inl h1
   ·exact .inr (by omega)
 ·show (bn (T.2.1.set i (bn T.2.1 i ||| 2 ^ s)) j).testBit t = true ↔ _
  rw [bn_set (by omega), if_neg (by omega)]; exact h.bq j t h5 hj ht
 ·show (bn (T.2.2.set k (bn T.2.2 k ||| 2 ^ s)) d).testBit t = true ↔ _
  rw [bn_set (by omega)]
  by_cases hdk : d = k
  ·subst hdk
   rw [if_pos rfl, tst_or _ (h.tv.tb.d32 d hd) s hs t ht, Bool.or_eq_true, h.d d t hd ht, decide_eq_true_eq, he]
   constructor
   ·rintro ((h1 | h1) | rfl)
    ·exact .inl h1
    ·omega
    ·exact .inr ⟨by omega, rfl⟩
   ·rintro (h1 | h1)
    ·exact .inl (.inl h1)
    ·exact .inr (by omega)
  ·rw [if_neg hdk, h.d d t hd ht]
   constructor
   ·rintro (h1 | h1)
    ·exact .inl h1
    ·exact .inr ⟨by omega, h1.2⟩
   ·rintro (h1 | h1)
    ·exact .inl h1
    ·exact .inr ⟨by omega, h1.2⟩
 ·rw [hset j d hd (by omega)]; exact h.ap j d hj h5 hd
 ·by_cases e : d = k
  ·subst e
   show en (T.1.set (i * 5 + d) (s : Int)) (i * 5 + d) = _
   rw [en_set (by omega), if_pos rfl, if_pos (by omega), he]
  ·rw [hset i d hd (by omega), h.ai d h5 hd]
   by_cases h2 : d < k
   ·rw [if_pos h2, if_pos (by omega)]
   ·rw [if_neg h2, if_neg (by omega)]
 ·rw [hset j d hd (by omega)]; exact h.aq j d hj h5 hd
theorem ro_tail {Q : List (List Int)} {j : Nat} : ro Q.tail j = ro Q (j + 1) := by cases Q <;> simp [ro, List.getD]
theorem ro_nil {j : Nat} : ro [] j = [] := by simp [ro, List.getD]
theorem Rc.next {P Q : List (List Int)} {i : Nat} {r : List Int} {T : T3} (h : Rc P i r r.length Q T) (hi : P.length = i) (hQ : i + 1 + Q.length ≤ 5) : Rc (P ++ [r]) (i + 1) (ro Q 0) (ro Q 0).length Q.tail T := by
 refine ⟨h.tv, fun s hs => ?_, fun j s h5 hj hs => ?_, fun d s hd hs => ?_, fun j d hj h5 hd => ?_, fun d h5 hd => ?_, fun j d hj h5 hd => ?_⟩
 ·rw [List.take_length]
  by_cases h5 : i + 1 < 5
  ·rw [h.bq (i + 1) s h5 (by omega) hs, Nat.sub_self]
  ·have : bn T.2.1 (i + 1) = 0 := by
    have := h.tv.tb.lb
    unfold bn; rw [List.getD, List.getElem?_eq_none (by omega)]; rfl
   have hq : Q = [] := List.eq_nil_of_length_eq_zero (by omega)
   rw [this, hq, ro_nil]; simp
 ·rw [h.bq j s h5 (by omega) hs, ro_tail, show j - (i + 1 + 1) + 1 = j - (i + 1) by omega]
 ·rw [h.d d s hd hs]
  have key : (∃ q ∈ P ++ Q, d < q.length ∧ en q d = (s : Int)) ↔ (∃ q ∈ P ++ Q.tail, d < q.length ∧ en q d = (s : Int)) ∨ (d < (ro Q 0).length ∧ en (ro Q 0) d = (s : Int)) := by
   cases Q with
   | nil => simp [ro, List.getD]
   | cons a Q =>
    simp only [List.tail_cons, List.mem_append, List.mem_cons, show ro (a :: Q) 0 = a from rfl]
    constructor
    ·rintro ⟨q, hq | rfl | hq, h1⟩
     ·exact .inl ⟨q, .inl hq, h1⟩
     ·exact .inr h1
     ·exact .inl ⟨q, .inr hq, h1⟩
    ·rintro (⟨q, hq | hq, h1⟩ | h1)
     ·exact ⟨q, .inl hq, h1⟩
     ·exact ⟨q, .inr (.inr hq), h1⟩
     ·exact ⟨a, .inr (.inl rfl), h1⟩
  have key2 : (∃ q ∈ P ++ [r] ++ Q.tail, d < q.length ∧ en q d = (s : Int)) ↔ (∃ q ∈ P ++ Q.tail, d < q.length ∧ en q d = (s : Int)) ∨ (d < r.length ∧ en r d = (s : Int)) := by
   simp only [List.mem_append, List.mem_singleton]
   constructor
   ·rintro ⟨q, (hq | rfl) | hq, h1⟩
    ·exact .inl ⟨q, .inl hq, h1⟩
    ·exact .inr h1
    ·exact .inl ⟨q, .inr hq, h1⟩
   ·rintro (⟨q, hq | hq, h1⟩ | h1)
    ·exact ⟨q, .inl (.inl hq), h1⟩
    ·exact ⟨q, .inr hq, h1⟩
    ·exact ⟨r, .inl (.inr rfl), h1⟩
  rw [key, key2]
  constructor
  ·rintro ((h1 | h1) | h1)
   ·exact .inl (.inl h1)
   ·exact .inr h1
   ·exact .inl (.inr h1)
  ·rintro ((h1 | h1) | h1)
   ·exact .inl (.inl h1)
   ·exact .inr h1
   ·exact .inl (.inr h1)
 ·by_cases e : j = i
  ·have e1 : ro (P ++ [r]) j = r := by subst e; rw [← hi]; simp [ro, List.getD]
   rw [e1, e]; exact h.ai d (by omega) hd
  ·have e1 : ro (P ++ [r]) j = ro P j := by simp [ro, List.getD, List.getElem?_append_left (show j < P.length by omega)]
   rw [e1]; exact h.ap j d (by omega) h5 hd
 ·have := h.aq (i + 1) d (by omega) h5 hd
  rw [Nat.sub_self] at this; exact this
 ·rw [h.aq j d (by omega) h5 hd, ro_tail, show j - (i + 1 + 1) + 1 = j - (i + 1) by omega]
theorem Rc.congr {P Q : List (List Int)} {i k : Nat} {r r' : List Int} {T : T3} (h : Rc P i r k Q T) (h1 : r.take k = r'.take k) (h2 : ∀ d, d < k → en r d = en r' d) : Rc P i r' k Q T := by
 refine ⟨h.tv, fun s hs => by rw [← h1]; exact h.b s hs, h.bq, fun d s hd hs => ?_, h.ap, fun d h5 hd => ?_, h.aq⟩
 ·rw [h.d d s hd hs]
  constructor
  ·rintro (h3 | h3)
   ·exact .inl h3
   ·exact .inr ⟨h3.1, by rw [← h2 d h3.1]; exact h3.2⟩
  ·rintro (h3 | h3)
   ·exact .inl h3
   ·exact .inr ⟨h3.1, by rw [h2 d h3.1]; exact h3.2⟩
 ·rw [h.ai d h5 hd]
  by_cases h3 : d < k
  ·rw [if_pos h3, if_pos h3, h2 d h3]
  ·rw [if_neg h3, if_neg h3]
theorem Rp.rc {P : List (List Int)} {i : Nat} {T : T3} (h : Rp P i [] 0 T) : Rc P i [] 0 [] T := by
 refine ⟨h.tv, fun s hs => h.b s hs, fun j s h5 hj hs => ?_, fun d s hd hs => by rw [List.append_nil]; exact h.d d s hd hs, fun j d hj h5 hd => ?_, fun d h5 hd => ?_, fun j d hj h5 hd => ?_⟩
 ·rw [h.bz j hj h5, ro_nil]; simp
 ·rw [h.a j d h5 hd, if_pos hj]
 ·rw [h.a i d h5 hd, if_neg (by omega), if_neg (by omega), if_neg (by omega)]
 ·rw [h.a j d h5 hd, if_neg (by omega), if_neg (by omega), ro_nil]; rfl
theorem Rc.rp {P : List (List Int)} {i : Nat} {T : T3} (h : Rc P i [] 0 [] T) (r : List Int) : Rp P i r 0 T := by
 refine ⟨h.tv, fun s hs => by rw [h.b s hs, List.take_zero, List.take_zero], fun j hj h5 => ?_, fun d s hd hs => ?_, fun j d h5 hd => ?_⟩
 ·have hb := h.tv.tb.b32 j h5
  have : bits (bn T.2.1 j) = [] := by
   rw [List.eq_nil_iff_forall_not_mem]
   intro s hs
   obtain ⟨h1, h2⟩ := mem_bits.1 hs
   have := (h.bq j s h5 hj h1).1 h2
   rw [ro_nil] at this; simp at this
  by_cases e : bn T.2.1 j = 0
  ·exact e
  ·have := (bits_step _ hb e).1
   rw [‹bits (bn T.2.1 j) = []›] at this; simp at this
 ·rw [h.d d s hd hs, List.append_nil]
  constructor
  ·rintro (h1 | h1)
   ·exact .inl h1
   ·omega
  ·rintro (h1 | h1)
   ·exact .inl h1
   ·omega
 ·by_cases h1 : j < i
  ·rw [if_pos h1]; exact h.ap j d h1 h5 hd
  ·rw [if_neg h1, if_neg (by omega)]
   by_cases h2 : j = i
   ·subst h2; rw [h.ai d h5 hd, if_neg (by omega)]
   ·rw [h.aq j d (by omega) h5 hd, ro_nil]; rfl
theorem Rq.rc {C : List (List Int)} {T : T3} (h : Rq C C.length [] 0 T) (hC : C.length ≤ 5) : Rc [] 0 (ro C 0) (ro C 0).length C.tail T := by
 have hro : ∀ j, C.length ≤ j → ro C j = [] := fun j hj => by unfold ro; rw [List.getD, List.getElem?_eq_none hj]; rfl
 have hb : ∀ j s, j < 5 → s < 5 → ((bn T.2.1 j).testBit s = true ↔ (s : Int) ∈ ro C j) := fun j s h5 hs => by
  by_cases h1 : j < C.length
  ·exact h.bp j s h1 h5 hs
  ·rw [hro j (by omega)]
   by_cases h2 : j = C.length
   ·rw [h2, h.b s hs]; simp
   ·rw [h.bz j (by omega) h5]; simp
 have ha : ∀ j d, j < 5 → d < 5 → en T.1 (j * 5 + d) = if d < (ro C j).length then en (ro C j) d else -1 := fun j d h5 hd => by
  rw [h.a j d h5 hd]
  by_cases h1 : j < C.length
  ·rw [if_pos h1]
  ·rw [if_neg h1, if_neg (by omega), hro j (by omega)]; rfl
 refine ⟨h.tv, fun s hs => ?_, fun j s h5 hj hs => ?_, fun d s hd hs => ?_, fun j d hj => by omega, fun d h5 hd => ?_, fun j d hj h5 hd => ?_⟩
 ·rw [List.take_length]; exact hb 0 s (by omega) hs
 ·rw [ro_tail, show j - (0 + 1) + 1 = j by omega]; exact hb j s h5 hs
 ·rw [h.d d s hd hs, List.nil_append]
  cases C with
  | nil => simp [ro, List.getD]
  | cons a C =>
   simp only [List.tail_cons, List.mem_cons, show ro (a :: C) 0 = a from rfl]
   constructor
   ·rintro (⟨q, rfl | hq, h1⟩ | h1)
    ·exact .inr h1
    ·exact .inl ⟨q, hq, h1⟩
    ·omega
   ·rintro (⟨q, hq, h1⟩ | h1)
    ·exact .inl ⟨q, .inr hq, h1⟩
    ·exact .inl ⟨a, .inl rfl, h1⟩
 ·have := ha 0 d (by omega) hd; exact this
 ·rw [ro_tail, show j - (0 + 1) + 1 = j by omega]; exact ha j d h5 hd
def fitl (n : Nat) (P : List (List Int)) (l : List Nat) : List (List Nat) := (ext n (n - l.length) l).filter fun x => fitB P x (n - l.length) l.length
theorem row_cmplC (n : Nat) (hn : n ≤ 5) (P Q : List (List Int)) (p : Nat) (hp : p < n) : ∀ (f : Nat) (l : List Nat) (T : T3) (F : Nat), l.length + f = n → (∀ s ∈ l, s < n) → Rc P p (nL l) l.length Q T → f + 2 ≤ F →
  (cmpl n (p + 1) F p l.length T).map (rowOf n p) = ((ext n f l).filter fun x => fitB (P ++ Q) x f l.length).map nL
 | 0, l, T, F, hl, hs, hT, hF => by
  obtain ⟨F, rfl⟩ : ∃ G, F = G + 2 := ⟨F - 2, by omega⟩
  rw [cmpl, if_neg (by omega), if_pos (by omega), cmpl, if_pos rfl]
  have : rowOf n p T = nL l := rowOf_eq hn (by omega) hT.tv (by rw [nL_len]; omega) fun d hd => by
   rw [hT.ai d (by omega) (by omega), if_pos (by omega)]
  simp [ext, fitB, this]
 | f + 1, l, T, F, hl, hs, hT, hF => by
  obtain ⟨F, rfl⟩ : ∃ G, F = G + 1 := ⟨F - 1, by omega⟩
  have ha : en T.1 (p * 5 + l.length) = -1 := by
   rw [hT.ai l.length (by omega) (by omega), if_neg (by omega)]
  rw [cmpl, if_neg (by omega), if_neg (by omega), if_neg (by omega), ext]
  unfold bits
  rw [fm_filter, List.map_flatMap, filter_fm, List.map_flatMap]
  have hz : ∀ s, s < 5 → (mayB n (bn T.2.1 p) (bn T.2.2 l.length)).testBit s = (decide (s < n) && !decide (s ∈ l) && !metB (P ++ Q) l.length (s : Nat)) := fun s h5 => by
   rw [may_tst (by omega) (hT.tv.tb.b32 p (by omega)) (hT.tv.tb.d32 l.length (by omega)) h5]
   have hb : (bn T.2.1 p).testBit s = decide (s ∈ l) := by
    rw [Bool.eq_iff_iff, hT.b s h5, List.take_of_length_le (by rw [nL_len]; omega), decide_eq_true_eq]
    exact mem_nL
   have hd : (bn T.2.2 l.length).testBit s = metB (P ++ Q) l.length (s : Nat) := by
    rw [Bool.eq_iff_iff, hT.d l.length s (by omega) h5]
    unfold metB
    rw [List.any_eq_true]
    constructor
    ·rintro (⟨q, hq, h5, h6⟩ | h5)
     ·exact ⟨q, hq, by simp [h5, h6]⟩
     ·omega
    ·rintro ⟨q, hq, h5⟩
     simp only [Bool.and_eq_true, decide_eq_true_eq, beq_iff_eq] at h5
     exact .inl ⟨q, hq, h5⟩
   rw [hb, hd]
  have e1 : (List.range 5).flatMap (fun s => List.map (rowOf n p) (if (mayB n (bn T.2.1 p) (bn T.2.2 l.length)).testBit s = true then cmpl n (p + 1) F p (l.length + 1) (putT T p l.length s) else [])) =
    (List.range 5).flatMap (fun s => if (decide (s < n) && !decide (s ∈ l) && !metB (P ++ Q) l.length (s : Nat)) = true then ((ext n f (l ++ [s])).filter fun x => fitB (P ++ Q) x f (l.length + 1)).map nL else []) := by
   refine fm_congr fun s hs5 => ?_
   have h5 := List.mem_range.1 hs5
   rw [hz s h5]
   by_cases g : (decide (s < n) && !decide (s ∈ l) && !metB (P ++ Q) l.length (s : Nat)) = true
   ·rw [if_pos g, if_pos g]
    simp only [Bool.and_eq_true, decide_eq_true_eq] at g
    have hl1 : (l ++ [s]).length = l.length + 1 := by simp
    have hR : Rc P p (nL (l ++ [s])) l.length Q T := hT.congr (by rw [show nL (l ++ [s]) = nL l ++ [(s : Int)] by simp [nL], List.take_append_of_le_length (by rw [nL_len]; omega)]) fun d hd => by rw [nL_en hd, nL_en (by omega), gn_app1 hd]
    have hR2 := hR.put (by omega) (by omega) (by rw [nL_len]; omega) h5 (by rw [nL_en (by omega), gn_app2])
    rw [← hl1] at hR2
    have ih := row_cmplC n hn P Q p hp f (l ++ [s]) (putT T p l.length s) F (by omega) (fun t ht => by
     rcases List.mem_append.1 ht with ht | ht
     ·exact hs t ht
     ·obtain rfl := List.mem_singleton.1 ht
      exact g.1.1) hR2 (by omega)
    rw [hl1] at ih
    exact ih
   ·rw [if_neg g, if_neg g]; rfl
  rw [e1, fm_range (n := n) (fun s h => by rw [decide_eq_false (by omega)]; rfl) 5 hn]
  refine fm_congr fun s hs' => ?_
  have hsn := List.mem_range.1 hs'
  rw [decide_eq_true hsn, Bool.true_and]
  by_cases g : s ∈ l
  ·rw [if_pos g, decide_eq_true g]; rfl
  ·rw [if_neg g, decide_eq_false g, Bool.not_false, Bool.true_and]
   have hx : ∀ x ∈ ext n f (l ++ [s]), gn x l.length = s := fun x hx => by
    rw [(ext_get hx).2 l.length (by simp), gn_app2]
   have hq : (ext n f (l ++ [s])).filter (fun x => fitB (P ++ Q) x (f + 1) l.length) = (ext n f (l ++ [s])).filter (fun x => !metB (P ++ Q) l.length (s : Nat) && fitB (P ++ Q) x f (l.length + 1)) := filter_congr' fun x h => by
    show (!metB (P ++ Q) l.length (gn x l.length : Nat) && _) = _
    rw [hx x h]
   rw [hq]
   cases metB (P ++ Q) l.length (s : Nat) with
   | true => simp
   | false => simp
theorem row_memC (n : Nat) (hn : n ≤ 5) (P Q : List (List Int)) (p : Nat) (hp : p < n) (hP : P.length = p) (hQ : p + 1 + Q.length ≤ 5) : ∀ (f : Nat) (l : List Nat) (T : T3) (F : Nat), l.length + f = n → Rc P p (nL l) l.length Q T → f + 2 ≤ F → ∀ T' ∈ cmpl n (p + 1) F p l.length T, ∃ x : List Nat, x.length = n ∧ rowOf n p T' = nL x ∧ Rc (P ++ [nL x]) (p + 1) (ro Q 0) (ro Q 0).length Q.tail T'
 | 0, l, T, F, hl, hT, hF => by
  obtain ⟨F, rfl⟩ : ∃ G, F = G + 2 := ⟨F - 2, by omega⟩
  rw [cmpl, if_neg (by omega), if_pos (by omega), cmpl, if_pos rfl]
  intro T' hm
  obtain rfl := List.mem_singleton.1 hm
  have h2 := hT
  rw [show l.length = (nL l).length from (nL_len l).symm] at h2
  refine ⟨l, by omega, ?_, h2.next hP hQ⟩
  exact rowOf_eq hn (by omega) hT.tv (by rw [nL_len]; omega) fun d hd => by
   rw [hT.ai d (by omega) (by omega), if_pos (by omega)]
 | f + 1, l, T, F, hl, hT, hF => by
  obtain ⟨F, rfl⟩ : ∃ G, F = G + 1 := ⟨F - 1, by omega⟩
  have ha : en T.1 (p * 5 + l.length) = -1 := by
   rw [hT.ai l.length (by omega) (by omega), if_neg (by omega)]
  rw [cmpl, if_neg (by omega), if_neg (by omega), if_neg (by omega)]
  intro T' hm
  obtain ⟨s, hs, hm⟩ := List.mem_flatMap.1 hm
  have h5 := (mem_bits.1 hs).1
  have hl1 : (l ++ [s]).length = l.length + 1 := by simp
  have hR : Rc P p (nL (l ++ [s])) l.length Q T := hT.congr (by rw [show nL (l ++ [s]) = nL l ++ [(s : Int)] by simp [nL], List.take_append_of_le_length (by rw [nL_len]; omega)]) fun d hd => by rw [nL_en hd, nL_en (by omega), gn_app1 hd]
  have hR2 := hR.put (by omega) (by omega) (by rw [nL_len]; omega) h5 (by rw [nL_en (by omega), gn_app2])
  rw [← hl1] at hR2 hm
  exact row_memC n hn P Q p hp hP hQ f (l ++ [s]) _ F (by omega) hR2 (by omega) T' hm
theorem row_skip (n to p k : Nat) (hp : p < to) (hk : k ≤ n) (T : T3) (hT : ∀ d, d < k → 0 ≤ en T.1 (p * 5 + d)) : ∀ (g j F F' : Nat), k - j = g → j ≤ k → (to - p) * (n + 1) + (n - j) < F → (to - p) * (n + 1) + (n - k) < F' → cmpl n to F p j T = cmpl n to F' p k T
 | 0, j, F, F', hg, hj, hF, hF' => by
  have : j = k := by omega
  subst this
  exact cmpl_fuel n to F F' p j T hF hF' (by omega) hk
 | g + 1, j, F, F', hg, hj, hF, hF' => by
  obtain ⟨F, rfl⟩ : ∃ G, F = G + 1 := ⟨F - 1, by omega⟩
  rw [cmpl_in (by omega) (by omega), if_pos (hT j (by omega))]
  exact row_skip n to p k hp hk T hT g (j + 1) F F' (by omega) (by omega) (by omega) hF'
theorem corner_row {n : Nat} (hn : n ≤ 5) {P Q : List (List Int)} {l : List Nat} {T : T3} (hp : P.length < n) (hQ : P.length + 1 + Q.length ≤ 5) (hl : l.length ≤ n) (hs : ∀ s ∈ l, s < n) (hT : Rc P P.length (nL l) l.length Q T) (F F' : Nat) (hF : (n - P.length) * (n + 1) + n < F) (hF' : (n - (P.length + 1)) * (n + 1) + n < F') :
  ∃ R : List T3, cmpl n n F P.length 0 T = R.flatMap (fun T' => cmpl n n F' (P.length + 1) 0 T') ∧ R.map (rowOf n P.length) = (fitl n (P ++ Q) l).map nL ∧ ∀ T' ∈ R, ∃ x : List Nat, x.length = n ∧ rowOf n P.length T' = nL x ∧ Rc (P ++ [nL x]) (P.length + 1) (ro Q 0) (ro Q 0).length Q.tail T' := by
 refine ⟨cmpl n (P.length + 1) (n + n + 4) P.length l.length T, ?_, ?_, ?_⟩
 ·rw [row_skip n n P.length l.length hp hl T (fun d hd => by
   rw [hT.ai d (by omega) (by omega), if_pos hd, nL_en hd]; omega) l.length 0 F F rfl (by omega) (by omega) (by omega)]
  exact cmpl_split n P.length hp (n - l.length) l.length T (by omega) F (n + n + 4) F' (by omega) (by rw [show P.length + 1 - P.length = 1 by omega]; omega) hF'
 ·exact row_cmplC n hn P Q P.length hp (n - l.length) l T (n + n + 4) (by omega) hs hT (by omega)
 ·exact row_memC n hn P Q P.length hp rfl hQ (n - l.length) l T (n + n + 4) (by omega) hT (by omega)
def fil (n : Nat) : List (List Nat) → List (List Nat) → Option (List (List Nat))
 | [], B => some B
 | l :: Q, B => (fitl n ((B ++ Q).map nL) l).findSome? fun x => fil n Q (B ++ [x])
structure Cok (n w : Nat) (C : List (List Nat)) : Prop where
 row : ∀ l ∈ C, l ∈ ext n w []
 col : C.Pairwise fun a b => ∀ d, d < w → gn a d ≠ gn b d
theorem ext_trans {n b : Nat} {x' x : List Nat} : ∀ {a : Nat} {l : List Nat}, x' ∈ ext n a l → x ∈ ext n b x' → x ∈ ext n (a + b) l
 | 0, l, h, hx => by
  obtain rfl := List.mem_singleton.1 h
  rw [Nat.zero_add]; exact hx
 | a + 1, l, h, hx => by
  rw [show a + 1 + b = (a + b) + 1 by omega, ext, List.mem_flatMap]
  rw [ext, List.mem_flatMap] at h
  obtain ⟨s, hs, h⟩ := h
  refine ⟨s, hs, ?_⟩
  by_cases e : s ∈ l
  ·rw [if_pos e] at h; cases h
  ·rw [if_neg e] at h ⊢
   exact ext_trans h hx
theorem met_app (P Q : List (List Int)) (d : Nat) (s : Int) : metB (P ++ Q) d s = (metB P d s || metB Q d s) := by
 unfold metB; rw [List.any_append]
def Res (n m : Nat) (o : Option (List (List Nat))) (L : List T3) : Prop :=
 match o with
 | none => L = []
 | some B' => ∃ D', Vp n B' D' ∧ B'.length = m ∧ ∃ T1 R, L = T1 :: R ∧ ∀ r', Rp ((gre n (n - m) B').map nL) n r' 0 T1
theorem res_fm {n m p : Nat} (g : List Nat → Option (List (List Nat))) (h : T3 → List T3) : ∀ (R : List T3) (Xs : List (List Nat)), R.map (rowOf n p) = Xs.map nL → (∀ T' x, T' ∈ R → x ∈ Xs → rowOf n p T' = nL x → Res n m (g x) (h T')) → Res n m (Xs.findSome? g) (R.flatMap h)
 | [], [], _, _ => rfl
 | T' :: R, x :: Xs, e, hh => by
  simp only [List.map_cons, List.cons.injEq] at e
  have h1 := hh T' x (.head _) (.head _) e.1
  have h2 := res_fm g h R Xs e.2 fun T' x a b => hh T' x (.tail _ a) (.tail _ b)
  rw [List.findSome?_cons, List.flatMap_cons]
  cases eg : g x with
  | none =>
   rw [eg] at h1
   have h1' : h T' = [] := h1
   rw [h1', List.nil_append]; exact h2
  | some B' =>
   rw [eg] at h1
   obtain ⟨D', a1, a2, T1, R1, a3, a4⟩ := h1
   exact ⟨D', a1, a2, T1, R1 ++ R.flatMap h, by rw [a3]; rfl, a4⟩
 | [], x :: Xs, e, _ => by simp at e
 | T' :: R, [], e, _ => by simp at e
theorem nL_inj {x y : List Nat} (h : nL x = nL y) : x = y := by
 have hl : x.length = y.length := by have := congrArg List.length h; simpa [nL] using this
 refine List.ext_getElem hl fun d h1 h2 => ?_
 have := congrArg (fun z => en z d) h
 simp only [nL_en h1, nL_en h2] at this
 have h3 : gn x d = gn y d := by omega
 simpa [gn, List.getD, h1, h2] using h3
theorem fitl_vp {n w : Nat} (hw : w ≤ n) {B Q : List (List Nat)} {D : List Nat} {l x : List Nat} (hV : Vp n B D) (hl : l ∈ ext n w []) (hB : ∀ d, d < w → metB (B.map nL) d (gn l d : Nat) = false) (hx : x ∈ fitl n ((B ++ Q).map nL) l) : Vp n (B ++ [x]) (stp D x) ∧ x.length = n ∧ ∀ d, d < w → gn x d = gn l d := by
 have hll : l.length = w := by simpa using (ext_get hl).1
 obtain ⟨h1, h2⟩ := List.mem_filter.1 hx
 rw [hll] at h1 h2
 obtain ⟨g1, g2⟩ := ext_get h1
 have hx0 := ext_trans hl h1
 rw [show w + (n - w) = n by omega] at hx0
 refine ⟨.snoc B D x hV hx0 (fitB_mk fun j _ hj => ?_), by omega, fun d hd => g2 d (by omega)⟩
 by_cases e : j < w
 ·rw [g2 j (by omega)]; exact hB j e
 ·have := fitB_get h2 j (by omega) (by omega)
  rw [List.map_append, met_app, Bool.or_eq_false_iff] at this
  exact this.1
theorem srch {n w : Nat} (hn1 : 1 ≤ n) (hn : n ≤ 5) (hw : w ≤ n) : ∀ (C B : List (List Nat)) (D : List Nat) (T : T3), Vp n B D → B.length + C.length ≤ n → Cok n w C → (∀ l ∈ C, ∀ d, d < w → metB (B.map nL) d (gn l d : Nat) = false) →
  Rc (B.map nL) B.length (ro (C.map nL) 0) (ro (C.map nL) 0).length (C.map nL).tail T → ∀ F, (n - B.length) * (n + 1) + n < F → Res n (B.length + C.length) (fil n C B) (cmpl n n F B.length 0 T)
 | [], B, D, T, hV, hl, hC, hB, hT, F, hF => by
  have hR := fun r => Rc.rp (show Rc (B.map nL) B.length [] 0 [] T from hT) r
  obtain ⟨T1, R, h1, h2⟩ := full_hd hn1 hn (n - B.length) B D T hV (by simp at hl; omega) hR F hF
  exact ⟨D, hV, by simp, T1, R, h1, by simpa using h2⟩
 | l :: Q, B, D, T, hV, hl, hC, hB, hT, F, hF => by
  have hlen : (B.map nL).length = B.length := List.length_map ..
  have hlw := hC.row l (.head _)
  have hll : l.length = w := by simpa using (ext_get hlw).1
  simp only [List.length_cons] at hl
  have hT' : Rc (B.map nL) (B.map nL).length (nL l) l.length (Q.map nL) T := by
   rw [hlen]
   have : ro ((l :: Q).map nL) 0 = nL l := rfl
   rw [this, nL_len] at hT
   exact hT
  obtain ⟨R, r1, r2, r3⟩ := corner_row hn (by omega) (by rw [hlen, List.length_map]; omega) (by omega) (fun s hs => ext_lt (fun s hs => absurd hs (by simp)) hlw s hs) hT' F ((n - (B.length + 1)) * (n + 1) + n + 1) (by rw [hlen]; exact hF) (by rw [hlen]; omega)
  rw [hlen] at r1 r2 r3
  rw [← List.map_append] at r2
  rw [r1, fil]
  refine res_fm _ _ R _ r2 fun T' x hm hx he => ?_
  obtain ⟨x', x1, x2, x3⟩ := r3 T' hm
  obtain rfl := nL_inj (x2.symm.trans he)
  obtain ⟨v1, v2, v3⟩ := fitl_vp hw hV hlw (hB l (.head _)) hx
  have hp := List.pairwise_cons.1 hC.col
  have hl1 : (B ++ [x']).length = B.length + 1 := by simp
  have ih := srch hn1 hn hw Q (B ++ [x']) _ T' v1 (by omega) ⟨fun a ha => hC.row a (.tail _ ha), hp.2⟩ (fun q hq d hd => by
   rw [List.map_append, met_app, hB q (.tail _ hq) d hd, Bool.false_or, met_nL, List.any_eq_false]
   intro y hy hh
   obtain rfl := List.mem_singleton.1 hy
   have hh' : d < y.length ∧ gn y d = gn q d := by simpa using hh
   exact hp.1 q hq d hd (by rw [← v3 d hd]; exact hh'.2)) (by rw [hl1, List.map_append]; exact x3) ((n - (B.length + 1)) * (n + 1) + n + 1) (by rw [hl1]; omega)
  rw [hl1] at ih
  rw [List.length_cons, show B.length + (Q.length + 1) = B.length + 1 + Q.length by omega]
  exact ih
def widE (L : List (List Int)) : Nat := (ro L 0).length
def corE (x : Int) (L : List (List Int)) : Int := chkE x (widE L) L
def cntS (L : List (List Int)) (s : Nat) : Nat := (L.filter fun r => decide ((s : Int) ∈ r)).length
def barB (n : Nat) (L : List (List Int)) (s : Nat) : Bool := decide ((cntS L s : Int) < (L.length : Int) + (widE L : Int) - (n : Int))
def bars (n : Nat) (L : List (List Int)) : List Nat := (List.range n).filter (barB n L)
theorem wrapS' {m : Nat} (h : m ≤ 100000) : IntKind.i64.wrap (m : Int) = m := by
 cases m with
 | zero => decide
 | succ b => exact wrapN (by omega)
theorem wrapD {a b : Nat} (ha : a ≤ 100) (hb : b ≤ 100) : IntKind.i64.wrap ((a : Int) - (b : Int)) = (a : Int) - (b : Int) := by
 have key : ∀ d : Nat, d ≤ 100 → IntKind.i64.wrap (-(d : Int)) = -(d : Int) := by decide +kernel
 by_cases h : b ≤ a
 ·rw [show (a : Int) - (b : Int) = ((a - b : Nat) : Int) by omega]; exact wrapS' (by omega)
 ·rw [show (a : Int) - (b : Int) = -((b - a : Nat) : Int) by omega]; exact key _ (by omega)
theorem b_val : ∀ x : Nat, x < 32 → ∀ s : Nat, s < 5 → IntKind.i64.wrap (bitsI .and .u64 (Int.fdiv (x : Int) (2 ^ (min s 64))) 1) = ((if x.testBit s then 1 else 0 : Nat) : Int) := by decide +kernel
theorem wid_le {n : Nat} {w : Int} {L : List (List Int)} (h : chkE n w L = 0) (hL : 0 < L.length) : w ≤ n ∧ ∀ j, j < L.length → ((ro L j).length : Int) = w := by
 obtain ⟨h1, h2, h3, h4⟩ := chkE_zero h
 exact ⟨(rowE_zero h4 0 (by omega) (by omega)).2.1, fun j hj => (rowE_zero h4 j (by omega) (by omega)).1⟩
theorem wid_n {n : Nat} {L : List (List Int)} (h : corE n L = 0) : widE L ≤ n ∧ ∀ r ∈ L, r.length = widE L := by
 by_cases hL : 0 < L.length
 ·obtain ⟨a, b⟩ := wid_le h hL
  refine ⟨by omega, fun r hr => ?_⟩
  obtain ⟨i, hi, rfl⟩ := List.getElem_of_mem hr
  have := b i hi
  have e : ro L i = L[i] := by simp [ro, List.getD, hi]
  rw [e] at this; omega
 ·have : L = [] := List.eq_nil_of_length_eq_zero (by omega)
  subst this
  exact ⟨by simp [widE, ro, List.getD], fun r hr => absurd hr (by simp)⟩
theorem cornered_ok (N : Nat) (hN : 2000 ≤ N) (x : Int) (L : List (List Int)) (hL : L.length ≤ 1000) (hr : ∀ r ∈ L, r.length ≤ 1000) :
  ∃ T, m83 N x (.lst false L.length (rwsP L)) = some (if corE x L = 0 then .inr ((widE L : Int), 0, tP x.toNat T) else .inl ((widE L : Int), corE x L)) ∧ (corE x L = 0 → ∀ r', Rq L L.length r' 0 T) := by
 obtain ⟨T, e, hT⟩ := opened3_ok N hN x (widE L : Nat) L hL hr
 refine ⟨T, ?_, hT⟩
 rw [m83, getL_t]
 by_cases h : 0 < L.length
 ·rw [brn_dt (by omega), grd_t (by omega), grd_t (by rw [rws_len]; omega), rws_gp h, getL_t]
  unfold widE corE at *
  rw [e, bnd_t]
  unfold opE widE
  by_cases g : chkE x (ro L 0).length L = 0
  ·simp only [if_pos g]
  ·simp only [if_neg g]
 ·have h0 : L = [] := List.eq_nil_of_length_eq_zero (by omega)
  subst h0
  rw [brn_df (by simp)]
  have hw : widE [] = 0 := by simp [widE, ro, List.getD]
  unfold corE at *
  rw [hw] at e ⊢
  rw [show m61 N x (.lst false ([] : List (List Int)).length (rwsP [])) 0 = _ from e, bnd_t]
  unfold opE
  by_cases g : chkE x ((0 : Nat) : Int) [] = 0
  ·simp only [if_pos g]; rfl
  ·simp only [if_neg g]; rfl
theorem cnt_L3 (N n : Nat) (L : List (List Int)) (hL : L.length ≤ 5) (x y z : Int) (T : T3) (hT : ∀ r', Rq L L.length r' 0 T) (s : Nat) (hs : s < 5) (a : Nat) (c : List PV) : ∀ (f i fuel k : Nat), L.length - i = f → f < fuel → i ≤ L.length → k ≤ i →
  m81_L3 N x L.length (rwsP L) y (tP n T) a (s : Int) c fuel (k : Int) (i : Int) = some ((k + cntS (L.drop i) s : Nat) : Int)
 | f, i, 0, _, _, _, _, _ => by omega
 | f, i, fuel + 1, k, hf, hfu, hi, hk => by
  have hl := tbl_len (n := n) (hT []).tv.tb
  rw [m81_L3]
  by_cases g : i < L.length
  ·have hb : (bn T.2.1 i).testBit s = decide ((s : Int) ∈ ro L i) := by
    rw [Bool.eq_iff_iff, (hT []).bp i s g (by omega) hs, decide_eq_true_eq]
   have ih := fun k h => cnt_L3 N n L hL x y z T hT s hs a c (f - 1) (i + 1) fuel k (by omega) (by omega) (by omega) h
   rw [brn_dt (by omega), grd_t ⟨by omega, by omega⟩, toNatN, grd_t (by unfold tP; omega), show gp (tP n T) (26 + i) = .int .u64 (bn T.2.1 i : Int) from gp_b (hT []).tv.tb (by omega), getU_t, grd_t (by omega), toNatN, b_val _ ((hT []).tv.tb.b32 i (by omega)) s hs, hb, drop_ro g]
   unfold cntS
   rw [List.filter_cons]
   by_cases e : (s : Int) ∈ ro L i
   ·rw [decide_eq_true e, if_pos rfl, if_pos rfl, wrapN (by omega)]
    rw [show IntKind.i64.wrap ((k : Int) + ((1 : Nat) : Int)) = ((k + 1 : Nat) : Int) from wrapN (by omega), ih (k + 1) (by omega)]
    unfold cntS
    congr 2; simp; omega
   ·rw [decide_eq_false e, if_neg (by simp), if_neg (by simp), wrapN (by omega)]
    rw [show IntKind.i64.wrap ((k : Int) + ((0 : Nat) : Int)) = (k : Int) by rw [show (k : Int) + ((0 : Nat) : Int) = (k : Int) by omega]; exact wrapS' (by omega), ih k (by omega)]
    rfl
  ·rw [brn_df (by omega), List.drop_eq_nil_of_le (by omega)]; rfl
theorem bar_L2 (N n : Nat) (hN : 2000 ≤ N) (hn : n ≤ 5) (L : List (List Int)) (hL : L.length ≤ 5) (hw : widE L ≤ 5) (T : T3) (hT : ∀ r', Rq L L.length r' 0 T) : ∀ (f s fuel : Nat) (A : List Nat), n - s = f → f < fuel → s ≤ n → A.length ≤ s →
  m81_L2 N (n : Int) L.length (rwsP L) (widE L : Int) (tP n T) fuel A.length (s : Int) (iL (nL A)) = some ((A ++ (List.range' s (n - s)).filter (barB n L)).length, iL (nL (A ++ (List.range' s (n - s)).filter (barB n L))))
 | f, s, 0, _, _, _, _, _ => by omega
 | f, s, fuel + 1, A, hf, hfu, hs, hA => by
  rw [m81_L2]
  by_cases g : s < n
  ·have h3 := cnt_L3 N n L hL (n : Int) (widE L : Int) 0 T hT s (by omega) A.length (iL (nL A)) L.length 0 N 0 (by omega) (by omega) (by omega) (by omega)
   rw [List.drop_zero, Nat.zero_add] at h3
   have ew : IntKind.i64.wrap (IntKind.i64.wrap ((L.length : Int) + (widE L : Int)) - (n : Int)) = (L.length : Int) + (widE L : Int) - (n : Int) := by
    rw [show (L.length : Int) + (widE L : Int) = ((L.length + widE L : Nat) : Int) by omega, wrapS' (by omega), wrapD (by omega) (by omega)]
   rw [brn_dt (by omega), show m81_L3 N (n : Int) L.length (rwsP L) (widE L : Int) (tP n T) A.length (s : Int) (iL (nL A)) N 0 0 = _ from h3, bnd_t, ew, range'_step g, List.filter_cons]
   cases e : barB n L s with
   | true =>
    have ih := bar_L2 N n hN hn L hL hw T hT (f - 1) (s + 1) fuel (A ++ [s]) (by omega) (by omega) (by omega) (by simp; omega)
    rw [List.length_append, List.length_singleton, List.append_assoc, List.singleton_append] at ih
    rw [brn_t (by unfold barB at e; exact e), if_pos rfl, grd_t (by omega), grd_t (by rw [iL_len, nL_len]), wrapN (by omega), iL_app, show nL A ++ [(s : Int)] = nL (A ++ [s]) by simp [nL]]
    exact ih
   | false =>
    rw [brn_f (by unfold barB at e; exact e), if_neg (by simp), wrapN (by omega)]
    exact bar_L2 N n hN hn L hL hw T hT (f - 1) (s + 1) fuel A (by omega) (by omega) (by omega) (by omega)
  ·rw [brn_df (by omega), show n - s = 0 by omega]; simp
def barE (x : Int) (L : List (List Int)) : List Nat × Int := if corE x L ≠ 0 then ([], corE x L) else (bars x.toNat L, 0)
theorem barring_ok (N : Nat) (hN : 2000 ≤ N) (x : Int) (L : List (List Int)) (hL : L.length ≤ 1000) (hr : ∀ r ∈ L, r.length ≤ 1000) :
  m81 N x (.lst false L.length (rwsP L)) = some (.tup [rwP (nL (barE x L).1), .int .i64 (barE x L).2]) := by
 obtain ⟨T, e, hT⟩ := cornered_ok N hN x L hL hr
 rw [m81, getL_t, e, bnd_t]
 unfold barE
 by_cases h : corE x L = 0
 ·rw [if_pos h, if_neg (show ¬ corE x L ≠ 0 by simpa using h)]
  dsimp only
  obtain ⟨h1, h2, h3, h4⟩ := chkE_zero h
  obtain ⟨n, rfl⟩ : ∃ n : Nat, x = (n : Int) := ⟨x.toNat, by omega⟩
  have hw := (wid_n h).1
  have hb := bar_L2 N n hN (by omega) L (by omega) (by omega) T (hT h) n 0 N [] (by omega) (by omega) (by omega) (by simp)
  rw [List.nil_append, Nat.sub_zero, ← List.range_eq_range'] at hb
  rw [brn_nf rfl, toNatN, show m81_L2 N (n : Int) L.length (rwsP L) (widE L : Int) (tP n T) N 0 0 [] = _ from hb, bnd_t]
  dsimp only
  rw [grd_t (by rw [iL_len, nL_len])]
  unfold rwP bars; rw [nL_len]
 ·rw [if_neg h, if_pos h]
  dsimp only
  rw [brn_nt h]; rfl
def whyE (x : Int) (L : List (List Int)) : Int × Int := if corE x L ≠ 0 then (0, corE x L) else match bars x.toNat L with | [] => (0, 13) | s :: _ => ((s : Int), 0)
theorem why_ok (N : Nat) (hN : 2000 ≤ N) (x : Int) (L : List (List Int)) (hL : L.length ≤ 1000) (hr : ∀ r ∈ L, r.length ≤ 1000) :
  m45 N x (.lst false L.length (rwsP L)) = some (.tup [.int .i64 (whyE x L).1, .int .i64 (whyE x L).2]) := by
 rw [m45, getL_t, barring_ok N hN x L hL hr, bnd_t, getT2_t]
 unfold rwP barE whyE
 by_cases h : corE x L = 0
 ·rw [if_neg (show ¬ corE x L ≠ 0 by simpa using h), if_neg (show ¬ corE x L ≠ 0 by simpa using h), getL_t, getI_t, brn_nf rfl]
  cases e : bars x.toNat L with
  | nil => rfl
  | cons s l =>
   dsimp only
   rw [brn_ef (by simp [nL] <;> omega), grd_t (by simp [nL]), grd_t (by simp [iL, nL]), show gp (iL (nL (s :: l))) 0 = .int .i64 (s : Int) from rfl, getI_t]
 ·rw [if_pos h, if_pos h, getL_t, getI_t, brn_nt h]
def toC (L : List (List Int)) : List (List Nat) := L.map fun r => r.map Int.toNat
theorem toC_len (L : List (List Int)) : (toC L).length = L.length := by simp [toC]
theorem toC_gn {L : List (List Int)} {j k : Nat} (hj : j < L.length) (hk : k < (ro L j).length) : gn ((ro L j).map Int.toNat) k = (en (ro L j) k).toNat := by simp [gn, en, List.getD, hk]
theorem cok_of {n : Nat} {L : List (List Int)} (h : corE n L = 0) : (toC L).map nL = L ∧ Cok n (widE L) (toC L) := by
 obtain ⟨h1, h2, h3, h4⟩ := chkE_zero h
 have hz : ∀ j, j < L.length → ∀ k, k < (ro L j).length → 0 ≤ en (ro L j) k ∧ en (ro L j) k < n ∧ en (ro L j) k ∉ (ro L j).take k ∧ metB (L.take j) k (en (ro L j) k) = false := fun j hj k hk =>
  dayE_zero (rowE_zero h4 j (by omega) (by omega)).2.2 k (by omega) (by omega)
 have hw : ∀ j, j < L.length → (ro L j).length = widE L := fun j hj => (wid_n h).2 _ (ro_mem hj)
 have hget : ∀ j (hj : j < L.length), L[j] = ro L j := fun j hj => by simp [ro, List.getD, hj]
 refine ⟨?_, fun l hl => ?_, ?_⟩
 ·unfold toC
  rw [List.map_map]
  refine (List.map_congr_left fun r hr => ?_).trans (List.map_id _)
  obtain ⟨j, hj, rfl⟩ := List.getElem_of_mem hr
  rw [hget j hj]
  exact nL_toNat fun k hk => (hz j hj k hk).1
 ·obtain ⟨r, hr, rfl⟩ := List.mem_map.1 hl
  obtain ⟨j, hj, rfl⟩ := List.getElem_of_mem hr
  rw [hget j hj]
  have hwj := hw j hj
  refine ext_mem _ [] _ (by simp; omega) rfl (fun s hs => ?_) (fun k hk => ?_)
  ·obtain ⟨k, hk, rfl⟩ := List.getElem_of_mem hs
   have hk' : k < (ro L j).length := by simpa using hk
   have := hz j hj k hk'
   have e := toC_gn hj hk'
   simp only [gn, List.getD, hk, List.getElem?_eq_getElem, Option.getD_some] at e
   rw [e]; omega
  ·have hk' : k < (ro L j).length := by simpa using hk
   have hzk := hz j hj k hk'
   rw [toC_gn hj hk']
   intro hm
   apply hzk.2.2.1
   rw [← List.map_take, List.mem_map] at hm
   obtain ⟨y, hy, e⟩ := hm
   obtain ⟨q, hq, rfl⟩ := List.getElem_of_mem hy
   have hq2 : q < (ro L j).length := by rw [List.length_take] at hq; omega
   have := (hz j hj q hq2).1
   have eq : ((ro L j).take k)[q] = en (ro L j) q := by simp [en, List.getD, hq2]
   rw [eq] at e
   have : en (ro L j) q = en (ro L j) k := by omega
   rw [← this, ← eq]
   exact List.getElem_mem hq
 ·rw [List.pairwise_iff_getElem]
  intro i j hi hj hij d hd e
  have hi' : i < L.length := by simpa [toC] using hi
  have hj' : j < L.length := by simpa [toC] using hj
  have e1 : (toC L)[i] = (ro L i).map Int.toNat := by simp [toC, hget i hi']
  have e2 : (toC L)[j] = (ro L j).map Int.toNat := by simp [toC, hget j hj']
  have di : d < (ro L i).length := by rw [hw i hi']; exact hd
  have dj : d < (ro L j).length := by rw [hw j hj']; exact hd
  rw [e1, e2, toC_gn hi' di, toC_gn hj' dj] at e
  have z1 := hz i hi' d di
  have z2 := hz j hj' d dj
  have z3 := z2.2.2.2
  unfold metB at z3
  rw [List.any_eq_false] at z3
  refine z3 (ro L i) ?_ ?_
  ·have : ro L i = ro (L.take j) i := by unfold ro; rw [List.getD, List.getD, List.getElem?_take_of_lt hij]
   rw [this]; exact ro_mem (by rw [List.length_take]; omega)
  ·rw [decide_eq_true di, Bool.true_and]
   simp only [beq_iff_eq]; omega
def filE (x : Int) (L : List (List Int)) : List (List Int) × Int := if corE x L ≠ 0 then ([], corE x L) else match fil x.toNat (toC L) [] with | none => ([], 12) | some B => ((gre x.toNat (x.toNat - L.length) B).map nL, 0)
theorem told_ok (N : Nat) (a b : Nat) (z : Bool) (A : List Int) : m69_2 N (oneP a b z A) = some (.int .i64 (if z then 1 else 0)) := by
 rw [m69_2, grd_t (by simp [oneP]), show gp (oneP a b z A) 2 = .bool z from rfl, getB_t]
 cases z <;> rfl
theorem fill_ok (N : Nat) (hN : 5000 ≤ N) (x : Int) (L : List (List Int)) (hL : L.length ≤ 1000) (hr : ∀ r ∈ L, r.length ≤ 1000) :
  m47 N x (.lst false L.length (rwsP L)) = some (.tup [.lst false (filE x L).1.length (rwsP (filE x L).1), .int .i64 (filE x L).2]) := by
 obtain ⟨T, e, hT⟩ := cornered_ok N (by omega) x L hL hr
 rw [m47, getL_t, e, bnd_t]
 unfold filE
 by_cases h : corE x L = 0
 ·rw [if_pos h, if_neg (show ¬ corE x L ≠ 0 by simpa using h)]
  dsimp only
  obtain ⟨h1, h2, h3, h4⟩ := chkE_zero h
  obtain ⟨n, rfl⟩ : ∃ n : Nat, x = (n : Int) := ⟨x.toNat, by omega⟩
  have hw := (wid_n h).1
  obtain ⟨c1, c2⟩ := cok_of h
  have hcl := toC_len L
  have hrc := (hT h []).rc (by omega)
  rw [← c1] at hrc
  have hmul : (n - 0) * (n + 1) ≤ 5 * 6 := Nat.mul_le_mul (by omega) (by omega)
  have hs := srch (n := n) (w := widE L) (by omega) (by omega) hw (toC L) [] _ T .nil (by simp; omega) c2 (fun l _ d _ => by simp [metB]) hrc 100 (by simp only [List.length_nil]; omega)
  rw [show ([] : List (List Nat)).length + (toC L).length = L.length by simp [hcl]] at hs
  have c := one_ok N n n 0 n (by omega) (by omega) (by omega) false (List.replicate 25 0) (by simp) 100 N 0 0 T (hT h []).tv (by omega) (by omega) (by omega) (by omega)
  have sg := search_one N n hN 0 n (List.replicate 25 0) (by simp) T _ c
  rw [brn_nf rfl, toNatN]
  show bnd' (m64 N (tP n T) (oneP 0 n false (List.replicate 25 0))) _ = _
  rw [sg, bnd_t]
  show getT0 (.tup []) _ = _
  rw [getT0_t]
  cases ef : fil n (toC L) [] with
  | none =>
   rw [ef] at hs
   have hs' : cmpl n n 100 0 0 T = [] := hs
   rw [hs']
   show bnd' (m69_2 N (oneP 0 n false (List.replicate 25 0))) _ = _
   rw [told_ok, bnd_t, getI_t, brn_t (by rfl)]; rfl
  | some B =>
   rw [ef] at hs
   obtain ⟨D', v1, v2, T1, R, v3, v4⟩ := hs
   have v3' : cmpl n n 100 0 0 T = T1 :: R := v3
   rw [v3']
   have hT2 : T1.1.length = 25 := (v4 []).tv.tb.la
   obtain ⟨D2, hg⟩ := gre_vp (by omega) (by omega) (n - L.length) v1 (by omega)
   have hgl : ((gre n (n - L.length) B).map nL).length = n := by rw [List.length_map, gre_len]; omega
   have hro := full_rows (by omega) hgl (vp_len hg) v4
   show bnd' (m69_2 N (oneP 0 n true T1.1)) _ = _
   rw [told_ok, bnd_t, getI_t, brn_ef (by simp)]
   show grd (25 ≤ List.length (List.drop 3 (oneP 0 n true T1.1))) _ = _
   rw [grd_t (by simp [oneP, iL_len, hT2])]
   show bnd' (m65 N (.agg (List.take 25 (List.drop 3 (oneP 0 n true T1.1)))) (n : Int)) _ = _
   rw [oneP_A _ _ _ _ hT2, rows_ok' N n hN (by omega) (by omega) T1.1 hT2, bnd_t, getL_t, hro]
   dsimp only
   rw [hgl]
 ·rw [if_neg h, if_pos h]
  dsimp only
  rw [brn_nt h]; rfl
theorem nd_len {α : Type} [DecidableEq α] {l m : List α} (h : l.Nodup) (hs : ∀ x ∈ l, x ∈ m) : l.length ≤ m.length := List.Nodup.length_le_of_subset h fun x hx => hs x hx
structure Pl (n : Nat) (X : List (List Nat)) : Prop where
 row : ∀ x ∈ X, x ∈ ext n n []
 col : X.Pairwise fun a b => ∀ d, d < n → gn a d ≠ gn b d
theorem Vp.pl {n : Nat} {X : List (List Nat)} {D : List Nat} (h : Vp n X D) : Pl n X := by
 refine ⟨vp_mem h, ?_⟩
 induction h with
 | nil => exact .nil
 | snoc X D x h hx hf ih =>
  rw [List.pairwise_append]
  refine ⟨ih, List.pairwise_singleton _ _, fun a ha b hb => ?_⟩
  obtain rfl := List.mem_singleton.1 hb
  exact (fit_iff (fun q hq => ext_len (vp_mem h q hq)) b).1 hf a ha
def cutC (w : Nat) (X : List (List Nat)) : List (List Nat) := X.map fun x => x.take w
theorem toC_nL (C : List (List Nat)) : toC (C.map nL) = C := by
 unfold toC
 rw [List.map_map]
 refine (List.map_congr_left fun x _ => ?_).trans (List.map_id _)
 show (nL x).map Int.toNat = x
 unfold nL
 rw [List.map_map]
 exact (List.map_congr_left fun s _ => by simp).trans (List.map_id _)
theorem gn_take {x : List Nat} {w k : Nat} (h : k < w) : gn (x.take w) k = gn x k := by
 unfold gn; rw [List.getD, List.getD, List.getElem?_take_of_lt h]
theorem ro_cut {w : Nat} {X : List (List Nat)} {j : Nat} (h : j < X.length) : ro ((cutC w X).map nL) j = nL ((X[j]).take w) := by
 unfold ro cutC
 rw [List.getD, List.getElem?_map, List.getElem?_map, List.getElem?_eq_getElem h]; rfl
theorem wid_cut {n w : Nat} (hw : w ≤ n) {X : List (List Nat)} (hX : Pl n X) (h : 0 < X.length) : widE ((cutC w X).map nL) = w := by
 unfold widE
 rw [ro_cut h, nL_len, List.length_take, ext_len (hX.row _ (List.getElem_mem h))]; omega
theorem flt_notN {α : Type} (p : α → Bool) : ∀ l : List α, (l.filter p).length + (l.filter fun x => !p x).length = l.length
 | [] => rfl
 | a :: l => by
  have := flt_notN p l
  rw [List.filter_cons, List.filter_cons]
  cases h : p a <;> simp <;> omega
theorem cut_bars {n w : Nat} (hn : n ≤ 5) (hw : w ≤ n) {X : List (List Nat)} (hX : Pl n X) : bars n ((cutC w X).map nL) = [] := by
 have hlen : ((cutC w X).map nL).length = X.length := by simp [cutC]
 unfold bars
 rw [List.filter_eq_nil_iff]
 intro s hs
 have hs' := List.mem_range.1 hs
 unfold barB
 rw [hlen]
 have hc : cntS ((cutC w X).map nL) s = (X.filter fun x => decide (s ∈ x.take w)).length := by
  unfold cntS cutC
  rw [List.filter_map, List.length_map, List.filter_map, List.length_map]
  congr 1
  refine filter_congr' fun x _ => ?_
  show decide ((s : Int) ∈ nL (x.take w)) = _
  exact nL_mem
 by_cases h0 : 0 < X.length
 ·rw [wid_cut hw hX h0, hc]
  have h1 := flt_notN (fun x : List Nat => decide (s ∈ x.take w)) X
  have h2 : (X.filter fun x => !decide (s ∈ x.take w)).length ≤ n - w := by
   have hnd : ((X.filter fun x => !decide (s ∈ x.take w)).map fun x => gn (inv n x) s).Nodup := by
    unfold List.Nodup
    rw [List.pairwise_map]
    refine (hX.col.filter _).imp_of_mem fun {a b} ha hb g e => ?_
    have ia := inv_at n (by omega) a (hX.row a (List.mem_filter.1 ha).1) s hs'
    have ib := inv_at n (by omega) b (hX.row b (List.mem_filter.1 hb).1) s hs'
    exact g _ ia.2.2 (by rw [ia.2.1, e, ib.2.1])
   have := nd_len hnd (m := List.range' w (n - w)) fun d hd => by
    obtain ⟨x, hx, rfl⟩ := List.mem_map.1 hd
    obtain ⟨x1, x2⟩ := List.mem_filter.1 hx
    have ix := inv_at n (by omega) x (hX.row x x1) s hs'
    have lx := ext_len (hX.row x x1)
    refine List.mem_range'_1.2 ⟨?_, by omega⟩
    refine Nat.le_of_not_lt fun hlt => ?_
    have : s ∈ x.take w := by
     have e := gn_take (x := x) hlt
     rw [ix.2.1] at e
     rw [← e]
     exact gn_mem (by rw [List.length_take]; omega)
    simp [this] at x2
   rw [List.length_map, List.length_range'] at this
   exact this
  simp only [decide_eq_true_eq]; omega
 ·have : X = [] := List.eq_nil_of_length_eq_zero (by omega)
  subst this
  simp [cutC, widE, ro, List.getD, cntS]
end Go.Proofs.YtcaecfofgdogbaaDoor
namespace Go.Proofs.YtcaecfofgdogbaaDoor
open Go.V
def clB (w : Nat) (a b : List Nat) : Bool := (List.range w).all fun d => gn a d != gn b d
def ctN (C : List (List Nat)) (s : Nat) : Nat := (C.filter fun r => decide (s ∈ r)).length
def brN (n w : Nat) (C : List (List Nat)) : Bool := (List.range n).any fun s => decide (ctN C s + n < C.length + w)
def ryB (n w : Nat) : Nat → List (List Nat) → Bool
 | 0, C => brN n w C || (fil n C []).isSome
 | d + 1, C => (brN n w C || (fil n C []).isSome) && (ext n w []).all fun l => !(C.all fun q => clB w q l) || ryB n w d (C ++ [l])
theorem ry1_0 : ryB 1 0 1 [] = true := by decide +kernel
theorem ry1_1 : ryB 1 1 1 [] = true := by decide +kernel
theorem ry2_0 : ryB 2 0 2 [] = true := by decide +kernel
theorem ry2_1 : ryB 2 1 2 [] = true := by decide +kernel
theorem ry2_2 : ryB 2 2 2 [] = true := by decide +kernel
theorem ry3_0 : ryB 3 0 3 [] = true := by decide +kernel
theorem ry3_1 : ryB 3 1 3 [] = true := by decide +kernel
theorem ry3_2 : ryB 3 2 3 [] = true := by decide +kernel
theorem ry3_3 : ryB 3 3 3 [] = true := by decide +kernel
theorem ry4_0 : ryB 4 0 4 [] = true := by decide +kernel
theorem ry4_1 : ryB 4 1 4 [] = true := by decide +kernel
theorem ry4_2 : ryB 4 2 4 [] = true := by decide +kernel
theorem ry4_3 : ryB 4 3 4 [] = true := by decide +kernel
theorem ry4_4 : ryB 4 4 4 [] = true := by decide +kernel
end Go.Proofs.YtcaecfofgdogbaaDoor
namespace Go.Proofs.YtcaecfofgdogbaaDoor
open Go.V
set_option linter.unusedSectionVars false
theorem clB_iff {w : Nat} {a b : List Nat} : clB w a b = true ↔ ∀ d, d < w → gn a d ≠ gn b d := by
 unfold clB
 rw [List.all_eq_true]
 constructor
 ·intro h d hd
  simpa using h d (List.mem_range.2 hd)
 ·intro h d hd
  simpa using h d (List.mem_range.1 hd)
theorem ry_sound {n w : Nat} : ∀ (d : Nat) (C E : List (List Nat)), ryB n w d C = true → Cok n w (C ++ E) → E.length ≤ d → (brN n w (C ++ E) || (fil n (C ++ E) []).isSome) = true
 | 0, C, E, h, hC, hE => by
  have : E = [] := List.eq_nil_of_length_eq_zero (by omega)
  subst this
  rw [List.append_nil]; exact h
 | d + 1, C, [], h, hC, hE => by
  rw [ryB, Bool.and_eq_true] at h
  rw [List.append_nil]; exact h.1
 | d + 1, C, l :: E, h, hC, hE => by
  rw [ryB, Bool.and_eq_true, List.all_eq_true] at h
  have h2 := h.2 l (hC.row l (by simp))
  have hcl : (C.all fun q => clB w q l) = true := by
   rw [List.all_eq_true]
   intro q hq
   exact clB_iff.2 ((List.pairwise_append.1 hC.col).2.2 q hq l (.head _))
  rw [hcl, Bool.not_true, Bool.false_or] at h2
  have e : C ++ l :: E = (C ++ [l]) ++ E := by simp
  rw [e] at hC ⊢
  exact ry_sound d (C ++ [l]) E h2 hC (by simp at hE; omega)
theorem ry_all {n w : Nat} (hn1 : 1 ≤ n) (hn : n ≤ 4) (hw : w ≤ n) : ryB n w n [] = true := by
 match n, hn1, hn, w, hw with
 | 1, _, _, 0, _ => exact ry1_0
 | 1, _, _, 1, _ => exact ry1_1
 | 2, _, _, 0, _ => exact ry2_0
 | 2, _, _, 1, _ => exact ry2_1
 | 2, _, _, 2, _ => exact ry2_2
 | 3, _, _, 0, _ => exact ry3_0
 | 3, _, _, 1, _ => exact ry3_1
 | 3, _, _, 2, _ => exact ry3_2
 | 3, _, _, 3, _ => exact ry3_3
 | 4, _, _, 0, _ => exact ry4_0
 | 4, _, _, 1, _ => exact ry4_1
 | 4, _, _, 2, _ => exact ry4_2
 | 4, _, _, 3, _ => exact ry4_3
 | 4, _, _, 4, _ => exact ry4_4
theorem ryser {n w : Nat} (hn1 : 1 ≤ n) (hn : n ≤ 4) (hw : w ≤ n) {C : List (List Nat)} (hC : Cok n w C) (hl : C.length ≤ n) (hb : brN n w C = false) : (fil n C []).isSome = true := by
 have h := ry_sound n [] C (ry_all hn1 hn hw) (by simpa using hC) hl
 rw [List.nil_append, hb, Bool.false_or] at h
 exact h
theorem en_ne (a b : Nat) : ((a : Int) != (b : Int)) = (a != b) := by
 rw [Bool.eq_iff_iff]; simp only [bne_iff_ne, ne_eq, Int.natCast_inj]
theorem seq_L (N : Nat) (a b : List Nat) (h : a.length = b.length) (ha : a.length ≤ 1000) : ∀ (f i fuel : Nat), a.length - i = f → f < fuel → i ≤ a.length →
  m59_L0 N a.length (iL (nL a)) b.length (iL (nL b)) fuel (i : Int) = some (if a.drop i = b.drop i then .inr () else .inl (.bool false))
 | f, i, 0, _, hf, _ => by omega
 | f, i, fuel + 1, hf, hfu, hi => by
  rw [m59_L0]
  by_cases hl : i < a.length
  ·have ih := seq_L N a b h ha (f - 1) (i + 1) fuel (by omega) (by omega) (by omega)
   have d1 : a.drop i = gn a i :: a.drop (i + 1) := by rw [List.drop_eq_getElem_cons hl]; simp [gn, List.getD, hl]
   have d2 : b.drop i = gn b i :: b.drop (i + 1) := by rw [List.drop_eq_getElem_cons (by omega)]; simp [gn, List.getD, show i < b.length by omega]
   rw [brn_dt (by omega), grd_t ⟨by omega, by omega⟩, toNatN, grd_t (by rw [List.length_drop, iL_len, nL_len]; omega), iL_gp (by rw [nL_len]; omega), getI_t, nL_en (by omega), grd_t (by omega), grd_t (by rw [List.length_drop, iL_len, nL_len]; omega), iL_gp (by rw [nL_len]; omega), getI_t, nL_en (by omega), wrapN (by omega), d1, d2]
   by_cases e : gn a i = gn b i
   ·rw [brn_nf (by omega), ih, e]
    by_cases q : a.drop (i + 1) = b.drop (i + 1)
    ·rw [if_pos q, if_pos (by rw [q])]
    ·rw [if_neg q, if_neg (by simpa using q)]
   ·rw [brn_nt (by omega), if_neg (by simp [e])]
  ·rw [brn_df (by omega), List.drop_eq_nil_of_le (by omega), List.drop_eq_nil_of_le (by omega), if_pos rfl]
theorem seq_ok (N : Nat) (hN : 2000 ≤ N) (a b : List Nat) (h : a.length = b.length) (ha : a.length ≤ 1000) : m59 N (.lst false a.length (iL (nL a))) (.lst false b.length (iL (nL b))) = some (.bool (decide (a = b))) := by
 have e := seq_L N a b h ha a.length 0 N (by omega) (by omega) (by omega)
 rw [m59, getL_t, getL_t, brn_nf (by omega), show m59_L0 N a.length (iL (nL a)) b.length (iL (nL b)) N 0 = _ from e, bnd_t, List.drop_zero, List.drop_zero]
 by_cases q : a = b
 ·rw [if_pos q, decide_eq_true q]
 ·rw [if_neg q, decide_eq_false q]
def noc (w : Nat) (x o : List Nat) : Bool := (List.range w).all fun j => gn x j != gn o j
def gdx (w : Nat) (c : List Nat) (Q : List (List Nat)) (x : List Nat) : Bool := decide (x.take w = c) && Q.all (noc w x)
def ansP (p : PV) (o : Option (List (List Nat))) : PV × PV := match o with | none => (.bool false, p) | some B => (.bool true, .lst false B.length (rwsP (B.map nL)))
def ansL (p : PV) (o : Option (List (List Nat))) : (PV × PV) ⊕ PV := match o with | none => .inr p | some B => .inl (.bool true, .lst false B.length (rwsP (B.map nL)))
theorem sa_L2 (N n w : Nat) (rec : PV → PV → Int → Int → PV → PV → Int → Int → Option (PV × PV)) (xw : Int) (pc : PV) (xn xv : Int) (bb : Nat) (cb : List PV) (bc : Nat) (cc : List PV) (br : Nat) (cr : List PV) (xi : Int) (pp : PV) (xq : Int) (x o : List Nat) (hx : x.length = n) (hn : n ≤ 5) (ho : o.length = w) (hw : w ≤ n) : ∀ (f k fuel : Nat) (b : Bool), w - k = f → f < fuel → k ≤ w →
  m58_3_L2 N rec xw pc xn xv bb cb bc cc br cr xi pp n (iL (nL x)) xq w (iL (nL o)) fuel b (k : Int) = some (b && (List.range' k (w - k)).all fun j => gn x j != gn o j)
 | f, k, 0, _, _, hf, _ => by omega
 | f, k, fuel + 1, b, hf, hfu, hk => by
  rw [m58_3_L2]
  by_cases h : k < w
  ·have ih := fun b => sa_L2 N n w rec xw pc xn xv bb cb bc cc br cr xi pp xq x o hx hn ho hw (f - 1) (k + 1) fuel b (by omega) (by omega) (by omega)
   rw [brn_dt (by omega), grd_t ⟨by omega, by omega⟩, toNatN, grd_t (by rw [List.length_drop, iL_len, nL_len]; omega), iL_gp (by rw [nL_len]; omega), getI_t, nL_en (by omega), range'_step h, List.all_cons]
   cases b with
   | true => rw [brn_t rfl, grd_t (by omega), grd_t (by rw [List.length_drop, iL_len, nL_len]; omega), iL_gp (by rw [nL_len]; omega), getI_t, nL_en (by omega), en_ne, wrapN (by omega), ih, Bool.true_and]
   | false => rw [brn_f rfl, wrapN (by omega), ih, Bool.false_and, Bool.false_and]
  ·rw [brn_df (by omega), show w - k = 0 by omega]; simp
theorem sa_L1 (N n w : Nat) (hN : 5000 ≤ N) (rec : PV → PV → Int → Int → PV → PV → Int → Int → Option (PV × PV)) (xw : Int) (pc : PV) (xn xv : Int) (cb : List PV) (br : Nat) (cr : List PV) (xi : Int) (pp : PV) (B : Nat) (C : List (List Nat)) (hB : B + 1 ≤ C.length) (hC5 : C.length ≤ 5) (hC : ∀ o ∈ C, o.length = w) (x : List Nat) (hx : x.length = n) (hn : n ≤ 5) (hw : w ≤ n) : ∀ (f q fuel : Nat) (b : Bool), C.length - (B + 1) - q = f → f < fuel → q ≤ C.length - (B + 1) →
  m58_3_L1 N rec xw pc xn xv B cb C.length (rwsP (C.map nL)) br cr xi pp n (iL (nL x)) fuel b (q : Int) = some (b && (C.drop (B + 1 + q)).all (noc w x))
 | f, q, 0, _, _, hf, _ => by omega
 | f, q, fuel + 1, b, hf, hfu, hq => by
  rw [m58_3_L1]
  have ew : (((C.length : Nat) : Int) - IntKind.i64.wrap ((B : Int) + 1)).toNat = C.length - (B + 1) := by rw [wrapN (by omega)]; omega
  have ew2 : (IntKind.i64.wrap ((B : Int) + 1)).toNat = B + 1 := by rw [wrapN (by omega)]; omega
  rw [ew, ew2]
  by_cases h : q < C.length - (B + 1)
  ·have hl : (C.map nL).length = C.length := by simp
   have ho : (C.getD (B + 1 + q) []).length = w := hC _ (by simp [List.getD, show B + 1 + q < C.length by omega])
   have e1 : ro (C.map nL) (B + 1 + q) = nL (C.getD (B + 1 + q) []) := by simp [ro, List.getD, show B + 1 + q < C.length by omega]
   have ed : C.drop (B + 1 + q) = C.getD (B + 1 + q) [] :: C.drop (B + 1 + (q + 1)) := by rw [List.drop_eq_getElem_cons (show B + 1 + q < C.length by omega), show B + 1 + (q + 1) = B + 1 + q + 1 by omega]; simp [List.getD, show B + 1 + q < C.length by omega]
   have ih := fun b => sa_L1 N n w hN rec xw pc xn xv cb br cr xi pp B C hB hC5 hC x hx hn hw (f - 1) (q + 1) fuel b (by omega) (by omega) (by omega)
   have h2 := sa_L2 N n w rec xw pc xn xv B cb C.length (rwsP (C.map nL)) br cr xi pp (q : Int) x (C.getD (B + 1 + q) []) hx hn ho hw w 0 N b (by omega) (by omega) (by omega)
   rw [Nat.sub_zero, ← List.range_eq_range'] at h2
   rw [brn_dt (by omega), grd_t ⟨by omega, by omega⟩, toNatN, grd_t (by rw [List.length_drop, List.length_drop, rws_len, hl]; omega), rws_gp (by omega), getL_t, e1, nL_len, ho]
   rw [show m58_3_L2 N rec xw pc xn xv B cb C.length (rwsP (C.map nL)) br cr xi pp n (iL (nL x)) (q : Int) w (iL (nL (C.getD (B + 1 + q) []))) N b 0 = _ from h2, bnd_t, wrapN (by omega), ih, ed, List.all_cons, Bool.and_assoc]
   rfl
  ·rw [brn_df (by omega), List.drop_eq_nil_of_le (by omega)]; simp
theorem sb_L2 (N n w : Nat) (xw : Int) (pc : PV) (xn xv : Int) (bc : Nat) (cc : List PV) (br : Nat) (cr : List PV) (xi : Int) (pp : PV) (xq : Int) (x o : List Nat) (hx : x.length = n) (hn : n ≤ 5) (ho : o.length = w) (hw : w ≤ n) : ∀ (f k fuel : Nat) (b : Bool), w - k = f → f < fuel → k ≤ w →
  m58_L2 N xw pc xn xv bc cc br cr xi pp n (iL (nL x)) xq w (iL (nL o)) fuel b (k : Int) = some (b && (List.range' k (w - k)).all fun j => gn x j != gn o j)
 | f, k, 0, _, _, hf, _ => by omega
 | f, k, fuel + 1, b, hf, hfu, hk => by
  rw [m58_L2]
  by_cases h : k < w
  ·have ih := fun b => sb_L2 N n w xw pc xn xv bc cc br cr xi pp xq x o hx hn ho hw (f - 1) (k + 1) fuel b (by omega) (by omega) (by omega)
   rw [brn_dt (by omega), grd_t ⟨by omega, by omega⟩, toNatN, grd_t (by rw [List.length_drop, iL_len, nL_len]; omega), iL_gp (by rw [nL_len]; omega), getI_t, nL_en (by omega), range'_step h, List.all_cons]
   cases b with
   | true => rw [brn_t rfl, grd_t (by omega), grd_t (by rw [List.length_drop, iL_len, nL_len]; omega), iL_gp (by rw [nL_len]; omega), getI_t, nL_en (by omega), en_ne, wrapN (by omega), ih, Bool.true_and]
   | false => rw [brn_f rfl, wrapN (by omega), ih, Bool.false_and, Bool.false_and]
  ·rw [brn_df (by omega), show w - k = 0 by omega]; simp
theorem sb_L1 (N n w : Nat) (hN : 5000 ≤ N) (xw : Int) (pc : PV) (xn xv : Int) (br : Nat) (cr : List PV) (xi : Int) (pp : PV) (B : Nat) (hB0 : B = 0) (C : List (List Nat)) (hB : B + 1 ≤ C.length) (hC5 : C.length ≤ 5) (hC : ∀ o ∈ C, o.length = w) (x : List Nat) (hx : x.length = n) (hn : n ≤ 5) (hw : w ≤ n) : ∀ (f q fuel : Nat) (b : Bool), C.length - (B + 1) - q = f → f < fuel → q ≤ C.length - (B + 1) →
  m58_L1 N xw pc xn xv C.length (rwsP (C.map nL)) br cr xi pp n (iL (nL x)) fuel b (q : Int) = some (b && (C.drop (B + 1 + q)).all (noc w x))
 | f, q, 0, _, _, hf, _ => by omega
 | f, q, fuel + 1, b, hf, hfu, hq => by
  rw [m58_L1]
  have ew : (((C.length : Nat) : Int) - 1).toNat = C.length - (B + 1) := by omega
  rw [ew]
  by_cases h : q < C.length - (B + 1)
  ·have hl : (C.map nL).length = C.length := by simp
   have ho : (C.getD (B + 1 + q) []).length = w := hC _ (by simp [List.getD, show B + 1 + q < C.length by omega])
   have e1 : ro (C.map nL) (1 + q) = nL (C.getD (B + 1 + q) []) := by rw [show 1 + q = B + 1 + q by omega]; simp [ro, List.getD, show B + 1 + q < C.length by omega]
   have ed : C.drop (B + 1 + q) = C.getD (B + 1 + q) [] :: C.drop (B + 1 + (q + 1)) := by rw [List.drop_eq_getElem_cons (show B + 1 + q < C.length by omega), show B + 1 + (q + 1) = B + 1 + q + 1 by omega]; simp [List.getD, show B + 1 + q < C.length by omega]
   have ih := fun b => sb_L1 N n w hN xw pc xn xv br cr xi pp B hB0 C hB hC5 hC x hx hn hw (f - 1) (q + 1) fuel b (by omega) (by omega) (by omega)
   have h2 := sb_L2 N n w xw pc xn xv C.length (rwsP (C.map nL)) br cr xi pp (q : Int) x (C.getD (B + 1 + q) []) hx hn ho hw w 0 N b (by omega) (by omega) (by omega)
   rw [Nat.sub_zero, ← List.range_eq_range'] at h2
   rw [brn_dt (by omega), grd_t ⟨by omega, by omega⟩, toNatN, grd_t (by rw [List.length_drop, List.length_drop, rws_len, hl]; omega), rws_gp (by omega), getL_t, e1, nL_len, ho]
   rw [show m58_L2 N xw pc xn xv C.length (rwsP (C.map nL)) br cr xi pp n (iL (nL x)) (q : Int) w (iL (nL (C.getD (B + 1 + q) []))) N b 0 = _ from h2, bnd_t, wrapN (by omega), ih, ed, List.all_cons, Bool.and_assoc]
   rfl
  ·rw [brn_df (by omega), List.drop_eq_nil_of_le (by omega)]; simp
theorem sa_L0 (N n w : Nat) (hN : 5000 ≤ N) (hn : n ≤ 5) (hw : w ≤ n) (rec : PV → PV → Int → Int → PV → PV → Int → Int → Option (PV × PV)) (pc : PV) (B C : List (List Nat)) (hB : B.length + 1 ≤ C.length) (hC5 : C.length ≤ 5) (hC : ∀ o ∈ C, o.length = w) (R : List (List Nat)) (hR : ∀ x ∈ R, x.length = n) (hRl : R.length ≤ 4000) (p : PV) (g : List Nat → Option (List (List Nat)))
  (hrec : ∀ x ∈ R, gdx w (C.getD B.length []) (C.drop (B.length + 1)) x = true → rec (.lst false (B.length + 1) (rwsP ((B ++ [x]).map nL))) pc (n : Int) (w : Int) p pc (n : Int) (w : Int) = some (ansP p (g x))) : ∀ (f i fuel : Nat), R.length - i = f → f < fuel → i ≤ R.length →
  m58_3_L0 N rec (w : Int) pc (n : Int) (w : Int) B.length (rwsP (B.map nL)) C.length (rwsP (C.map nL)) R.length (rwsP (R.map nL)) fuel (i : Int) p = some (ansL p (((R.drop i).filter (gdx w (C.getD B.length []) (C.drop (B.length + 1)))).findSome? g))
 | f, i, 0, _, hf, _ => by omega
 | f, i, fuel + 1, hf, hfu, hi => by
  rw [m58_3_L0]
  by_cases h : i < R.length
  ·have ih := sa_L0 N n w hN hn hw rec pc B C hB hC5 hC R hR hRl p g hrec (f - 1) (i + 1) fuel (by omega) (by omega) (by omega)
   have hl : (R.map nL).length = R.length := by simp
   have hlc : (C.map nL).length = C.length := by simp
   have hmem : R.getD i [] ∈ R := by simp [List.getD, h]
   have hx := hR _ hmem
   have ho : (C.getD B.length []).length = w := hC _ (by simp [List.getD, show B.length < C.length by omega])
   have e1 : ro (R.map nL) i = nL (R.getD i []) := by simp [ro, List.getD, h]
   have e2 : ro (C.map nL) B.length = nL (C.getD B.length []) := by simp [ro, List.getD, show B.length < C.length by omega]
   have ed : R.drop i = R.getD i [] :: R.drop (i + 1) := by rw [List.drop_eq_getElem_cons h]; simp [List.getD, h]
   have et : (iL (nL (R.getD i []))).take w = iL (nL ((R.getD i []).take w)) := by rw [iL_take, nL, nL, List.map_take]
   have hlt : ((R.getD i []).take w).length = w := by rw [List.length_take]; omega
   have h59 := seq_ok N (by omega) ((R.getD i []).take w) (C.getD B.length []) (by omega) (by omega)
   rw [hlt, ho] at h59
   have h1 := sa_L1 N n w hN rec (w : Int) pc (n : Int) (w : Int) (rwsP (B.map nL)) R.length (rwsP (R.map nL)) (i : Int) p B.length C hB hC5 hC (R.getD i []) hx hn hw (C.length - (B.length + 1)) 0 N (decide ((R.getD i []).take w = C.getD B.length [])) (by omega) (by omega) (by omega)
   rw [Nat.add_zero] at h1
   rw [brn_dt (by omega), grd_t ⟨by omega, by omega⟩, toNatN, grd_t (by rw [List.length_drop, rws_len, hl]; omega), rws_gp (by omega), getL_t, e1, nL_len, hx, grd_t ⟨by omega, by omega⟩, grd_t (by rw [iL_len, nL_len, hx]), toNatN, grd_t ⟨by omega, by omega⟩, grd_t (by rw [List.length_drop, rws_len, hlc]; omega), rws_gp (by omega), getL_t, e2, nL_len, ho, et, h59, bnd_t, getB_t, grd_t (by rw [wrapN (by omega)]; exact ⟨by omega, by omega⟩), grd_t (by rw [rws_len, hlc])]
   rw [show m58_3_L1 N rec (w : Int) pc (n : Int) (w : Int) B.length (rwsP (B.map nL)) C.length (rwsP (C.map nL)) R.length (rwsP (R.map nL)) (i : Int) p n (iL (nL (R.getD i []))) N (decide ((R.getD i []).take w = C.getD B.length [])) 0 = _ from h1, bnd_t, ed, List.filter_cons, wrapN (by omega)]
   cases hg : gdx w (C.getD B.length []) (C.drop (B.length + 1)) (R.getD i []) with
   | true =>
    have hg2 := hg
    unfold gdx at hg2
    rw [brn_t hg2, if_pos rfl, List.findSome?_cons]
    have hr := hrec _ hmem hg
    have e4 : PV.lst false (B.length + 1) (rwsP (B.map nL) ++ [.lst false n (iL (nL (R.getD i [])))]) = .lst false (B.length + 1) (rwsP ((B ++ [R.getD i []]).map nL)) := by
     rw [List.map_append, List.map_singleton, ← rws_app]; unfold rwP; rw [nL_len, hx]
    rw [grd_t (by omega), grd_t (by rw [rws_len, List.length_map]), grd_t (by omega), e4]
    cases hgx : g (R.getD i []) with
    | none =>
     rw [hgx] at hr
     rw [hr, bnd_t]
     show getB (.bool false) _ = _
     rw [getB_t, brn_f rfl]
     exact ih
    | some B' =>
     rw [hgx] at hr
     rw [hr, bnd_t]
     show getB (.bool true) _ = _
     rw [getB_t, brn_t rfl]
     rfl
   | false =>
    have hg2 := hg
    unfold gdx at hg2
    rw [brn_f hg2, if_neg (by simp)]
    exact ih
  ·rw [brn_df (by omega), show R.drop i = [] from List.drop_eq_nil_of_le (by omega)]; rfl
theorem sb_L0 (N n w : Nat) (hN : 5000 ≤ N) (hn : n ≤ 5) (hw : w ≤ n)  (pc : PV) (B C : List (List Nat)) (hB0 : B = []) (hB : B.length + 1 ≤ C.length) (hC5 : C.length ≤ 5) (hC : ∀ o ∈ C, o.length = w) (R : List (List Nat)) (hR : ∀ x ∈ R, x.length = n) (hRl : R.length ≤ 4000) (p : PV) (g : List Nat → Option (List (List Nat)))
  (hrec : ∀ x ∈ R, gdx w (C.getD B.length []) (C.drop (B.length + 1)) x = true → m58_3 N N (.lst false (B.length + 1) (rwsP ((B ++ [x]).map nL))) pc (n : Int) (w : Int) p pc (n : Int) (w : Int) = some (ansP p (g x))) : ∀ (f i fuel : Nat), R.length - i = f → f < fuel → i ≤ R.length →
  m58_L0 N (w : Int) pc (n : Int) (w : Int) C.length (rwsP (C.map nL)) R.length (rwsP (R.map nL)) fuel (i : Int) p = some (ansL p (((R.drop i).filter (gdx w (C.getD B.length []) (C.drop (B.length + 1)))).findSome? g))
 | f, i, 0, _, hf, _ => by omega
 | f, i, fuel + 1, hf, hfu, hi => by
  rw [m58_L0]
  by_cases h : i < R.length
  ·have ih := sb_L0 N n w hN hn hw pc B C hB0 hB hC5 hC R hR hRl p g hrec (f - 1) (i + 1) fuel (by omega) (by omega) (by omega)
   have hl : (R.map nL).length = R.length := by simp
   have hlc : (C.map nL).length = C.length := by simp
   have hmem : R.getD i [] ∈ R := by simp [List.getD, h]
   have hx := hR _ hmem
   have ho : (C.getD B.length []).length = w := hC _ (by simp [List.getD, show B.length < C.length by omega])
   have e1 : ro (R.map nL) i = nL (R.getD i []) := by simp [ro, List.getD, h]
   have e2 : ro (C.map nL) B.length = nL (C.getD B.length []) := by simp [ro, List.getD, show B.length < C.length by omega]
   have ed : R.drop i = R.getD i [] :: R.drop (i + 1) := by rw [List.drop_eq_getElem_cons h]; simp [List.getD, h]
   have et : (iL (nL (R.getD i []))).take w = iL (nL ((R.getD i []).take w)) := by rw [iL_take, nL, nL, List.map_take]
   have hlt : ((R.getD i []).take w).length = w := by rw [List.length_take]; omega
   have h59 := seq_ok N (by omega) ((R.getD i []).take w) (C.getD B.length []) (by omega) (by omega)
   rw [hlt, ho] at h59
   have h1 := sb_L1 N n w hN (w : Int) pc (n : Int) (w : Int) R.length (rwsP (R.map nL)) (i : Int) p B.length (by rw [hB0]; rfl) C hB hC5 hC (R.getD i []) hx hn hw (C.length - (B.length + 1)) 0 N (decide ((R.getD i []).take w = C.getD B.length [])) (by omega) (by omega) (by omega)
   rw [Nat.add_zero] at h1
   rw [brn_dt (by omega), grd_t ⟨by omega, by omega⟩, toNatN, grd_t (by rw [List.length_drop, rws_len, hl]; omega), rws_gp (by omega), getL_t, e1, nL_len, hx, grd_t ⟨by omega, by omega⟩, grd_t (by rw [iL_len, nL_len, hx]), toNatN, grd_t (by omega), grd_t (by rw [rws_len, hlc]; omega), show gp (rwsP (C.map nL)) 0 = gp (rwsP (C.map nL)) B.length by rw [hB0]; rfl, rws_gp (by omega), getL_t, e2, nL_len, ho, et, h59, bnd_t, getB_t, grd_t (by omega), grd_t (by rw [rws_len, hlc])]
   rw [show m58_L1 N (w : Int) pc (n : Int) (w : Int) C.length (rwsP (C.map nL)) R.length (rwsP (R.map nL)) (i : Int) p n (iL (nL (R.getD i []))) N (decide ((R.getD i []).take w = C.getD B.length [])) 0 = _ from h1, bnd_t, ed, List.filter_cons, wrapN (by omega)]
   cases hg : gdx w (C.getD B.length []) (C.drop (B.length + 1)) (R.getD i []) with
   | true =>
    have hg2 := hg
    unfold gdx at hg2
    rw [brn_t hg2, if_pos rfl, List.findSome?_cons]
    have hr := hrec _ hmem hg
    have e4 : PV.lst false 1 [PV.lst false n (iL (nL (R.getD i [])))] = .lst false (B.length + 1) (rwsP ((B ++ [R.getD i []]).map nL)) := by
     subst hB0; simp [rwsP, rwP, nL_len]; exact hx.symm
    rw [e4]
    cases hgx : g (R.getD i []) with
    | none =>
     rw [hgx] at hr
     rw [hr, bnd_t]
     show getB (.bool false) _ = _
     rw [getB_t, brn_f rfl]
     exact ih
    | some B' =>
     rw [hgx] at hr
     rw [hr, bnd_t]
     show getB (.bool true) _ = _
     rw [getB_t, brn_t rfl]
     rfl
   | false =>
    have hg2 := hg
    unfold gdx at hg2
    rw [brn_f hg2, if_neg (by simp)]
    exact ih
  ·rw [brn_df (by omega), show R.drop i = [] from List.drop_eq_nil_of_le (by omega)]; rfl
def pfxB (n w : Nat) : Bool := (ext n w []).all fun c => (((ext n n []).filter fun x => decide (x.take w = c)) == ext n (n - w) c)
theorem pfx_all : (List.range 5).all (fun n => (List.range (n + 1)).all fun w => pfxB n w) = true := by decide +kernel
theorem pfx {n w : Nat} (hn : n < 5) (hw : w ≤ n) {c : List Nat} (hc : c ∈ ext n w []) : ((ext n n []).filter fun x => decide (x.take w = c)) = ext n (n - w) c := by
 have h := List.all_eq_true.1 (List.all_eq_true.1 pfx_all n (List.mem_range.2 hn)) w (List.mem_range.2 (by omega))
 unfold pfxB at h
 exact eq_of_beq (List.all_eq_true.1 h c hc)
theorem gd_fil {n w : Nat} (hn : n ≤ 4) (hw : w ≤ n) (B Q : List (List Nat)) (c : List Nat) (hc : c ∈ ext n w []) (hQ : ∀ o ∈ Q, o.length = w) (hcB : ∀ d, d < w → metB (B.map nL) d (gn c d : Nat) = false) (hcQ : ∀ o ∈ Q, ∀ d, d < w → gn c d ≠ gn o d) : (fitn n (B.map nL)).filter (gdx w c Q) = fitl n ((B ++ Q).map nL) c := by
 have hcl : c.length = w := by have := (ext_get hc).1; simpa using this
 unfold fitn fitl
 rw [hcl, ← pfx (by omega) hw hc, List.filter_filter, List.filter_filter]
 refine filter_congr' fun x hx => ?_
 by_cases hp : x.take w = c
 ·have hg : ∀ d, d < w → gn x d = gn c d := fun d hd => by rw [← hp, gn_take hd]
  unfold gdx
  rw [decide_eq_true hp, Bool.true_and, Bool.and_true, Bool.eq_iff_iff, Bool.and_eq_true]
  constructor
  ·rintro ⟨h1, h2⟩
   refine fitB_mk fun j j1 j2 => ?_
   rw [List.map_append, met_app, fitB_get h2 j (by omega) (by omega), Bool.false_or, met_nL, List.any_eq_false]
   intro q hq hh
   have := hQ q hq
   have hh' : j < q.length ∧ gn q j = gn x j := by simpa using hh
   omega
  ·intro h
   refine ⟨?_, fitB_mk fun j j1 j2 => ?_⟩
   ·rw [List.all_eq_true]
    intro o ho
    unfold noc
    rw [List.all_eq_true]
    intro k hk
    have hk' := List.mem_range.1 hk
    rw [bne_iff_ne, hg k hk']
    exact hcQ o ho k hk'
   ·by_cases hj : j < w
    ·rw [hg j hj]; exact hcB j hj
    ·have := fitB_get h j (by omega) (by omega)
     rw [List.map_append, met_app, Bool.or_eq_false_iff] at this
     exact this.1
 ·unfold gdx
  rw [decide_eq_false hp]; simp
theorem sa_ok (N n w : Nat) (hN : 5000 ≤ N) (hn1 : 1 ≤ n) (hn : n ≤ 4) (hw : w ≤ n) (C0 : List (List Nat)) (hC0 : C0.length ≤ 5) (hCw : ∀ o ∈ C0, o.length = w) (p : PV) : ∀ (Q B : List (List Nat)) (fu : Nat), Q.length < fu → B.length + Q.length = C0.length → C0.drop B.length = Q → (∀ q ∈ B, q.length = n) → Cok n w Q → (∀ l ∈ Q, ∀ d, d < w → metB (B.map nL) d (gn l d : Nat) = false) →
  m58_3 N fu (.lst false B.length (rwsP (B.map nL))) (.lst false C0.length (rwsP (C0.map nL))) (n : Int) (w : Int) p (.lst false C0.length (rwsP (C0.map nL))) (n : Int) (w : Int) = some (ansP p (fil n Q B))
 | _, _, 0, h, _, _, _, _, _ => by omega
 | [], B, fu + 1, _, hl, hd, hBn, hC, hB => by
  simp at hl
  rw [m58_3, getL_t, getL_t, brn_et (by omega)]; rfl
 | l :: Q, B, fu + 1, hf, hl, hd, hBn, hC, hB => by
  simp only [List.length_cons] at hl hf
  have hBl : (B.map nL).length = B.length := List.length_map ..
  have hdq : C0.drop (B.length + 1) = Q := by
   rw [← List.drop_drop, hd]; rfl
  have hgl : C0.getD B.length [] = l := by
   have e : C0.drop B.length = C0.getD B.length [] :: C0.drop (B.length + 1) := by rw [List.drop_eq_getElem_cons (by omega)]; simp [List.getD, show B.length < C0.length by omega]
   rw [hd] at e
   exact (List.cons.inj e).1.symm
  have hp := List.pairwise_cons.1 hC.col
  have hQw : ∀ o ∈ Q, o.length = w := fun o ho => hCw o (List.mem_of_mem_drop (show o ∈ C0.drop (B.length + 1) by rw [hdq]; exact ho))
  have h38 := m38_ok N n hN hn1 (by omega) (B.map nL) (by omega) (fun q hq => by
   obtain ⟨y, hy, rfl⟩ := List.mem_map.1 hq
   rw [nL_len]; exact hBn y hy)
  rw [hBl] at h38
  have hRl := fitn_le (n := n) (by omega) (B.map nL)
  have hR : ∀ x ∈ fitn n (B.map nL), x.length = n := fun x hx => by have := (ext_get (List.mem_filter.1 hx).1).1; simpa using this
  have hL0 := sa_L0 N n w hN (by omega) hw (m58_3 N fu) (.lst false C0.length (rwsP (C0.map nL))) B C0 (by omega) hC0 hCw (fitn n (B.map nL)) hR (by omega) p (fun x => fil n Q (B ++ [x])) (fun x hx hg => by
   rw [hgl, hdq] at hg
   unfold gdx at hg
   rw [Bool.and_eq_true, List.all_eq_true] at hg
   have hl1 : (B ++ [x]).length = B.length + 1 := by simp
   have := sa_ok N n w hN hn1 hn hw C0 hC0 hCw p Q (B ++ [x]) fu (by omega) (by omega) (by rw [hl1]; exact hdq) (fun q hq => by
    rcases List.mem_append.1 hq with hq | hq
    ·exact hBn q hq
    ·obtain rfl := List.mem_singleton.1 hq
     exact hR q hx) ⟨fun a ha => hC.row a (.tail _ ha), hp.2⟩ (fun q hq d hd => by
    rw [List.map_append, met_app, hB q (.tail _ hq) d hd, Bool.false_or, met_nL, List.any_eq_false]
    intro y hy hh
    obtain rfl := List.mem_singleton.1 hy
    have hh' : d < y.length ∧ gn y d = gn q d := by simpa using hh
    have hn2 := hg.2 q hq
    unfold noc at hn2
    rw [List.all_eq_true] at hn2
    have := hn2 d (List.mem_range.2 hd)
    rw [bne_iff_ne] at this
    exact this hh'.2)
   rw [hl1] at this
   exact this) (fitn n (B.map nL)).length 0 N (by omega) (by omega) (by omega)
  rw [List.drop_zero, hgl, hdq, gd_fil hn hw B Q l (hC.row l (.head _)) hQw (hB l (.head _)) (fun o ho d hd => hp.1 o ho d hd)] at hL0
  rw [m58_3, getL_t, getL_t, brn_ef (by omega), h38, bnd_t, getL_t, show m58_3_L0 N (m58_3 N fu) (w : Int) (.lst false C0.length (rwsP (C0.map nL))) (n : Int) (w : Int) B.length (rwsP (B.map nL)) C0.length (rwsP (C0.map nL)) (fitn n (B.map nL)).length (rwsP ((fitn n (B.map nL)).map nL)) N 0 p = _ from hL0, bnd_t, fil]
  cases (fitl n ((B ++ Q).map nL) l).findSome? fun x => fil n Q (B ++ [x]) <;> rfl
theorem sb_ok (N n w : Nat) (hN : 5000 ≤ N) (hn1 : 1 ≤ n) (hn : n ≤ 4) (hw : w ≤ n) (C0 : List (List Nat)) (hC0 : C0.length ≤ 5) (hCw : ∀ o ∈ C0, o.length = w) (hC : Cok n w C0) :
  m58 N (.lst false C0.length (rwsP (C0.map nL))) (n : Int) (w : Int) (.lst false C0.length (rwsP (C0.map nL))) (n : Int) (w : Int) = some (ansP (.lst false 0 []) (fil n C0 [])) := by
 match C0, hC0, hCw, hC with
 | [], _, _, _ => rfl
 | l :: Q, hC0, hCw, hC =>
  have hp := List.pairwise_cons.1 hC.col
  have h38 := m38_ok N n hN hn1 (by omega) [] (by simp) (by simp)
  have hRl := fitn_le (n := n) (by omega) []
  have hR : ∀ x ∈ fitn n [], x.length = n := fun x hx => by have := (ext_get (List.mem_filter.1 hx).1).1; simpa using this
  have hlen : (l :: Q).length = Q.length + 1 := rfl
  have hL0 := sb_L0 N n w hN (by omega) hw (.lst false (l :: Q).length (rwsP ((l :: Q).map nL))) [] (l :: Q) rfl (by simp) hC0 hCw (fitn n []) hR (by omega) (.lst false 0 []) (fun x => fil n Q [x]) (fun x hx hg => by
   have hg' : gdx w l Q x = true := hg
   unfold gdx at hg'
   rw [Bool.and_eq_true, List.all_eq_true] at hg'
   exact sa_ok N n w hN hn1 hn hw (l :: Q) hC0 hCw (.lst false 0 []) Q [x] N (by omega) (by simp; omega) rfl (fun q hq => by
    obtain rfl := List.mem_singleton.1 hq
    exact hR q hx) ⟨fun a ha => hC.row a (.tail _ ha), hp.2⟩ (fun q hq d hd => by
    rw [met_nL, List.any_eq_false]
    intro y hy hh
    obtain rfl := List.mem_singleton.1 hy
    have hh' : d < y.length ∧ gn y d = gn q d := by simpa using hh
    have hn2 := hg'.2 q hq
    unfold noc at hn2
    rw [List.all_eq_true] at hn2
    have := hn2 d (List.mem_range.2 hd)
    rw [bne_iff_ne] at this
    exact this hh'.2)) (fitn n []).length 0 N (by omega) (by omega) (by omega)
  have hf := gd_fil hn hw [] Q l (hC.row l (.head _)) (fun o ho => hCw o (.tail _ ho)) (fun d _ => by simp [metB]) (fun o ho d hd => hp.1 o ho d hd)
  rw [List.drop_zero] at hL0
  rw [m58, getL_t, brn_ef (by omega), show m38 N (n : Int) (.lst false 0 []) = _ from h38, bnd_t, getL_t]
  rw [show m58_L0 N (w : Int) (.lst false (l :: Q).length (rwsP ((l :: Q).map nL))) (n : Int) (w : Int) (l :: Q).length (rwsP ((l :: Q).map nL)) (fitn n []).length (rwsP ((fitn n []).map nL)) N 0 (.lst false 0 []) = _ from hL0, bnd_t]
  have he : (fitn n []).filter (gdx w ((l :: Q).getD ([] : List (List Nat)).length []) ((l :: Q).drop (([] : List (List Nat)).length + 1))) = fitl n (([] ++ Q).map nL) l := hf
  rw [he, fil]
  show _ = some (ansP _ ((fitl n (([] ++ Q).map nL) l).findSome? fun x => fil n Q [x]))
  cases (fitl n (([] ++ Q).map nL) l).findSome? fun x => fil n Q [x] <;> rfl
end Go.Proofs.YtcaecfofgdogbaaDoor
