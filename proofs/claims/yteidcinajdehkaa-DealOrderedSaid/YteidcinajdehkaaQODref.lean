/-
  DealOrders: the law's own orders (every two orders tried), and the law.
-/
import Derived.Test.YteidcinajdehkaaQODbase
set_option linter.unusedSimpArgs false
set_option linter.unusedVariables false
namespace Go.Proofs.Yteidcinajdehkaa
open Go.V
def cst (L : List (List Int)) (i j : Nat) : Int := en (ro L i) j
def crB (M : Nat → Nat → Int) (i k j l : Nat) : Bool := decide (M i j + M k l > M i l + M k j)
def adjR (M : Nat → Nat → Int) (x : Nat) (c : Nat) : Bool := (List.range' 1 (c - 1)).all fun y => !crB M (x - 1) x (y - 1) y
def adjB (M : Nat → Nat → Int) (r c : Nat) : Bool := (List.range' 1 (r - 1)).all fun x => adjR M x c
def ordM (L : List (List Int)) (H B : List Nat) : Nat → Nat → Int := fun x y => cst L (nn H x) (nn B y)
theorem all_step {p : Nat → Bool} {i n : Nat} (h : i < n) : (List.range' i (n - i)).all p = (p i && (List.range' (i + 1) (n - (i + 1))).all p) := by
  rw [range'_step h, List.all_cons]
theorem all_end {p : Nat → Bool} {i n : Nat} (h : ¬ i < n) : (List.range' i (n - i)).all p = true := by
  rw [show n - i = 0 by omega]; rfl
theorem str_L1 (N : Nat) (L : List (List Int)) (c : Nat) (hL : Okc L c) (H B : List Nat) (hHl : H.length ≤ 100) (hBl : B.length ≤ 100) (hB : ∀ b ∈ B, b < c) (x : Nat) (hx1 : 1 ≤ x) (hx : x < H.length) (h1 : nn H (x - 1) < L.length) (h2 : nn H x < L.length) : ∀ (r y fuel : Nat), B.length - y = r → r < fuel → 1 ≤ y →
    m76_L1 N L.length (rwsP L) H.length (nL H) B.length (nL B) (x : Int) (ro L (nn H (x - 1))).length (iL (ro L (nn H (x - 1)))) (ro L (nn H x)).length (iL (ro L (nn H x))) fuel (y : Int) =
      some (selF (!((List.range' y (B.length - y)).all fun y => !crB (ordM L H B) (x - 1) x (y - 1) y)))
  | r, y, 0, _, h, _ => by omega
  | r, y, f + 1, hr, hf, hy => by
    have hbl := nL_len B
    have l1 := hL.row _ h1
    have l2 := hL.row _ h2
    have i1 := iL_len (ro L (nn H (x - 1)))
    have i2 := iL_len (ro L (nn H x))
    rw [m76_L1]
    by_cases h : y < B.length
    · have ih := str_L1 N L c hL H B hHl hBl hB x hx1 hx h1 h2 (r - 1) (y + 1) f (by omega) (by omega) (by omega)
      have hw : IntKind.i64.wrap ((y : Int) - 1) = ((y - 1 : Nat) : Int) := by rw [wrap64 (by omega) (by omega)]; omega
      have b1 := hB _ (nn_mem (X := B) (i := y - 1) (by omega))
      have b2 := hB _ (nn_mem h)
      have v1 := hL.val _ _ h1 b1
      have v2 := hL.val _ _ h1 b2
      have v3 := hL.val _ _ h2 b1
      have v4 := hL.val _ _ h2 b2
      rw [brn_t (by simp; omega), hw, toNatN, toNatN, grd_t ⟨by omega, by omega⟩, grd_t (by simp only [List.length_drop]; omega), nL_gp (by omega)]
      simp only [getI, if_true]
      rw [grd_t ⟨by omega, by omega⟩, grd_t (by simp only [List.length_drop]; omega), nL_gp h]
      simp only [if_true]
      rw [toNatN, toNatN, grd_t ⟨by omega, by omega⟩, grd_t (by simp only [List.length_drop]; omega), iL_gp (by omega)]
      simp only [if_true]
      rw [grd_t ⟨by omega, by omega⟩, grd_t (by simp only [List.length_drop]; omega), iL_gp (by omega)]
      simp only [if_true]
      rw [grd_t (by omega), grd_t (by simp only [List.length_drop]; omega), iL_gp (by omega)]
      simp only [if_true]
      rw [grd_t (by omega), grd_t (by simp only [List.length_drop]; omega), iL_gp (by omega)]
      simp only [if_true]
      rw [wrap64 (n := en (ro L (nn H (x - 1))) (nn B (y - 1)) + en (ro L (nn H x)) (nn B y)) (by omega) (by omega), wrap64 (n := en (ro L (nn H (x - 1))) (nn B y) + en (ro L (nn H x)) (nn B (y - 1))) (by omega) (by omega), all_step h]
      have e : crB (ordM L H B) (x - 1) x (y - 1) y = decide (en (ro L (nn H (x - 1))) (nn B (y - 1)) + en (ro L (nn H x)) (nn B y) > en (ro L (nn H (x - 1))) (nn B y) + en (ro L (nn H x)) (nn B (y - 1))) := rfl
      rw [e]
      by_cases hc : en (ro L (nn H (x - 1))) (nn B (y - 1)) + en (ro L (nn H x)) (nn B y) > en (ro L (nn H (x - 1))) (nn B y) + en (ro L (nn H x)) (nn B (y - 1))
      · rw [brn_t (by simpa using hc), decide_eq_true hc, Bool.not_true, Bool.false_and]; rfl
      · rw [brn_f (by simpa using hc), decide_eq_false hc, Bool.not_false, Bool.true_and, wrapN (by omega), ih]
    · rw [brn_f (by simp; omega), all_end h]; rfl
theorem str_L0 (N : Nat) (hN : 2000 ≤ N) (L : List (List Int)) (c : Nat) (hL : Okc L c) (H B : List Nat) (hHl : H.length ≤ 100) (hBl : B.length ≤ 100) (hH : ∀ a ∈ H, a < L.length) (hB : ∀ b ∈ B, b < c) : ∀ (r x fuel : Nat), H.length - x = r → r < fuel → 1 ≤ x →
    m76_L0 N L.length (rwsP L) H.length (nL H) B.length (nL B) fuel (x : Int) = some (selF (!((List.range' x (H.length - x)).all fun x => adjR (ordM L H B) x B.length)))
  | r, x, 0, _, h, _ => by omega
  | r, x, f + 1, hr, hf, hx => by
    have hhl := nL_len H
    have hrl := rws_len L
    rw [m76_L0]
    by_cases h : x < H.length
    · have ih := str_L0 N hN L c hL H B hHl hBl hH hB (r - 1) (x + 1) f (by omega) (by omega) (by omega)
      have hw : IntKind.i64.wrap ((x : Int) - 1) = ((x - 1 : Nat) : Int) := by rw [wrap64 (by omega) (by omega)]; omega
      have a1 := hH _ (nn_mem (X := H) (i := x - 1) (by omega))
      have a2 := hH _ (nn_mem h)
      have h1 := str_L1 N L c hL H B hHl hBl hB x hx h a1 a2 (B.length - 1) 1 N rfl (by omega) (by omega)
      rw [brn_t (by simp; omega), hw, toNatN, toNatN, grd_t ⟨by omega, by omega⟩, grd_t (by simp only [List.length_drop]; omega), nL_gp (by omega)]
      simp only [getI, if_true]
      rw [toNatN, grd_t ⟨by omega, by omega⟩, grd_t (by simp only [List.length_drop]; omega), rws_gp a1]
      simp only [getL]
      rw [grd_t ⟨by omega, by omega⟩, grd_t (by simp only [List.length_drop]; omega), nL_gp h]
      simp only [if_true]
      rw [toNatN, grd_t ⟨by omega, by omega⟩, grd_t (by simp only [List.length_drop]; omega), rws_gp a2]
      simp only []
      rw [show m76_L1 N L.length (rwsP L) H.length (nL H) B.length (nL B) (x : Int) (ro L (nn H (x - 1))).length (iL (ro L (nn H (x - 1)))) (ro L (nn H x)).length (iL (ro L (nn H x))) N 1 = _ from h1, all_step h]
      have e : ((List.range' 1 (B.length - 1)).all fun y => !crB (ordM L H B) (x - 1) x (y - 1) y) = adjR (ordM L H B) x B.length := rfl
      rw [e]
      cases adjR (ordM L H B) x B.length with
      | false => rfl
      | true =>
        rw [Bool.not_true, Bool.true_and]
        show m76_L0 N L.length (rwsP L) H.length (nL H) B.length (nL B) f (IntKind.i64.wrap ((x : Int) + 1)) = _
        rw [wrapN (by omega), ih]
    · rw [brn_f (by simp; omega), all_end h]; rfl
theorem straight_ok (N : Nat) (hN : 2000 ≤ N) (L : List (List Int)) (c : Nat) (hL : Okc L c) (H B : List Nat) (hHl : H.length ≤ 100) (hBl : B.length ≤ 100) (hH : ∀ a ∈ H, a < L.length) (hB : ∀ b ∈ B, b < c) :
    m76 N (.lst false L.length (rwsP L)) (rwN H) (rwN B) = some (.bool (adjB (ordM L H B) H.length B.length)) := by
  have h := str_L0 N hN L c hL H B hHl hBl hH hB (H.length - 1) 1 N rfl (by omega) (by omega)
  simp only [m76, getL, rwN]
  rw [show m76_L0 N L.length (rwsP L) H.length (nL H) B.length (nL B) N 1 = _ from h]
  have e : ((List.range' 1 (H.length - 1)).all fun x => adjR (ordM L H B) x B.length) = adjB (ordM L H B) H.length B.length := rfl
  rw [e]
  cases adjB (ordM L H B) H.length B.length <;> rfl
def Str (M : Nat → Nat → Int) (r c : Nat) : Prop := ∀ i k j l, i < k → k < r → j < l → l < c → M i j + M k l ≤ M i l + M k j
theorem adj_str {M : Nat → Nat → Int} {r c : Nat} : adjB M r c = true ↔ Str M r c := by
  constructor
  · intro h
    have h0 : ∀ x y, x + 1 < r → y + 1 < c → M x y + M (x + 1) (y + 1) ≤ M x (y + 1) + M (x + 1) y := fun x y hx hy => by
      have h1 := List.all_eq_true.1 h (x + 1) (List.mem_range'_1.2 ⟨by omega, by omega⟩)
      have h2 := List.all_eq_true.1 h1 (y + 1) (List.mem_range'_1.2 ⟨by omega, by omega⟩)
      simp only [Nat.add_sub_cancel, crB, Bool.not_eq_true', decide_eq_false_iff_not] at h2
      omega
    have h1 : ∀ x d y, x + 1 < r → y + 1 + d < c → M x y + M (x + 1) (y + 1 + d) ≤ M x (y + 1 + d) + M (x + 1) y := by
      intro x d
      induction d with
      | zero => intro y hx hy; exact h0 x y hx hy
      | succ d ih =>
        intro y hx hy
        have e1 := ih y hx (by omega)
        have e2 := h0 x (y + 1 + d) hx (by omega)
        rw [show y + 1 + (d + 1) = y + 1 + d + 1 by omega]
        omega
    have h2 : ∀ d x j l, x + 1 + d < r → j < l → l < c → M x j + M (x + 1 + d) l ≤ M x l + M (x + 1 + d) j := by
      intro d
      induction d with
      | zero =>
        intro x j l hx hj hl
        have := h1 x (l - (j + 1)) j hx (by omega)
        rw [show j + 1 + (l - (j + 1)) = l by omega] at this
        exact this
      | succ d ih =>
        intro x j l hx hj hl
        have e1 := ih x j l (by omega) hj hl
        have e2 := h1 (x + 1 + d) (l - (j + 1)) j (by omega) (by omega)
        rw [show j + 1 + (l - (j + 1)) = l by omega] at e2
        rw [show x + 1 + (d + 1) = x + 1 + d + 1 by omega]
        omega
    intro i k j l hi hk hj hl
    have := h2 (k - (i + 1)) i j l (by omega) hj hl
    rw [show i + 1 + (k - (i + 1)) = k by omega] at this
    exact this
  · intro h
    refine List.all_eq_true.2 fun x hx => List.all_eq_true.2 fun y hy => ?_
    have hx := List.mem_range'_1.1 hx
    have hy := List.mem_range'_1.1 hy
    have := h (x - 1) x (y - 1) y (by omega) (by omega) (by omega) (by omega)
    simp only [crB, Bool.not_eq_true', decide_eq_false_iff_not]
    omega
def fL3 (M : Nat → Nat → Int) (c i k j l0 : Nat) : Option (Nat × Nat × Nat × Nat) := (List.range' l0 (c - l0)).findSome? fun l => if crB M i k j l then some (i, k, j, l) else none
def fL2 (M : Nat → Nat → Int) (c i k j0 : Nat) : Option (Nat × Nat × Nat × Nat) := (List.range' j0 (c - j0)).findSome? fun j => fL3 M c i k j (j + 1)
def fL1 (M : Nat → Nat → Int) (r c i k0 : Nat) : Option (Nat × Nat × Nat × Nat) := (List.range' k0 (r - k0)).findSome? fun k => fL2 M c i k 0
def fL0 (M : Nat → Nat → Int) (r c i0 : Nat) : Option (Nat × Nat × Nat × Nat) := (List.range' i0 (r - i0)).findSome? fun i => fL1 M r c i (i + 1)
def crk (M : Nat → Nat → Int) (r c : Nat) : Option (Nat × Nat × Nat × Nat) := fL0 M r c 0
theorem fs_step {α : Type} {g : Nat → Option α} {i n : Nat} (h : i < n) : (List.range' i (n - i)).findSome? g = (match g i with | some x => some x | none => (List.range' (i + 1) (n - (i + 1))).findSome? g) := by
  rw [range'_step h, List.findSome?_cons]
  cases g i <;> rfl
theorem fs_end {α : Type} {g : Nat → Option α} {i n : Nat} (h : ¬ i < n) : (List.range' i (n - i)).findSome? g = none := by
  rw [show n - i = 0 by omega]; rfl
theorem crk_none {M : Nat → Nat → Int} {r c : Nat} : crk M r c = none ↔ Str M r c := by
  unfold crk fL0 fL1 fL2 fL3
  simp only [List.findSome?_eq_none_iff, List.mem_range'_1]
  constructor
  · intro h i k j l hi hk hj hl
    have := h i ⟨by omega, by omega⟩ k ⟨by omega, by omega⟩ j ⟨by omega, by omega⟩ l ⟨by omega, by omega⟩
    unfold crB at this
    by_cases hc : M i j + M k l > M i l + M k j
    · rw [if_pos (by simpa using hc)] at this; cases this
    · omega
  · intro h i hi k hk j hj l hl
    have := h i k j l (by omega) (by omega) (by omega) (by omega)
    rw [if_neg]
    unfold crB
    simp only [decide_eq_true_eq]
    omega
theorem crk_adj (M : Nat → Nat → Int) (r c : Nat) : adjB M r c = (crk M r c).isNone := by
  have h1 := adj_str (M := M) (r := r) (c := c)
  have h2 := crk_none (M := M) (r := r) (c := c)
  rw [← h2] at h1
  cases h : crk M r c with
  | none => rw [h1.2 h]; rfl
  | some x =>
    have : adjB M r c ≠ true := fun e => by rw [h1.1 e] at h; cases h
    simpa using this
def q4 (x : Nat × Nat × Nat × Nat) : List Nat := [x.1, x.2.1, x.2.2.1, x.2.2.2]
def oP : Option (Nat × Nat × Nat × Nat) → PV ⊕ Unit
  | some x => .inl (rwN (q4 x))
  | none => .inr ()
def oW : Option (Nat × Nat × Nat × Nat) → PV ⊕ Unit
  | some x => .inl (.tup [rwN (q4 x), .int .i64 0])
  | none => .inr ()
structure Tbl (L : List (List Int)) (r c : Nat) : Prop where
  len : L.length = r
  r1 : 1 ≤ r
  r3 : r ≤ 3
  c4 : c ≤ 4
  row : ∀ i, i < r → (ro L i).length = c
  val : ∀ i j, i < r → j < c → 0 ≤ en (ro L i) j ∧ en (ro L i) j ≤ 20
theorem Okc.tbl {L : List (List Int)} {c : Nat} (h : Okc L c) : Tbl L L.length c := ⟨rfl, h.r1, h.r3, h.c4, h.row, h.val⟩
theorem cr_L3 (N : Nat) (L : List (List Int)) (r c : Nat) (hL : Tbl L r c) (i k j : Nat) (hi : i < r) (hk : k < r) (hj : j < c) : ∀ (s l fuel : Nat), c - l = s → s < fuel →
    m78_L3 N r (rwsP L) (i : Int) (k : Int) (j : Int) c fuel (l : Int) = some (oP (fL3 (cst L) c i k j l))
  | s, l, 0, _, h => by omega
  | s, l, f + 1, hs, hf => by
    have hrl := rws_len L
    have hlen := hL.len
    have l1 := hL.row _ hi
    have l2 := hL.row _ hk
    have c4 := hL.c4
    have i1 := iL_len (ro L i)
    have i2 := iL_len (ro L k)
    rw [m78_L3]
    unfold fL3
    by_cases h : l < c
    · have ih := cr_L3 N L r c hL i k j hi hk hj (s - 1) (l + 1) f (by omega) (by omega)
      have v1 := hL.val _ _ hi hj
      have v2 := hL.val _ _ hk h
      have v3 := hL.val _ _ hi h
      have v4 := hL.val _ _ hk hj
      rw [brn_t (by simp; omega), toNatN, toNatN, toNatN, toNatN, grd_t ⟨by omega, by omega⟩, grd_t (by simp only [List.length_drop]; omega), rws_gp (by omega)]
      simp only [getL]
      rw [grd_t ⟨by omega, by omega⟩, grd_t (by simp only [List.length_drop]; omega), iL_gp (by omega)]
      simp only [getI, if_true]
      rw [grd_t ⟨by omega, by omega⟩, grd_t (by simp only [List.length_drop]; omega), rws_gp (by omega)]
      simp only []
      rw [grd_t ⟨by omega, by omega⟩, grd_t (by simp only [List.length_drop]; omega), iL_gp (by omega)]
      simp only [if_true]
      rw [grd_t (by omega), grd_t (by simp only [List.length_drop]; omega), iL_gp (by omega)]
      simp only [if_true]
      rw [grd_t (by omega), grd_t (by simp only [List.length_drop]; omega), iL_gp (by omega)]
      simp only [if_true]
      rw [wrap64 (n := en (ro L i) j + en (ro L k) l) (by omega) (by omega), wrap64 (n := en (ro L i) l + en (ro L k) j) (by omega) (by omega), fs_step h]
      by_cases hc : en (ro L i) j + en (ro L k) l > en (ro L i) l + en (ro L k) j
      · have e : crB (cst L) i k j l = true := by unfold crB cst; simpa using hc
        rw [brn_t (by simpa using hc), if_pos e]; rfl
      · have e : crB (cst L) i k j l = false := by unfold crB cst; simpa using hc
        rw [brn_f (by simpa using hc), if_neg (by simp [e]), wrapN (by omega), ih]; rfl
    · rw [brn_f (by simp; omega), fs_end h]; rfl
theorem cr_L2 (N : Nat) (hN : 2000 ≤ N) (L : List (List Int)) (r c : Nat) (hL : Tbl L r c) (i k : Nat) (hi : i < r) (hk : k < r) : ∀ (s j fuel : Nat), c - j = s → s < fuel →
    m78_L2 N r (rwsP L) (i : Int) (k : Int) fuel (j : Int) = some (oP (fL2 (cst L) c i k j))
  | s, j, 0, _, h => by omega
  | s, j, f + 1, hs, hf => by
    have hrl := rws_len L
    have hlen := hL.len
    have hr1 := hL.r1
    have c4 := hL.c4
    have l0 := hL.row 0 (by omega)
    rw [m78_L2, grd_t (by omega), grd_t (by omega), rws_gp (by omega)]
    simp only [getL, l0]
    unfold fL2
    by_cases h : j < c
    · have ih := cr_L2 N hN L r c hL i k hi hk (s - 1) (j + 1) f (by omega) (by omega)
      have h3 := cr_L3 N L r c hL i k j hi hk h (c - (j + 1)) (j + 1) N rfl (by omega)
      rw [brn_t (by simp; omega), wrapN (by omega), h3, fs_step h]
      cases fL3 (cst L) c i k j (j + 1) with
      | some x => rfl
      | none => simp only [oP, bnd']; rw [ih]; rfl
    · rw [brn_f (by simp; omega), fs_end h]; rfl
theorem cr_L1 (N : Nat) (hN : 2000 ≤ N) (L : List (List Int)) (r c : Nat) (hL : Tbl L r c) (i : Nat) (hi : i < r) : ∀ (s k fuel : Nat), r - k = s → s < fuel →
    m78_L1 N r (rwsP L) (i : Int) fuel (k : Int) = some (oP (fL1 (cst L) r c i k))
  | s, k, 0, _, h => by omega
  | s, k, f + 1, hs, hf => by
    have r3 := hL.r3
    have c4 := hL.c4
    rw [m78_L1]
    unfold fL1
    by_cases h : k < r
    · have ih := cr_L1 N hN L r c hL i hi (s - 1) (k + 1) f (by omega) (by omega)
      have h3 := cr_L2 N hN L r c hL i k hi h c 0 N (by omega) (by omega)
      rw [brn_t (by simp; omega), wrapN (by omega), show m78_L2 N r (rwsP L) (i : Int) (k : Int) N 0 = _ from h3, fs_step h]
      cases fL2 (cst L) c i k 0 with
      | some x => rfl
      | none => simp only [oP, bnd']; rw [ih]; rfl
    · rw [brn_f (by simp; omega), fs_end h]; rfl
theorem cr_L0 (N : Nat) (hN : 2000 ≤ N) (L : List (List Int)) (r c : Nat) (hL : Tbl L r c) : ∀ (s i fuel : Nat), r - i = s → s < fuel →
    m78_L0 N r (rwsP L) fuel (i : Int) = some (oP (fL0 (cst L) r c i))
  | s, i, 0, _, h => by omega
  | s, i, f + 1, hs, hf => by
    have r3 := hL.r3
    rw [m78_L0]
    unfold fL0
    by_cases h : i < r
    · have ih := cr_L0 N hN L r c hL (s - 1) (i + 1) f (by omega) (by omega)
      have h3 := cr_L1 N hN L r c hL i h (r - (i + 1)) (i + 1) N rfl (by omega)
      rw [brn_t (by simp; omega), wrapN (by omega), h3, fs_step h]
      cases fL1 (cst L) r c i (i + 1) with
      | some x => rfl
      | none => simp only [oP, bnd']; rw [ih]; rfl
    · rw [brn_f (by simp; omega), fs_end h]; rfl
def crL : Option (Nat × Nat × Nat × Nat) → List Nat
  | some x => q4 x
  | none => []
theorem crooked_ok (N : Nat) (hN : 2000 ≤ N) (L : List (List Int)) (r c : Nat) (hL : Tbl L r c) : m78 N (.lst false r (rwsP L)) = some (rwN (crL (crk (cst L) r c))) := by
  have r3 := hL.r3
  have h := cr_L0 N hN L r c hL r 0 N (by omega) (by omega)
  simp only [m78, getL]
  rw [show m78_L0 N r (rwsP L) N 0 = _ from h]
  show bnd' (some (oP (crk (cst L) r c))) _ = _
  cases crk (cst L) r c <;> rfl
theorem crL_len (o : Option (Nat × Nat × Nat × Nat)) : (((crL o).length : Int) == 0) = o.isNone := by cases o <;> rfl
theorem two_cr (L : List (List Int)) (i k j l : Nat) : adjB (ordM L [i, k] [j, l]) 2 2 = !crB (cst L) i k j l := by
  simp [adjB, adjR, ordM, crB, nn, List.range']
theorem why_L3 (N : Nat) (hN : 2000 ≤ N) (L : List (List Int)) (c : Nat) (hL : Okc L c) (i k j : Nat) (hi : i < L.length) (hk : k < L.length) (hj : j < c) : ∀ (s l fuel : Nat), c - l = s → s < fuel →
    m33_L3 N L.length (rwsP L) (i : Int) (k : Int) c (j : Int) fuel (l : Int) = some (oW (fL3 (cst L) c i k j l))
  | s, l, 0, _, h => by omega
  | s, l, f + 1, hs, hf => by
    have c4 := hL.c4
    rw [m33_L3]
    unfold fL3
    by_cases h : l < c
    · have ih := why_L3 N hN L c hL i k j hi hk hj (s - 1) (l + 1) f (by omega) (by omega)
      have h3 := straight_ok N hN L c hL [i, k] [j, l] (by simp) (by simp) (by simp [hi, hk]) (by simp [hj, h])
      rw [show m76 N (.lst false L.length (rwsP L)) (.lst false 2 [.int .i64 (i : Int), .int .i64 (k : Int)]) (.lst false 2 [.int .i64 (j : Int), .int .i64 (l : Int)]) = _ from h3]
      rw [show adjB (ordM L [i, k] [j, l]) [i, k].length [j, l].length = _ from two_cr L i k j l, fs_step h]
      rw [brn_t (by simp; omega)]
      simp only [bnd', getB]
      cases e : crB (cst L) i k j l with
      | true => rw [Bool.not_true, brn_f rfl, if_pos rfl]; rfl
      | false => rw [Bool.not_false, brn_t rfl, if_neg (by simp), wrapN (by omega), ih]; rfl
    · rw [brn_f (by simp; omega), fs_end h]; rfl
theorem why_L2 (N : Nat) (hN : 2000 ≤ N) (L : List (List Int)) (c : Nat) (hL : Okc L c) (i k : Nat) (hi : i < L.length) (hk : k < L.length) : ∀ (s j fuel : Nat), c - j = s → s < fuel →
    m33_L2 N L.length (rwsP L) (i : Int) (k : Int) c fuel (j : Int) = some (oW (fL2 (cst L) c i k j))
  | s, j, 0, _, h => by omega
  | s, j, f + 1, hs, hf => by
    have c4 := hL.c4
    rw [m33_L2]
    unfold fL2
    by_cases h : j < c
    · have ih := why_L2 N hN L c hL i k hi hk (s - 1) (j + 1) f (by omega) (by omega)
      have h3 := why_L3 N hN L c hL i k j hi hk h (c - (j + 1)) (j + 1) N rfl (by omega)
      rw [brn_t (by simp; omega), wrapN (by omega), h3, fs_step h]
      cases fL3 (cst L) c i k j (j + 1) with
      | some x => rfl
      | none => simp only [oW, bnd']; rw [ih]; rfl
    · rw [brn_f (by simp; omega), fs_end h]; rfl
theorem why_L1 (N : Nat) (hN : 2000 ≤ N) (L : List (List Int)) (c : Nat) (hL : Okc L c) (i : Nat) (hi : i < L.length) : ∀ (s k fuel : Nat), L.length - k = s → s < fuel →
    m33_L1 N L.length (rwsP L) (i : Int) fuel (k : Int) = some (oW (fL1 (cst L) L.length c i k))
  | s, k, 0, _, h => by omega
  | s, k, f + 1, hs, hf => by
    have hrl := rws_len L
    have r3 := hL.r3
    have r1 := hL.r1
    have c4 := hL.c4
    rw [m33_L1]
    unfold fL1
    by_cases h : k < L.length
    · have ih := why_L1 N hN L c hL i hi (s - 1) (k + 1) f (by omega) (by omega)
      have h3 := why_L2 N hN L c hL i k hi h c 0 N (by omega) (by omega)
      rw [brn_t (by simp; omega), grd_t (by omega), grd_t (by omega), rws_gp (by omega)]
      simp only [getL, hL.row 0 (by omega)]
      rw [wrapN (by omega), show m33_L2 N L.length (rwsP L) (i : Int) (k : Int) c N 0 = _ from h3, fs_step h]
      cases fL2 (cst L) c i k 0 with
      | some x => rfl
      | none => simp only [oW, bnd']; rw [ih]; rfl
    · rw [brn_f (by simp; omega), fs_end h]; rfl
theorem why_L0 (N : Nat) (hN : 2000 ≤ N) (L : List (List Int)) (c : Nat) (hL : Okc L c) : ∀ (s i fuel : Nat), L.length - i = s → s < fuel →
    m33_L0 N L.length (rwsP L) fuel (i : Int) = some (oW (fL0 (cst L) L.length c i))
  | s, i, 0, _, h => by omega
  | s, i, f + 1, hs, hf => by
    have r3 := hL.r3
    rw [m33_L0]
    unfold fL0
    by_cases h : i < L.length
    · have ih := why_L0 N hN L c hL (s - 1) (i + 1) f (by omega) (by omega)
      have h3 := why_L1 N hN L c hL i h (L.length - (i + 1)) (i + 1) N rfl (by omega)
      rw [brn_t (by simp; omega), wrapN (by omega), h3, fs_step h]
      cases fL1 (cst L) L.length c i (i + 1) with
      | some x => rfl
      | none => simp only [oW, bnd']; rw [ih]; rfl
    · rw [brn_f (by simp; omega), fs_end h]; rfl
def whyE (L : List (List Int)) : List Nat × Int := if chk L ≠ 0 then ([], chk L) else match crk (cst L) L.length (ro L 0).length with | some x => (q4 x, 0) | none => ([], 13)
theorem why_ok (N : Nat) (hN : 2000 ≤ N) (L : List (List Int)) (hl : lgL L = false) : m33 N (.lst false L.length (rwsP L)) = some (.tup [rwN (whyE L).1, .int .i64 (whyE L).2]) ∧ m34 N (.lst false L.length (rwsP L)) = some (.tup [rwN (whyE L).1, .int .i64 (whyE L).2]) := by
  obtain ⟨e1, e2⟩ := check_ok N hN L hl
  simp only [m33, m34, getL, e1, e2, bnd', getI, if_true]
  unfold whyE
  by_cases h : chk L = 0
  · have hL := chk_zero h
    have h0 := why_L0 N hN L _ hL L.length 0 N (by omega) (by have := hL.r3; omega)
    have h1 := crooked_ok N hN L L.length _ hL.tbl
    rw [if_neg (by simpa using h)]
    have q : ∀ {α : Type} (y z : Option α), brn (chk L != 0) y z = z := fun y z => brn_f (by simpa using h)
    rw [q, q, show m33_L0 N L.length (rwsP L) N 0 = _ from h0, h1]
    simp only [bnd', rwN, getL]
    rw [crL_len]
    show _ ∧ _
    have e : fL0 (cst L) L.length (ro L 0).length 0 = crk (cst L) L.length (ro L 0).length := rfl
    rw [e]
    cases crk (cst L) L.length (ro L 0).length <;> exact ⟨rfl, rfl⟩
  · have q : ∀ {α : Type} (y z : Option α), brn (chk L != 0) y z = y := fun y z => brn_t (by simpa using h)
    rw [q, q, if_pos h]
    exact ⟨rfl, rfl⟩
theorem ord_id {L : List (List Int)} {c : Nat} : ∀ i j, i < L.length → j < c → ordM L (List.range L.length) (List.range c) i j = cst L i j := fun i j hi hj => by
  simp [ordM, nn, List.getD, hi, hj]
theorem Str_congr {M M' : Nat → Nat → Int} {r c : Nat} (h : ∀ i j, i < r → j < c → M i j = M' i j) (hs : Str M r c) : Str M' r c := fun i k j l hi hk hj hl => by
  have := hs i k j l hi hk hj hl
  rw [h i j (by omega) (by omega), h k l (by omega) (by omega), h i l (by omega) (by omega), h k j (by omega) (by omega)] at this
  exact this
def strE (L : List (List Int)) : Bool × Int := if chk L ≠ 0 then (false, chk L) else ((crk (cst L) L.length (ro L 0).length).isNone, 0)
theorem strt_ok (N : Nat) (hN : 2000 ≤ N) (L : List (List Int)) (hl : lgL L = false) : m31 N (.lst false L.length (rwsP L)) = some (.tup [.bool (strE L).1, .int .i64 (strE L).2]) ∧ m32 N (.lst false L.length (rwsP L)) = some (.tup [.bool (strE L).1, .int .i64 (strE L).2]) := by
  obtain ⟨e1, e2⟩ := check_ok N hN L hl
  simp only [m31, m32, getL, e1, e2, bnd', getI, if_true]
  unfold strE
  by_cases h : chk L = 0
  · have hL := chk_zero h
    have hrl := rws_len L
    have r1 := hL.r1
    have r3 := hL.r3
    have c4 := hL.c4
    have h1 := crooked_ok N hN L L.length _ hL.tbl
    have h0 := straight_ok N hN L _ hL (List.range L.length) (List.range (ro L 0).length) (by simp; omega) (by simp; omega) (by simp) (by simp)
    simp only [List.length_range] at h0
    have ea : adjB (ordM L (List.range L.length) (List.range (ro L 0).length)) L.length (ro L 0).length = (crk (cst L) L.length (ro L 0).length).isNone := by
      rw [← crk_adj]
      have k1 := adj_str (M := ordM L (List.range L.length) (List.range (ro L 0).length)) (r := L.length) (c := (ro L 0).length)
      have k2 := adj_str (M := cst L) (r := L.length) (c := (ro L 0).length)
      rw [Bool.eq_iff_iff, k1, k2]
      exact ⟨Str_congr ord_id, Str_congr fun i j hi hj => (ord_id i j hi hj).symm⟩
    rw [if_neg (by simpa using h)]
    have q : ∀ {α : Type} (y z : Option α), brn (chk L != 0) y z = z := fun y z => brn_f (by simpa using h)
    rw [q, q, h1, numbers_ok N _ hN (by omega)]
    simp only [bnd', rwN, getL]
    rw [grd_t (by omega), grd_t (by omega), rws_gp (by omega)]
    simp only [numbers_ok N _ hN (show (ro L 0).length ≤ 1000 by omega), rwN]
    rw [crL_len, show m76 N (.lst false L.length (rwsP L)) (.lst false (List.range L.length).length (nL (List.range L.length))) (.lst false (List.range (ro L 0).length).length (nL (List.range (ro L 0).length))) = _ from h0, ea]
    exact ⟨rfl, rfl⟩
  · have q : ∀ {α : Type} (y z : Option α), brn (chk L != 0) y z = y := fun y z => brn_t (by simpa using h)
    rw [q, q, if_pos h]
    exact ⟨rfl, rfl⟩
theorem clone_ok (N : Nat) (X : List Nat) (h : 1 ≤ X.length) (h2 : X.length ≤ 1000) : m53 N (.lst false X.length (nL X)) = some (X.length, nL X) := by
  simp only [m53, getL]
  rw [grd_t (by omega), grd_t (nL_len X), grd_t (by omega)]
theorem putP_app : ∀ (ps cs : List PV) (k : Nat), k + ps.length ≤ cs.length → putP cs k ps = cs.take k ++ ps ++ cs.drop (k + ps.length)
  | [], cs, k, h => by simp [putP]
  | p :: ps, cs, k, h => by
    simp only [List.length_cons] at h
    rw [putP, putP_app ps (cs.set k p) (k + 1) (by simp; omega)]
    have e1 : (cs.set k p).take (k + 1) = cs.take k ++ [p] := by
      rw [List.set_eq_take_append_cons_drop, if_pos (by omega), List.take_append, List.length_take, Nat.min_eq_left (by omega), show k + 1 - k = 1 by omega, List.take_take]
      simp
    have e2 : (cs.set k p).drop (k + 1 + ps.length) = cs.drop (k + (ps.length + 1)) := by
      rw [List.drop_set_of_lt (by omega)]; congr 1; omega
    rw [e1, e2, List.length_cons]
    simp
theorem del_ok (N : Nat) (X : List Nat) (k : Nat) (hk : k < X.length) (h2 : X.length ≤ 1000) :
    ∃ c, m99 N X.length (k : Int) ((k + 1 : Nat) : Int) (nL X) = some (X.length - 1, c) ∧ c.take (X.length - 1) = nL (X.eraseIdx k) := by
  have hl := nL_len X
  have t1 : Int.toNat ((X.length : Int) - ((k + 1 : Nat) : Int)) = X.length - (k + 1) := by omega
  have t2 : k + (X.length - (k + 1)) = X.length - 1 := by omega
  have t3 : Int.toNat ((X.length : Int) - ((X.length - 1 : Nat) : Int)) = 1 := by omega
  refine ⟨putP (putP (nL X) k ((((nL X).drop (k + 1))).take (X.length - (k + 1)))) (X.length - 1) (List.replicate 1 (.int .i64 0)), ?_, ?_⟩
  · simp only [m99, t1, toNatN, t2, t3]
    have q1 : ∀ {α : Type} (y z : Option α), brn ((k : Int) == ((k + 1 : Nat) : Int)) y z = z := fun y z => brn_f (by rw [beq_eq_false_iff_ne]; omega)
    have q2 : ∀ {α : Type} (y : Option α), grd ((k : Int) ≤ (X.length : Int)) y = y := fun y => grd_t (by omega)
    have q3 : ∀ {α : Type} (y : Option α), grd ((0 : Int) ≤ ((k + 1 : Nat) : Int)) y = y := fun y => grd_t (by omega)
    have q4 : ∀ {α : Type} (y : Option α), grd (List.length (List.take (X.length - (k + 1)) (List.drop (k + 1) (nL X))) = X.length - (k + 1)) y = y := fun y => grd_t (by simp only [List.length_take, List.length_drop]; omega)
    have q5 : ∀ {α : Type} (y z : Option α), brn (decide (X.length - 1 ≤ X.length - 0)) y z = y := fun y z => brn_t (by simp)
    have q6 : ∀ {α : Type} (y : Option α), grd (cutG (X.length - 1) (nL X) ∧ k ≤ (nL X).length) y = y := fun y => grd_t ⟨by unfold cutG; omega, by omega⟩
    have q7 : ∀ {α : Type} (y : Option α), grd ((0 : Int) ≤ ((X.length - 1 : Nat) : Int) ∧ ((X.length - 1 : Nat) : Int) ≤ (X.length : Int) ∧ (X.length : Int) ≤ ((X.length - 0 : Nat) : Int)) y = y := fun y => grd_t ⟨by omega, by omega, by omega⟩
    have q8 : ∀ {α : Type} (y : Option α), grd (X.length - 1 + 1 ≤ (nL X).length) y = y := fun y => grd_t (by omega)
    simp only [q1, q2, q3, q4, q5, q6, q7, q8]
    by_cases h : ((k + 1 : Nat) : Int) = (X.length : Int)
    · rw [brn_t (by simpa using h), grd_t ⟨by omega, by omega, by omega, h.symm⟩]
    · rw [brn_f (by simpa using h), grd_t ⟨by omega, by omega, by omega, by omega⟩]
  · have l1 : ((nL X).drop (k + 1)).take (X.length - (k + 1)) = (nL X).drop (k + 1) := List.take_of_length_le (by simp only [List.length_drop]; omega)
    rw [l1, putP_app _ (nL X) k (by simp only [List.length_drop]; omega)]
    have l2 : ((nL X).take k ++ (nL X).drop (k + 1)).length = X.length - 1 := by simp only [List.length_append, List.length_take, List.length_drop]; omega
    rw [putP_app _ _ _ (by simp only [List.length_append, List.length_take, List.length_drop, List.length_replicate]; omega), List.append_assoc, List.take_append, List.length_take, List.length_append, l2, Nat.min_eq_left (by omega), Nat.sub_self, List.take_zero, List.append_nil, List.take_take, Nat.min_self, List.take_append, l2, Nat.sub_self, List.take_zero, List.append_nil, List.take_of_length_le (by omega), List.eraseIdx_eq_take_drop_succ]
    simp [nL]
def prm : Nat → List Nat → List Nat → List (List Nat)
  | 0, l, _ => [l]
  | n + 1, l, left => (List.range' 0 left.length).flatMap fun k => prm n (l ++ [nn left k]) (left.eraseIdx k)
def prmF (n : Nat) (l left : List Nat) (i : Nat) : List (List Nat) := (List.range' i (left.length - i)).flatMap fun k => prm n (l ++ [nn left k]) (left.eraseIdx k)
theorem prmF_step {n : Nat} {l left : List Nat} {i : Nat} (h : i < left.length) : prmF n l left i = prm n (l ++ [nn left i]) (left.eraseIdx i) ++ prmF n l left (i + 1) := by
  unfold prmF
  rw [range'_step h, List.flatMap_cons]
theorem prmF_end {n : Nat} {l left : List Nat} {i : Nat} (h : ¬ i < left.length) : prmF n l left i = [] := by
  unfold prmF
  rw [show left.length - i = 0 by omega]; rfl
theorem prmF_zero {n : Nat} {l left : List Nat} : prmF n l left 0 = prm (n + 1) l left := rfl
theorem prm_mem : ∀ (n : Nat) (l left : List Nat), left.length = n → ∀ x ∈ prm n l left, x.length = l.length + n ∧ ∀ y ∈ x, y ∈ l ∨ y ∈ left
  | 0, l, left, _, x, hx => by
    simp only [prm, List.mem_singleton] at hx; subst hx
    exact ⟨rfl, fun y hy => .inl hy⟩
  | n + 1, l, left, hn, x, hx => by
    simp only [prm, List.mem_flatMap, List.mem_range'_1] at hx
    obtain ⟨k, hk, hx⟩ := hx
    obtain ⟨h1, h2⟩ := prm_mem n _ _ (by rw [List.length_eraseIdx, if_pos (by omega)]; omega) x hx
    refine ⟨by rw [h1]; simp; omega, fun y hy => ?_⟩
    rcases h2 y hy with h | h
    · rcases List.mem_append.1 h with h | h
      · exact .inl h
      · simp only [List.mem_singleton] at h; subst h; exact .inr (nn_mem (by omega))
    · exact .inr (List.mem_of_mem_eraseIdx h)
def qB (L : List (List Int)) (A B : List Nat) : Bool := adjB (ordM L A B) A.length B.length
theorem nL_app (X : List Nat) (y : Nat) : nL X ++ [.int .i64 (y : Int)] = nL (X ++ [y]) := by simp [nL]
theorem rwN_app (X : List Nat) (y : Nat) : PV.lst false (X.length + 1) (nL (X ++ [y])) = rwN (X ++ [y]) := by simp [rwN]
theorem rwN_er {X : List Nat} {k : Nat} (hk : k < X.length) : PV.lst false (X.length - 1) (nL (X.eraseIdx k)) = rwN (X.eraseIdx k) := by
  simp only [rwN, List.length_eraseIdx, if_pos hk]
section
variable (N : Nat) (hN : 2000 ≤ N) (L : List (List Int)) (c : Nat) (hL : Okc L c) (A : List Nat) (hA : ∀ a ∈ A, a < L.length) (hAl : A.length ≤ 100)
include hN hL hA hAl
theorem put3 : ∀ (n : Nat) (l left : List Nat) (fu : Nat) (h b : PV), left.length = n → n < fu → l.length + n ≤ 100 → (∀ x ∈ l, x < c) → (∀ x ∈ left, x < c) →
    (∀ B, (prm n l left).find? (qB L A) = some B → m98_3 N fu (rwN l) (rwN left) (.lst false L.length (rwsP L)) (rwN A) h b = some (.bool true, rwN A, rwN A, rwN B)) ∧
    ((prm n l left).find? (qB L A) = none → ∃ h' b', m98_3 N fu (rwN l) (rwN left) (.lst false L.length (rwsP L)) (rwN A) h b = some (.bool false, rwN A, h', b'))
  | n, l, left, 0, _, _, _, h, _, _, _ => by omega
  | 0, l, left, fu + 1, h, b, hn, _, hl, hb, hb2 => by
    obtain rfl : left = [] := List.eq_nil_of_length_eq_zero hn
    have hs := straight_ok N hN L c hL A l hAl (by omega) hA hb
    have e : m98_3 N (fu + 1) (rwN l) (rwN []) (.lst false L.length (rwsP L)) (rwN A) h b = some (.bool (qB L A l), rwN A, rwN A, rwN l) := by
      rw [m98_3]
      simp only [rwN, getL]
      rw [brn_t (eq0_t (n := ([] : List Nat).length) rfl)]
      simp only [m81_2, getL]
      rw [show m76 N (.lst false L.length (rwsP L)) (.lst false A.length (nL A)) (.lst false l.length (nL l)) = _ from hs]
      rfl
    rw [e]
    simp only [prm, List.find?_cons, List.find?_nil]
    cases hq : qB L A l with
    | true => exact ⟨fun B hB => by cases hB; rfl, fun h => by cases h⟩
    | false => exact ⟨fun B hB => (by cases hB), fun _ => ⟨_, _, rfl⟩⟩
  | n + 1, l, left, fu + 1, h, b, hn, hf, hl, hb, hb2 => by
    have hll := nL_len l
    have hlf := nL_len left
    have loop : ∀ (s i fuel : Nat) (h b : PV), left.length - i = s → s < fuel →
        (∀ B, (prmF n l left i).find? (qB L A) = some B → m98_3_L0 N (m98_3 N fu) (.lst false L.length (rwsP L)) l.length (nL l) left.length (nL left) fuel (i : Int) (rwN A) h b = some (.inl (.bool true, rwN A, rwN A, rwN B))) ∧
        ((prmF n l left i).find? (qB L A) = none → ∃ h' b', m98_3_L0 N (m98_3 N fu) (.lst false L.length (rwsP L)) l.length (nL l) left.length (nL left) fuel (i : Int) (rwN A) h b = some (.inr (rwN A, h', b'))) := by
      intro s
      induction s with
      | zero =>
        intro i fuel h b hs hfu
        cases fuel with
        | zero => omega
        | succ f =>
          rw [m98_3_L0, brn_f (by simp; omega), prmF_end (by omega)]
          exact ⟨fun B hB => by simp at hB, fun _ => ⟨_, _, rfl⟩⟩
      | succ s ih =>
        intro i fuel h b hs hfu
        cases fuel with
        | zero => omega
        | succ f =>
          have hi : i < left.length := by omega
          have hx := hb2 _ (nn_mem hi)
          obtain ⟨cc, d1, d2⟩ := del_ok N left i hi (by omega)
          obtain ⟨r1, r2⟩ := put3 n (l ++ [nn left i]) (left.eraseIdx i) fu h b (by rw [List.length_eraseIdx, if_pos hi]; omega) (by omega) (by simp; omega) (fun x hx' => by
            rcases List.mem_append.1 hx' with hx' | hx'
            · exact hb x hx'
            · simp only [List.mem_singleton] at hx'; subst hx'; exact hx) (fun x hx' => hb2 x (List.mem_of_mem_eraseIdx hx'))
          rw [m98_3_L0, brn_t (by simp; omega), toNatN, grd_t ⟨by omega, by omega⟩, grd_t (by simp only [List.length_drop]; omega), nL_gp hi]
          simp only [getI, if_true]
          rw [grd_t ⟨by omega, by omega⟩, grd_t hll, grd_t (by omega), clone_ok N left (by omega) (by omega)]
          simp only [bnd']
          rw [wrapN (by omega), d1]
          simp only []
          rw [d2, nL_app, rwN_app, rwN_er hi, prmF_step hi, List.find?_append]
          cases hq : (prm n (l ++ [nn left i]) (left.eraseIdx i)).find? (qB L A) with
          | some B =>
            rw [r1 B hq]
            exact ⟨fun B' hB => by cases hB; rfl, fun h => by cases h⟩
          | none =>
            obtain ⟨h', b', e⟩ := r2 hq
            rw [e]
            simp only [getB]
            rw [brn_f rfl]
            exact ih (i + 1) f h' b' (by omega) (by omega)
    obtain ⟨l1, l2⟩ := loop left.length 0 N h b (by omega) (by omega)
    rw [prmF_zero] at l1 l2
    rw [m98_3]
    simp only [rwN, getL]
    rw [brn_f (eq0_f (by omega))]
    constructor
    · intro B hB
      have e : m98_3_L0 N (m98_3 N fu) (.lst false L.length (rwsP L)) l.length (nL l) left.length (nL left) N 0 (.lst false A.length (nL A)) h b = _ := l1 B hB
      rw [e]; rfl
    · intro hB
      obtain ⟨h', b', e'⟩ := l2 hB
      have e : m98_3_L0 N (m98_3 N fu) (.lst false L.length (rwsP L)) l.length (nL l) left.length (nL left) N 0 (.lst false A.length (nL A)) h b = _ := e'
      rw [e]; exact ⟨h', b', rfl⟩
theorem put2 : ∀ (s i fuel : Nat) (h b : PV), c - i = s → s < fuel →
    (∀ B, (prmF (c - 1) [] (List.range c) i).find? (qB L A) = some B → m98_2_L0 N (.lst false L.length (rwsP L)) c (nL (List.range c)) fuel (i : Int) (rwN A) h b = some (.inl (.bool true, rwN A, rwN A, rwN B))) ∧
    ((prmF (c - 1) [] (List.range c) i).find? (qB L A) = none → ∃ h' b', m98_2_L0 N (.lst false L.length (rwsP L)) c (nL (List.range c)) fuel (i : Int) (rwN A) h b = some (.inr (rwN A, h', b')))
  | s, i, 0, _, _, _, h => by omega
  | s, i, f + 1, h, b, hs, hf => by
    have c4 := hL.c4
    have hll : (List.range c).length = c := by simp
    have hlf : (nL (List.range c)).length = c := by rw [nL_len]; simp
    rw [m98_2_L0]
    by_cases hi : i < c
    · have hx := nn_mem (X := List.range c) (i := i) (by simpa using hi)
      obtain ⟨cc, d1, d2⟩ := del_ok N (List.range c) i (by simpa using hi) (by simp; omega)
      have e1 := clone_ok N (List.range c) (by simp; omega) (by simp; omega)
      rw [hll] at d1 d2 e1
      obtain ⟨r1, r2⟩ := put3 N hN L c hL A hA hAl (c - 1) [nn (List.range c) i] ((List.range c).eraseIdx i) N h b (by rw [List.length_eraseIdx, if_pos (by simpa using hi)]; simp) (by omega) (by simp; omega) (fun x hx' => by
            simp only [List.mem_singleton] at hx'; subst hx'; simpa using hx) (fun x hx' => by simpa using List.mem_of_mem_eraseIdx hx')
      have ih := fun h b => put2 (s - 1) (i + 1) f h b (by omega) (by omega)
      rw [brn_t (by simp; omega), toNatN, grd_t ⟨by omega, by omega⟩, grd_t (by simp only [List.length_drop]; omega), nL_gp (by simpa using hi)]
      simp only [getI, if_true]
      rw [e1]
      simp only [bnd']
      rw [wrapN (by omega), d1]
      simp only []
      have e3 : PV.lst false (c - 1) (nL ((List.range c).eraseIdx i)) = rwN ((List.range c).eraseIdx i) := by
        have := rwN_er (X := List.range c) (k := i) (by simpa using hi)
        rw [hll] at this; exact this
      rw [d2, e3, prmF_step (by simpa using hi), List.find?_append]
      cases hq : (prm (c - 1) ([] ++ [nn (List.range c) i]) ((List.range c).eraseIdx i)).find? (qB L A) with
      | some B =>
        have := r1 B hq
        rw [show m98_3 N N (.lst false 1 [.int .i64 (nn (List.range c) i : Int)]) (rwN ((List.range c).eraseIdx i)) (.lst false L.length (rwsP L)) (rwN A) h b = _ from this]
        exact ⟨fun B' hB => by cases hB; rfl, fun h => by cases h⟩
      | none =>
        obtain ⟨h', b', e⟩ := r2 hq
        rw [show m98_3 N N (.lst false 1 [.int .i64 (nn (List.range c) i : Int)]) (rwN ((List.range c).eraseIdx i)) (.lst false L.length (rwsP L)) (rwN A) h b = _ from e]
        simp only [getB]
        rw [brn_f rfl]
        exact ih h' b'
    · rw [brn_f (by simp; omega), prmF_end (by simpa using hi)]
      exact ⟨fun B hB => by simp at hB, fun _ => ⟨_, _, rfl⟩⟩
def inn (L : List (List Int)) (c : Nat) (A : List Nat) : Option (List Nat) := (prm c [] (List.range c)).find? (qB L A)
theorem put8 (h b : PV) :
    (∀ B, inn L c A = some B → m80_2 N (rwN A) (.lst false L.length (rwsP L)) h b = some (.bool true, rwN A, rwN B)) ∧
    (inn L c A = none → ∃ h' b', m80_2 N (rwN A) (.lst false L.length (rwsP L)) h b = some (.bool false, h', b')) := by
  have c1 := hL.c1
  have c4 := hL.c4
  have r1 := hL.r1
  have r3 := hL.r3
  have hrl := rws_len L
  obtain ⟨l1, l2⟩ := put2 N hN L c hL A hA hAl c 0 N h b (by omega) (by omega)
  rw [prmF_zero, show c - 1 + 1 = c by omega] at l1 l2
  simp only [m80_2, rwN, getL]
  rw [grd_t (by omega), grd_t (by omega), rws_gp (by omega)]
  simp only [hL.row 0 (by omega)]
  simp only [m79_2, numbers_ok N c hN (by omega), bnd', rwN, getL, m98_2, List.length_range]
  rw [brn_f (eq0_f (by omega))]
  unfold inn
  constructor
  · intro B hB
    have e : m98_2_L0 N (.lst false L.length (rwsP L)) c (nL (List.range c)) N 0 (.lst false A.length (nL A)) h b = _ := l1 B hB
    rw [e]; rfl
  · intro hB
    obtain ⟨h', b', e'⟩ := l2 hB
    have e : m98_2_L0 N (.lst false L.length (rwsP L)) c (nL (List.range c)) N 0 (.lst false A.length (nL A)) h b = _ := e'
    rw [e]; exact ⟨h', b', rfl⟩
end
section
variable (N : Nat) (hN : 2000 ≤ N) (L : List (List Int)) (c : Nat) (hL : Okc L c)
include hN hL
theorem put4 : ∀ (n : Nat) (l left : List Nat) (fu : Nat) (h b : PV), left.length = n → n < fu → l.length + n ≤ 100 → (∀ x ∈ l, x < L.length) → (∀ x ∈ left, x < L.length) →
    (∀ A, (prm n l left).find? (fun A => (inn L c A).isSome) = some A → ∃ B, inn L c A = some B ∧ m98_4 N fu (rwN l) (rwN left) (.lst false L.length (rwsP L)) h b = some (.bool true, rwN A, rwN B)) ∧
    ((prm n l left).find? (fun A => (inn L c A).isSome) = none → ∃ h' b', m98_4 N fu (rwN l) (rwN left) (.lst false L.length (rwsP L)) h b = some (.bool false, h', b'))
  | n, l, left, 0, _, _, _, h, _, _, _ => by omega
  | 0, l, left, fu + 1, h, b, hn, _, hl, hb, hb2 => by
    obtain rfl : left = [] := List.eq_nil_of_length_eq_zero hn
    obtain ⟨p1, p2⟩ := put8 N hN L c hL l hb (by omega) h b
    have e : ∀ r, m80_2 N (rwN l) (.lst false L.length (rwsP L)) h b = some r → m98_4 N (fu + 1) (rwN l) (rwN []) (.lst false L.length (rwsP L)) h b = (match r with | (p, q, s) => getB p fun b => some (.bool b, q, s)) := fun r hr => by
      rw [m98_4]
      simp only [rwN, getL]
      rw [brn_t (eq0_t (n := ([] : List Nat).length) rfl), show m80_2 N (.lst false l.length (nL l)) (.lst false L.length (rwsP L)) h b = _ from hr]
      rfl
    simp only [prm, List.find?_cons, List.find?_nil]
    cases hq : inn L c l with
    | some B =>
      rw [e _ (p1 B hq)]
      exact ⟨fun A hA => by cases hA; exact ⟨B, hq, rfl⟩, fun h => by cases h⟩
    | none =>
      obtain ⟨h', b', e'⟩ := p2 hq
      rw [e _ e']
      exact ⟨fun A hA => (by cases hA), fun _ => ⟨h', b', rfl⟩⟩
  | n + 1, l, left, fu + 1, h, b, hn, hf, hl, hb, hb2 => by
    have hll := nL_len l
    have hlf := nL_len left
    have loop : ∀ (s i fuel : Nat) (h b : PV), left.length - i = s → s < fuel →
        (∀ A, (prmF n l left i).find? (fun A => (inn L c A).isSome) = some A → ∃ B, inn L c A = some B ∧ m98_4_L0 N (m98_4 N fu) (.lst false L.length (rwsP L)) l.length (nL l) left.length (nL left) fuel (i : Int) h b = some (.inl (.bool true, rwN A, rwN B))) ∧
        ((prmF n l left i).find? (fun A => (inn L c A).isSome) = none → ∃ h' b', m98_4_L0 N (m98_4 N fu) (.lst false L.length (rwsP L)) l.length (nL l) left.length (nL left) fuel (i : Int) h b = some (.inr (h', b'))) := by
      intro s
      induction s with
      | zero =>
        intro i fuel h b hs hfu
        cases fuel with
        | zero => omega
        | succ f =>
          rw [m98_4_L0, brn_f (by simp; omega), prmF_end (by omega)]
          exact ⟨fun B hB => by simp at hB, fun _ => ⟨_, _, rfl⟩⟩
      | succ s ih =>
        intro i fuel h b hs hfu
        cases fuel with
        | zero => omega
        | succ f =>
          have hi : i < left.length := by omega
          have hx := hb2 _ (nn_mem hi)
          obtain ⟨cc, d1, d2⟩ := del_ok N left i hi (by omega)
          obtain ⟨r1, r2⟩ := put4 n (l ++ [nn left i]) (left.eraseIdx i) fu h b (by rw [List.length_eraseIdx, if_pos hi]; omega) (by omega) (by simp; omega) (fun x hx' => by
            rcases List.mem_append.1 hx' with hx' | hx'
            · exact hb x hx'
            · simp only [List.mem_singleton] at hx'; subst hx'; exact hx) (fun x hx' => hb2 x (List.mem_of_mem_eraseIdx hx'))
          rw [m98_4_L0, brn_t (by simp; omega), toNatN, grd_t ⟨by omega, by omega⟩, grd_t (by simp only [List.length_drop]; omega), nL_gp hi]
          simp only [getI, if_true]
          rw [grd_t ⟨by omega, by omega⟩, grd_t hll, grd_t (by omega), clone_ok N left (by omega) (by omega)]
          simp only [bnd']
          rw [wrapN (by omega), d1]
          simp only []
          rw [d2, nL_app, rwN_app, rwN_er hi, prmF_step hi, List.find?_append]
          cases hq : (prm n (l ++ [nn left i]) (left.eraseIdx i)).find? (fun A => (inn L c A).isSome) with
          | some A =>
            obtain ⟨B, hB, e⟩ := r1 A hq
            rw [e]
            exact ⟨fun B' hB' => by cases hB'; exact ⟨B, hB, rfl⟩, fun h => by cases h⟩
          | none =>
            obtain ⟨h', b', e⟩ := r2 hq
            rw [e]
            simp only [getB]
            rw [brn_f rfl]
            exact ih (i + 1) f h' b' (by omega) (by omega)
    obtain ⟨l1, l2⟩ := loop left.length 0 N h b (by omega) (by omega)
    rw [prmF_zero] at l1 l2
    rw [m98_4]
    simp only [rwN, getL]
    rw [brn_f (eq0_f (by omega))]
    constructor
    · intro A hA
      obtain ⟨B, hB, e'⟩ := l1 A hA
      have e : m98_4_L0 N (m98_4 N fu) (.lst false L.length (rwsP L)) l.length (nL l) left.length (nL left) N 0 h b = _ := e'
      rw [e]; exact ⟨B, hB, rfl⟩
    · intro hB
      obtain ⟨h', b', e'⟩ := l2 hB
      have e : m98_4_L0 N (m98_4 N fu) (.lst false L.length (rwsP L)) l.length (nL l) left.length (nL left) N 0 h b = _ := e'
      rw [e]; exact ⟨h', b', rfl⟩
theorem put1 : ∀ (s i fuel : Nat) (h b : PV), L.length - i = s → s < fuel →
    (∀ A, (prmF (L.length - 1) [] (List.range L.length) i).find? (fun A => (inn L c A).isSome) = some A → ∃ B, inn L c A = some B ∧ m98_L0 N (.lst false L.length (rwsP L)) L.length (nL (List.range L.length)) fuel (i : Int) h b = some (.inl (.bool true, rwN A, rwN B))) ∧
    ((prmF (L.length - 1) [] (List.range L.length) i).find? (fun A => (inn L c A).isSome) = none → ∃ h' b', m98_L0 N (.lst false L.length (rwsP L)) L.length (nL (List.range L.length)) fuel (i : Int) h b = some (.inr (h', b')))
  | s, i, 0, _, _, _, h => by omega
  | s, i, f + 1, h, b, hs, hf => by
    have r3 := hL.r3
    have hll : (List.range L.length).length = L.length := by simp
    have hlf : (nL (List.range L.length)).length = L.length := by rw [nL_len]; simp
    rw [m98_L0]
    by_cases hi : i < L.length
    · have hx := nn_mem (X := List.range L.length) (i := i) (by simpa using hi)
      obtain ⟨cc, d1, d2⟩ := del_ok N (List.range L.length) i (by simpa using hi) (by simp; omega)
      have e1 := clone_ok N (List.range L.length) (by simp; omega) (by simp; omega)
      rw [hll] at d1 d2 e1
      obtain ⟨r1, r2⟩ := put4 N hN L c hL (L.length - 1) [nn (List.range L.length) i] ((List.range L.length).eraseIdx i) N h b (by rw [List.length_eraseIdx, if_pos (by simpa using hi)]; simp) (by omega) (by simp; omega) (fun x hx' => by
            simp only [List.mem_singleton] at hx'; subst hx'; simpa using hx) (fun x hx' => by simpa using List.mem_of_mem_eraseIdx hx')
      have ih := fun h b => put1 (s - 1) (i + 1) f h b (by omega) (by omega)
      rw [brn_t (by simp; omega), toNatN, grd_t ⟨by omega, by omega⟩, grd_t (by simp only [List.length_drop]; omega), nL_gp (by simpa using hi)]
      simp only [getI, if_true]
      rw [e1]
      simp only [bnd']
      rw [wrapN (by omega), d1]
      simp only []
      have e3 : PV.lst false (L.length - 1) (nL ((List.range L.length).eraseIdx i)) = rwN ((List.range L.length).eraseIdx i) := by
        have := rwN_er (X := List.range L.length) (k := i) (by simpa using hi)
        rw [hll] at this; exact this
      rw [d2, e3, prmF_step (by simpa using hi), List.find?_append]
      cases hq : (prm (L.length - 1) ([] ++ [nn (List.range L.length) i]) ((List.range L.length).eraseIdx i)).find? (fun A => (inn L c A).isSome) with
      | some A =>
        obtain ⟨B, hB, e⟩ := r1 A hq
        rw [show m98_4 N N (.lst false 1 [.int .i64 (nn (List.range L.length) i : Int)]) (rwN ((List.range L.length).eraseIdx i)) (.lst false L.length (rwsP L)) h b = _ from e]
        exact ⟨fun B' hB' => by cases hB'; exact ⟨B, hB, rfl⟩, fun h => by cases h⟩
      | none =>
        obtain ⟨h', b', e⟩ := r2 hq
        rw [show m98_4 N N (.lst false 1 [.int .i64 (nn (List.range L.length) i : Int)]) (rwN ((List.range L.length).eraseIdx i)) (.lst false L.length (rwsP L)) h b = _ from e]
        simp only [getB]
        rw [brn_f rfl]
        exact ih h' b'
    · rw [brn_f (by simp; omega), prmF_end (by simpa using hi)]
      exact ⟨fun B hB => by simp at hB, fun _ => ⟨_, _, rfl⟩⟩
end
def ordE (L : List (List Int)) : List Nat × List Nat × Int :=
  if chk L ≠ 0 then ([], [], chk L) else
  match (prm L.length [] (List.range L.length)).findSome? (fun A => (inn L (ro L 0).length A).map fun B => (A, B)) with
  | some x => (x.1, x.2, 0)
  | none => ([], [], 12)
theorem find_some {α β : Type} (g : α → Option β) : ∀ (P : List α), P.findSome? (fun a => (g a).map fun b => (a, b)) = (match P.find? (fun a => (g a).isSome) with | some a => (g a).map fun b => (a, b) | none => none)
  | [] => rfl
  | a :: P => by
    rw [List.findSome?_cons, List.find?_cons]
    cases h : g a with
    | some b => simp [h]
    | none => simpa [h] using find_some g P
theorem orders_ok (N : Nat) (hN : 2000 ≤ N) (L : List (List Int)) (hl : lgL L = false) : m35 N (.lst false L.length (rwsP L)) = some (.tup [rwN (ordE L).1, rwN (ordE L).2.1, .int .i64 (ordE L).2.2]) := by
  obtain ⟨e1, _⟩ := check_ok N hN L hl
  simp only [m35, getL, e1, bnd', getI, if_true]
  unfold ordE
  by_cases h : chk L = 0
  · have hL := chk_zero h
    have r1 := hL.r1
    have r3 := hL.r3
    obtain ⟨l1, l2⟩ := put1 N hN L _ hL L.length 0 N .nl .nl (by omega) (by omega)
    rw [prmF_zero, show L.length - 1 + 1 = L.length by omega] at l1 l2
    rw [if_neg (by simpa using h), brn_f (by simpa using h), find_some]
    simp only [m79, numbers_ok N L.length hN (by omega), bnd', rwN, getL, m98, List.length_range]
    rw [brn_f (eq0_f (by omega))]
    cases hq : (prm L.length [] (List.range L.length)).find? (fun A => (inn L (ro L 0).length A).isSome) with
    | some A =>
      obtain ⟨B, hB, e'⟩ := l1 A hq
      have e : m98_L0 N (.lst false L.length (rwsP L)) L.length (nL (List.range L.length)) N 0 .nl .nl = _ := e'
      rw [e]
      simp only [hB]
      rfl
    | none =>
      obtain ⟨h', b', e'⟩ := l2 hq
      have e : m98_L0 N (.lst false L.length (rwsP L)) L.length (nL (List.range L.length)) N 0 .nl .nl = _ := e'
      rw [e]
      rfl
  · rw [brn_t (by simpa using h), if_pos h]
    rfl
end Go.Proofs.Yteidcinajdehkaa
namespace Go.Proofs.Yteidcinajdehkaa
open Go.V
set_option linter.unusedSectionVars false
set_option linter.unnecessarySimpa false
def roN (P : List (List Nat)) (k : Nat) : List Nat := P.getD k []
theorem gpN {P : List (List Nat)} {k : Nat} (h : k < P.length) : gp (P.map rwN) k = .lst false (roN P k).length (nL (roN P k)) := by
  simp [gp, roN, rwN, List.getD, h]
theorem roN_mem {P : List (List Nat)} {k : Nat} (h : k < P.length) : roN P k ∈ P := by
  simp [roN, List.getD, h]
theorem drop_roN {P : List (List Nat)} {k : Nat} (h : k < P.length) : P.drop k = roN P k :: P.drop (k + 1) := by
  rw [List.drop_eq_getElem_cons h]; simp [roN, List.getD, h]
theorem drop_nn {P : List Nat} {k : Nat} (h : k < P.length) : P.drop k = nn P k :: P.drop (k + 1) := by
  rw [List.drop_eq_getElem_cons h]; simp [nn, List.getD, h]
def prs (n : Nat) : List (List Nat) := prm n [] (List.range n)
theorem refo_ok (n : Nat) (h1 : 1 ≤ n) (h4 : n ≤ 4) : m82 2000 2000 (n : Int) (.lst false 0 []) = some (.lst false (prs n).length ((prs n).map rwN)) ∧ (prs n).length ≤ 100 := by
  have h : n = 1 ∨ n = 2 ∨ n = 3 ∨ n = 4 := by omega
  rcases h with rfl | rfl | rfl | rfl
  · exact ⟨by kernel_rfl, by decide⟩
  · exact ⟨by kernel_rfl, by decide⟩
  · exact ⟨by kernel_rfl, by decide⟩
  · exact ⟨by kernel_rfl, by decide⟩
theorem prs_mem {n : Nat} {x : List Nat} (h : x ∈ prs n) : x.length = n ∧ ∀ y ∈ x, y < n := by
  obtain ⟨h1, h2⟩ := prm_mem n [] (List.range n) (by simp) x h
  exact ⟨by simpa using h1, fun y hy => by rcases h2 y hy with h | h <;> simpa using h⟩
def put (L : List (List Int)) (A B : List Nat) : List (List Int) := A.map fun i => B.map fun j => cst L i j
def putR (L : List (List Int)) (B : List Nat) (i : Nat) : List Int := B.map fun j => cst L i j
theorem put_len {L : List (List Int)} {A B : List Nat} : (put L A B).length = A.length := by simp [put]
theorem put_ro {L : List (List Int)} {A B : List Nat} {i : Nat} (h : i < A.length) : ro (put L A B) i = putR L B (nn A i) := by
  simp [put, ro, putR, nn, List.getD, h]
theorem put_en {L : List (List Int)} {B : List Nat} {i j : Nat} (h : j < B.length) : en (putR L B i) j = cst L i (nn B j) := by
  simp [putR, en, nn, List.getD, h]
section
variable (L : List (List Int)) (c : Nat) (hL : Okc L c) (A B : List Nat) (hA : ∀ a ∈ A, a < L.length) (hAl : A.length = L.length) (hB : ∀ b ∈ B, b < c) (hBl : B.length = c)
include hL hA hAl hB hBl
theorem put_tbl : Tbl (put L A B) L.length c := by
  refine ⟨by rw [put_len, hAl], hL.r1, hL.r3, hL.c4, fun i hi => ?_, fun i j hi hj => ?_⟩
  · rw [put_ro (by omega)]; simp [putR, hBl]
  · rw [put_ro (by omega), put_en (by omega)]
    exact hL.val _ _ (hA _ (nn_mem (by omega))) (hB _ (nn_mem (by omega)))
theorem put_q : (crk (cst (put L A B)) L.length c).isNone = qB L A B := by
  unfold qB
  rw [← crk_adj, hAl, hBl]
  have k1 := adj_str (M := cst (put L A B)) (r := L.length) (c := c)
  have k2 := adj_str (M := ordM L A B) (r := L.length) (c := c)
  have e : ∀ i j, i < L.length → j < c → cst (put L A B) i j = ordM L A B i j := fun i j hi hj => by
    show en (ro (put L A B) i) j = _
    rw [put_ro (by omega), put_en (by omega)]; rfl
  rw [Bool.eq_iff_iff, k1, k2]
  exact ⟨Str_congr e, Str_congr fun i j hi hj => (e i j hi hj).symm⟩
end
section
variable (N : Nat) (hN : 2000 ≤ N) (L : List (List Int)) (c : Nat) (hL : Okc L c) (P Q : List (List Nat)) (hP : ∀ x ∈ P, x.length = L.length ∧ ∀ y ∈ x, y < L.length) (hQ : ∀ x ∈ Q, x.length = c ∧ ∀ y ∈ x, y < c) (hPl : P.length ≤ 100) (hQl : Q.length ≤ 100)
include hN hL hP hQ hPl hQl
theorem od_L3 (a b i : Nat) (ha : a < P.length) (hb : b < Q.length) (hi : i < L.length) (n1644 : Nat) (c1646 : List PV) : ∀ (s j fuel : Nat), c - j = s → j ≤ c → s < fuel →
    m36_L3 N L.length (rwsP L) P.length (P.map rwN) Q.length (Q.map rwN) (a : Int) (b : Int) n1644 (i : Int) c1646 (roN P a).length (nL (roN P a)) fuel j (j : Int) (iL (putR L ((roN Q b).take j) (nn (roN P a) i))) = some (c, iL (putR L (roN Q b) (nn (roN P a) i)))
  | s, j, 0, _, _, h => by omega
  | s, j, f + 1, hs, hj, hf => by
    have c4 := hL.c4
    have r3 := hL.r3
    have hrl := rws_len L
    have hPm : (P.map rwN).length = P.length := by simp
    have hQm : (Q.map rwN).length = Q.length := by simp
    obtain ⟨pa, pb⟩ := hP _ (roN_mem ha)
    obtain ⟨qa, qb⟩ := hQ _ (roN_mem hb)
    have ip := nL_len (roN P a)
    have iq := nL_len (roN Q b)
    rw [m36_L3, toNatN, toNatN, toNatN, grd_t ⟨by omega, by omega⟩, grd_t (by simp only [List.length_drop]; omega), gpN hb]
    simp only [getL]
    by_cases h : j < c
    · have ih := od_L3 a b i ha hb hi n1644 c1646 (s - 1) (j + 1) f (by omega) (by omega) (by omega)
      have x1 := pb _ (nn_mem (X := roN P a) (i := i) (by omega))
      have x2 := qb _ (nn_mem (X := roN Q b) (i := j) (by omega))
      have l1 := hL.row _ x1
      have l2 := iL_len (ro L (nn (roN P a) i))
      rw [brn_t (by simp; omega), grd_t ⟨by omega, by omega⟩, grd_t (by simp only [List.length_drop]; omega), nL_gp (by omega)]
      simp only [getI, if_true, toNatN]
      rw [grd_t ⟨by omega, by omega⟩, grd_t (by simp only [List.length_drop]; omega), rws_gp (by omega)]
      simp only []
      rw [grd_t ⟨by omega, by omega⟩, grd_t (by simp only [List.length_drop]; omega), nL_gp (by omega)]
      simp only [if_true, toNatN]
      rw [grd_t ⟨by omega, by omega⟩, grd_t (by simp only [List.length_drop]; omega), iL_gp (by omega)]
      simp only [if_true]
      rw [grd_t (by omega), grd_t (by simp only [iL, putR, List.length_map, List.length_take]; omega), wrapN (by omega)]
      have e : iL (putR L ((roN Q b).take j) (nn (roN P a) i)) ++ [PV.int .i64 (en (ro L (nn (roN P a) i)) (nn (roN Q b) j))] = iL (putR L ((roN Q b).take (j + 1)) (nn (roN P a) i)) := by
        rw [List.take_add_one]
        have : (roN Q b)[j]? = some (nn (roN Q b) j) := by simp [nn, List.getD, show j < (roN Q b).length by omega]
        rw [this]
        simp [iL, putR, cst]
      rw [e]; exact ih
    · rw [brn_f (by simp; omega), List.take_of_length_le (by omega)]
      rw [show j = c by omega]
theorem od_L2 (a b : Nat) (ha : a < P.length) (hb : b < Q.length) : ∀ (s i fuel : Nat), L.length - i = s → i ≤ L.length → s < fuel →
    m36_L2 N L.length (rwsP L) P.length (P.map rwN) Q.length (Q.map rwN) (a : Int) (b : Int) fuel i (i : Int) (rwsP (put L ((roN P a).take i) (roN Q b))) = some (L.length, rwsP (put L (roN P a) (roN Q b)))
  | s, i, 0, _, _, h => by omega
  | s, i, f + 1, hs, hi, hf => by
    have c4 := hL.c4
    have r3 := hL.r3
    have hPm : (P.map rwN).length = P.length := by simp
    obtain ⟨pa, pb⟩ := hP _ (roN_mem ha)
    obtain ⟨qa, qb⟩ := hQ _ (roN_mem hb)
    rw [m36_L2, toNatN, grd_t ⟨by omega, by omega⟩, grd_t (by simp only [List.length_drop]; omega), gpN ha]
    simp only [getL]
    by_cases h : i < L.length
    · have ih := od_L2 a b ha hb (s - 1) (i + 1) f (by omega) (by omega) (by omega)
      have h3 := od_L3 N hN L c hL P Q hP hQ hPl hQl a b i ha hb h i (rwsP (put L ((roN P a).take i) (roN Q b))) c 0 N (by omega) (by omega) (by omega)
      rw [brn_t (by simp; omega), show m36_L3 N L.length (rwsP L) P.length (P.map rwN) Q.length (Q.map rwN) (a : Int) (b : Int) i (i : Int) (rwsP (put L ((roN P a).take i) (roN Q b))) (roN P a).length (nL (roN P a)) N 0 0 [] = _ from h3]
      simp only [bnd']
      rw [grd_t (by omega), grd_t (by simp only [rwsP, put, List.length_map, List.length_take]; omega), grd_t (by simp only [iL, putR, List.length_map]; omega), wrapN (by omega)]
      have e : rwsP (put L ((roN P a).take i) (roN Q b)) ++ [PV.lst false c (iL (putR L (roN Q b) (nn (roN P a) i)))] = rwsP (put L ((roN P a).take (i + 1)) (roN Q b)) := by
        rw [List.take_add_one]
        have : (roN P a)[i]? = some (nn (roN P a) i) := by simp [nn, List.getD, show i < (roN P a).length by omega]
        rw [this]
        simp [rwsP, put, putR, rwP, iL, qa]
      rw [e]; exact ih
    · rw [brn_f (by simp; omega), List.take_of_length_le (by omega)]
      rw [show i = L.length by omega]
def oR (A : List Nat) : Option (List Nat) → PV ⊕ Unit
  | some B => .inl (.tup [rwN A, rwN B, .int .i64 0])
  | none => .inr ()
theorem od_L1 (a : Nat) (ha : a < P.length) : ∀ (s b fuel : Nat), Q.length - b = s → s < fuel →
    m36_L1 N L.length (rwsP L) P.length (P.map rwN) Q.length (Q.map rwN) (a : Int) fuel (b : Int) = some (oR (roN P a) ((Q.drop b).find? (qB L (roN P a))))
  | s, b, 0, _, h => by omega
  | s, b, f + 1, hs, hf => by
    have r3 := hL.r3
    rw [m36_L1]
    by_cases hb : b < Q.length
    · have ih := od_L1 a ha (s - 1) (b + 1) f (by omega) (by omega)
      have hPm : (P.map rwN).length = P.length := by simp
      have hQm : (Q.map rwN).length = Q.length := by simp
      obtain ⟨pa, pb⟩ := hP _ (roN_mem ha)
      obtain ⟨qa, qb⟩ := hQ _ (roN_mem hb)
      have h2 := od_L2 N hN L c hL P Q hP hQ hPl hQl a b ha hb L.length 0 N (by omega) (by omega) (by omega)
      have ht := crooked_ok N hN _ _ _ (put_tbl L c hL _ _ pb pa qb qa)
      have hq := put_q L c hL _ _ pb pa qb qa
      rw [brn_t (by simp; omega), show m36_L2 N L.length (rwsP L) P.length (P.map rwN) Q.length (Q.map rwN) (a : Int) (b : Int) N 0 0 [] = _ from h2]
      simp only [bnd']
      rw [grd_t (by simp only [rwsP, put, List.length_map]; omega), ht]
      simp only [rwN, getL]
      rw [crL_len, hq, drop_roN hb, List.find?_cons]
      cases e : qB L (roN P a) (roN Q b) with
      | true =>
        rw [brn_t rfl, toNatN, toNatN, grd_t ⟨by omega, by omega⟩, grd_t (by simp only [List.length_drop]; omega), show gp (P.map rwN) a = _ from gpN ha]
        simp only []
        rw [grd_t ⟨by omega, by omega⟩, grd_t (by simp only [List.length_drop]; omega), show gp (Q.map rwN) b = _ from gpN hb]
        rfl
      | false =>
        rw [brn_f rfl, wrapN (by omega)]
        exact ih
    · rw [brn_f (by simp; omega), List.drop_eq_nil_of_le (by omega)]; rfl
def oR2 : Option (List Nat × List Nat) → PV ⊕ Unit
  | some x => .inl (.tup [rwN x.1, rwN x.2, .int .i64 0])
  | none => .inr ()
theorem od_L0 : ∀ (s a fuel : Nat), P.length - a = s → s < fuel →
    m36_L0 N L.length (rwsP L) P.length (P.map rwN) Q.length (Q.map rwN) fuel (a : Int) = some (oR2 ((P.drop a).findSome? fun A => (Q.find? (qB L A)).map fun B => (A, B)))
  | s, a, 0, _, h => by omega
  | s, a, f + 1, hs, hf => by
    rw [m36_L0]
    by_cases ha : a < P.length
    · have ih := od_L0 (s - 1) (a + 1) f (by omega) (by omega)
      have h1 := od_L1 N hN L c hL P Q hP hQ hPl hQl a ha Q.length 0 N (by omega) (by omega)
      rw [brn_t (by simp; omega), show m36_L1 N L.length (rwsP L) P.length (P.map rwN) Q.length (Q.map rwN) (a : Int) N 0 = _ from h1, drop_roN ha, List.findSome?_cons, List.drop_zero]
      cases Q.find? (qB L (roN P a)) with
      | some B => rfl
      | none => simp only [oR, bnd', Option.map_none]; rw [wrapN (by omega)]; exact ih
    · rw [brn_f (by simp; omega), List.drop_eq_nil_of_le (by omega)]; rfl
end
theorem refs_ok (L : List (List Int)) (hl : lgL L = false) : m36 2000 (.lst false L.length (rwsP L)) = some (.tup [rwN (ordE L).1, rwN (ordE L).2.1, .int .i64 (ordE L).2.2]) := by
  obtain ⟨_, e2⟩ := check_ok 2000 (by omega) L hl
  simp only [m36, getL, e2, bnd', getI, if_true]
  unfold ordE
  by_cases h : chk L = 0
  · have hL := chk_zero h
    have r1 := hL.r1
    have r3 := hL.r3
    have c1 := hL.c1
    have c4 := hL.c4
    have hrl := rws_len L
    obtain ⟨u1, u2⟩ := refo_ok L.length r1 (by omega)
    obtain ⟨v1, v2⟩ := refo_ok (ro L 0).length c1 c4
    have h0 := od_L0 2000 (by omega) L _ hL (prs L.length) (prs (ro L 0).length) (fun x hx => prs_mem hx) (fun x hx => prs_mem hx) u2 v2 (prs L.length).length 0 2000 (by omega) (by omega)
    rw [if_neg (by simpa using h), brn_f (by simpa using h), u1]
    simp only []
    rw [grd_t (by omega), grd_t (by omega), rws_gp (by omega)]
    simp only [v1]
    rw [show m36_L0 2000 L.length (rwsP L) (prs L.length).length ((prs L.length).map rwN) (prs (ro L 0).length).length ((prs (ro L 0).length).map rwN) 2000 0 = _ from h0, List.drop_zero]
    show (match oR2 (List.findSome? (fun A => (inn L (ro L 0).length A).map fun B => (A, B)) (prm L.length [] (List.range L.length))) with | .inl p => some p | .inr () => _) = _
    cases List.findSome? (fun A => (inn L (ro L 0).length A).map fun B => (A, B)) (prm L.length [] (List.range L.length)) <;> rfl
  · rw [brn_t (by simpa using h), if_pos h]
    rfl
theorem same_L (N : Nat) (n : Nat) (X : List Nat) (hX : X.length ≤ 1000) : ∀ (s i fuel : Nat), X.length - i = s → s < fuel →
    m37_L0 N X.length (nL X) X.length (nL X) fuel (i : Int) = some (.inr ())
  | s, i, 0, _, h => by omega
  | s, i, f + 1, hs, hf => by
    have hl := nL_len X
    rw [m37_L0]
    by_cases hi : i < X.length
    · have ih := same_L N n X hX (s - 1) (i + 1) f (by omega) (by omega)
      rw [brn_t (by simp; omega), toNatN, grd_t ⟨by omega, by omega⟩, grd_t (by simp only [List.length_drop]; omega), nL_gp hi]
      simp only [getI, if_true]
      rw [grd_t (by omega), grd_t (by simp only [List.length_drop]; omega), brn_f (by simp), wrapN (by omega)]
      exact ih
    · rw [brn_f (by simp; omega)]
theorem same_ok (X : List Nat) (hX : X.length ≤ 1000) : m37 2000 (.lst false X.length (nL X)) (.lst false X.length (nL X)) = some (.bool true) := by
  have := same_L 2000 0 X hX X.length 0 2000 (by omega) (by omega)
  simp only [m37, getL]
  rw [brn_f (by simp), show m37_L0 2000 X.length (nL X) X.length (nL X) 2000 0 = _ from this]
  rfl
theorem ordE_len (L : List (List Int)) : (ordE L).1.length ≤ 1000 ∧ (ordE L).2.1.length ≤ 1000 := by
  unfold ordE
  by_cases h : chk L = 0
  · rw [if_neg (by simpa using h)]
    have hL := chk_zero h
    have r3 := hL.r3
    have c4 := hL.c4
    cases e : (prm L.length [] (List.range L.length)).findSome? (fun A => (inn L (ro L 0).length A).map fun B => (A, B)) with
    | none => exact ⟨by simp, by simp⟩
    | some x =>
      obtain ⟨A, hA, hx⟩ := List.exists_of_findSome?_eq_some e
      simp only [Option.map_eq_some_iff] at hx
      obtain ⟨B, hB, rfl⟩ := hx
      have h1 := prs_mem (n := L.length) hA
      have h2 := prs_mem (n := (ro L 0).length) (List.mem_of_find?_eq_some hB)
      exact ⟨by simp only []; omega, by simp only []; omega⟩
  · rw [if_pos h]; exact ⟨by simp, by simp⟩
theorem whyE_len (L : List (List Int)) : (whyE L).1.length ≤ 1000 := by
  unfold whyE
  by_cases h : chk L = 0
  · rw [if_neg (by simpa using h)]
    cases crk (cst L) L.length (ro L 0).length with
    | none => simp
    | some x => simp [q4]
  · rw [if_pos h]; simp
theorem law (L : List (List Int)) : m5 2000 (.lst false L.length (rwsP L)) = some (.bool true) := by
  simp only [m5, getL, large_ok 2000 (by omega) L, bnd', getB]
  cases hl : lgL L with
  | true => rfl
  | false =>
    obtain ⟨s1, s2⟩ := strt_ok 2000 (by omega) L hl
    obtain ⟨w1, w2⟩ := why_ok 2000 (by omega) L hl
    have o1 := orders_ok 2000 (by omega) L hl
    have o2 := refs_ok L hl
    obtain ⟨x1, x2⟩ := ordE_len L
    have x3 := whyE_len L
    rw [brn_f rfl]
    simp only [s1, s2, w1, w2, o1, o2, bnd', getT2, getT3, getB, getI, getL, if_true, rwN, same_ok _ x1, same_ok _ x2, same_ok _ x3]
    simp [brn, m17]
end Go.Proofs.Yteidcinajdehkaa
