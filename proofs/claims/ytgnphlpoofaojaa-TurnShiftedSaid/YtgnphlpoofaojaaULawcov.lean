/-
  The prices of the reference, and TurnCovers: what the functions compute answers as the law says.
-/
import Derived.Test.YtgnphlpoofaojaaURed
import Derived.Test.YtgnphlpoofaojaaUCovs
namespace Go.Proofs.Ytgnphlpoofaojaa
open Go.V
def CtP (p : Int × Int) (a : Int × Int) : Int := a.1 * p.2 + a.2 * p.1
theorem cross_sp {a b : Int × Int} (h : a.2 ≠ b.2) : 0 < (crossP a b).2 ∧ (crossP a b).1 * (b.2 - a.2) = (a.1 - b.1) * (crossP a b).2 := by
  obtain ⟨u, v, e, ⟨q1, q2, _⟩, _⟩ := low_sp (a.1 - b.1) (b.2 - a.2) (by omega)
  unfold crossP
  rw [e]
  exact ⟨q1, q2⟩
theorem mul_pos_of {x y : Int} (hy : 0 < y) (h : 0 < x * y) : 0 < x := by
  rcases Int.lt_or_le 0 x with h1 | h1
  · exact h1
  · have := Int.mul_nonneg (a := -x) (b := y) (by omega) (by omega)
    have : -x * y = -(x * y) := by grind
    omega
theorem cross_above {a b p : Int × Int} (h : a.2 < b.2) (hl : lessP (crossP a b) p) : CtP p a < CtP p b := by
  obtain ⟨h1, h2⟩ := cross_sp (a := a) (b := b) (by omega)
  generalize crossP a b = q at *
  unfold lessP at hl
  have e1 : 0 < (p.1 * q.2 - q.1 * p.2) * (b.2 - a.2) := Int.mul_pos (by omega) (by omega)
  have e2 : 0 < (CtP p b - CtP p a) * q.2 := by
    have : (CtP p b - CtP p a) * q.2 = (p.1 * q.2 - q.1 * p.2) * (b.2 - a.2) := by unfold CtP; clear e1 hl; grind
    omega
  have := mul_pos_of h1 e2
  omega
theorem cross_below {a b p : Int × Int} (h : a.2 < b.2) (hl : lessP p (crossP a b)) : CtP p b < CtP p a := by
  obtain ⟨h1, h2⟩ := cross_sp (a := a) (b := b) (by omega)
  generalize crossP a b = q at *
  unfold lessP at hl
  have e1 : 0 < (q.1 * p.2 - p.1 * q.2) * (b.2 - a.2) := Int.mul_pos (by omega) (by omega)
  have e2 : 0 < (CtP p a - CtP p b) * q.2 := by
    have : (CtP p a - CtP p b) * q.2 = (q.1 * p.2 - p.1 * q.2) * (b.2 - a.2) := by unfold CtP; clear e1 hl; grind
    omega
  have := mul_pos_of h1 e2
  omega
def aboveG (a b c : Int × Int) : Bool := decide ((b.1 - a.1) * (c.2 - b.2) > (c.1 - b.1) * (b.2 - a.2))
def covG1 (a b c : Int × Int) : Bool :=
  if a.2 = b.2 then (decide (c.2 = a.2) && decide (c.1 ≤ maxI a.1 b.1))
  else if c.2 < a.2 ∨ b.2 < c.2 then false
  else if c.2 = a.2 then decide (c.1 ≤ a.1)
  else if c.2 = b.2 then decide (c.1 ≤ b.1)
  else !aboveG a c b
theorem le_maxI {x y z : Int} : z ≤ maxI x y ↔ z ≤ x ∨ z ≤ y := by unfold maxI; split <;> omega
theorem covG1_sound {a b c p : Int × Int} (hab : a.2 ≤ b.2) (hp : 0 < p.2) (h : covG1 a b c = true) : ¬ (CtP p a < CtP p c ∧ CtP p b < CtP p c) := by
  rintro ⟨h1, h2⟩
  unfold covG1 at h
  unfold CtP at h1 h2
  have mono : ∀ x y : Int, x ≤ y → x * p.2 ≤ y * p.2 := fun x y hxy => Int.mul_le_mul_of_nonneg_right hxy (by omega)
  split at h
  · rename_i e
    rw [Bool.and_eq_true, decide_eq_true_eq, decide_eq_true_eq] at h
    obtain ⟨e2, h⟩ := h
    rw [← e] at h2
    rw [e2] at h1 h2
    rcases le_maxI.1 h with h | h
    · have := mono _ _ h; omega
    · have := mono _ _ h; omega
  · split at h
    · simp at h
    · split at h
      · rename_i e
        have := mono _ _ (of_decide_eq_true h)
        rw [e] at h1; omega
      · split at h
        · rename_i e
          have := mono _ _ (of_decide_eq_true h)
          rw [e] at h2; omega
        · rename_i n1 n2 n3 n4
          simp only [aboveG, Bool.not_eq_true', decide_eq_false_iff_not] at h
          have e1 : 0 < ((c.1 - a.1) * p.2 + (c.2 - a.2) * p.1) * (b.2 - c.2) := Int.mul_pos (by grind) (by omega)
          have e2 : 0 < ((c.1 - b.1) * p.2 - (b.2 - c.2) * p.1) * (c.2 - a.2) := Int.mul_pos (by grind) (by omega)
          have e3 : 0 ≤ ((b.1 - c.1) * (c.2 - a.2) - (c.1 - a.1) * (b.2 - c.2)) * p.2 := Int.mul_nonneg (by omega) (by omega)
          grind
def bdC (p : Int × Int) : Prop := -200 ≤ p.1 ∧ p.1 ≤ 200 ∧ -20 ≤ p.2 ∧ p.2 ≤ 20
theorem bdC_ok {p : Int × Int} (h : okC p = true) : bdC p := by
  simp [okC] at h; unfold bdC; omega
theorem mulQ {x y A B : Int} (hx : -A ≤ x ∧ x ≤ A) (hy : -B ≤ y ∧ y ≤ B) : -(A * B) ≤ x * y ∧ x * y ≤ A * B := by
  have h := Int.natAbs_mul x y
  have h1 : x.natAbs ≤ A.natAbs := by omega
  have h2 : y.natAbs ≤ B.natAbs := by omega
  have h3 := Nat.mul_le_mul h1 h2
  have h4 := Int.natAbs_mul A B
  have h5 : 0 ≤ A * B := Int.mul_nonneg (by omega) (by omega)
  omega
theorem cellsC_dropN (l : List (Int × Int)) (k : Nat) : (cellsC l).drop (k * 2) = cellsC (l.drop k) := by
  rcases Nat.lt_or_ge k l.length with h | h
  · have e : l = l.take k ++ l.drop k := (List.take_append_drop k l).symm
    have hl : (cellsC (l.take k)).length = k * 2 := by rw [cellsC_len, List.length_take, Nat.min_eq_left (by omega)]
    conv => lhs; rw [e]
    rw [cellsC_app, ← hl, List.drop_left]
  · rw [List.drop_of_length_le (by rw [cellsC_len]; omega), List.drop_of_length_le h]; rfl
theorem cellsC_at {L : List (Int × Int)} {k : Nat} {x : Int × Int} (h : L[k]? = some x) : ((cellsC L).drop (k * 2)).take 2 = [.int .i64 x.1, .int .i64 x.2] := by
  rw [cellsC_dropN]
  obtain ⟨hk, hx⟩ := List.getElem?_eq_some_iff.1 h
  rw [List.drop_eq_getElem_cons hk, hx]; rfl
theorem above_ok (N : Nat) {a b c : Int × Int} (ha : bdC a) (hb : bdC b) (hc : bdC c) : m86 N (.agg [.int .i64 a.1, .int .i64 a.2]) (.agg [.int .i64 b.1, .int .i64 b.2]) (.agg [.int .i64 c.1, .int .i64 c.2]) = some (.bool (aboveG a b c)) := by
  unfold bdC at ha hb hc
  have h1 := mulQ (x := b.1 - a.1) (y := c.2 - b.2) (A := 400) (B := 40) (by omega) (by omega)
  have h2 := mulQ (x := c.1 - b.1) (y := b.2 - a.2) (A := 400) (B := 40) (by omega) (by omega)
  simp only [m86, getA2, getI, if_true]
  rw [wrap64 (n := b.1 - a.1) (by omega) (by omega), wrap64 (n := c.2 - b.2) (by omega) (by omega), wrap64 (n := c.1 - b.1) (by omega) (by omega), wrap64 (n := b.2 - a.2) (by omega) (by omega),
    wrap64 (n := (b.1 - a.1) * (c.2 - b.2)) (by omega) (by omega), wrap64 (n := (c.1 - b.1) * (b.2 - a.2)) (by omega) (by omega)]
  rfl
theorem Chk_len8 {L : List (Int × Int)} (h : Chk L = 0) : 1 ≤ L.length ∧ L.length ≤ 8 ∧ ∀ q ∈ L, bdC q := by
  obtain ⟨p, l, rfl, ha⟩ := Chk_zero h
  refine ⟨by simp, ?_, fun q hq => bdC_ok (List.all_eq_true.1 ha q hq)⟩
  unfold Chk at h
  by_cases h8 : 8 < (p :: l).length
  · rw [if_neg (by simp), if_pos h8] at h
    exact absurd h (by decide)
  · omega
end Go.Proofs.Ytgnphlpoofaojaa
