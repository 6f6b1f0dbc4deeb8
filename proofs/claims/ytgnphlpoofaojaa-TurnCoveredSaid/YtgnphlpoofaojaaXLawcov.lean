/-
  The prices of the reference, and TurnCovers: what the functions compute answers as the law says.
-/
import Derived.Test.YtgnphlpoofaojaaXRed
import Derived.Test.YtgnphlpoofaojaaXCovs
namespace Go.Proofs.Ytgnphlpoofaojaa
open Go.V
def CtP (p : Int × Int) (a : Int × Int) : Int := a.1 * p.2 + a.2 * p.1
theorem cross_sp {a b : Int × Int} (h : a.2 ≠ b.2) : 0 < (crossP a b).2 ∧ (crossP a b).1 * (b.2 - a.2) = (a.1 - b.1) * (crossP a b).2 := by
  obtain ⟨u, v, e, ⟨q1, q2, _⟩, _⟩ := low_sp (a.1 - b.1) (b.2 - a.2) (by omega)
  unfold crossP
  rw [e]
  exact ⟨q1, q2⟩
theorem cross_at {a b : Int × Int} (h : a.2 ≠ b.2) : CtP (crossP a b) a = CtP (crossP a b) b := by
  have := (cross_sp h).2
  unfold CtP
  grind
theorem mul_pos_of {x y : Int} (hy : 0 < y) (h : 0 < x * y) : 0 < x := by
  rcases Int.lt_or_le 0 x with h1 | h1
  · exact h1
  · have := Int.mul_nonneg (a := -x) (b := y) (by omega) (by omega)
    have : -x * y = -(x * y) := by grind
    omega
theorem cross_above {a b p : Int × Int} (h : a.2 < b.2) (hl : lessP (crossP a b) p) : CtP p a < CtP p b := by
  obtain ⟨h1, h2⟩ := cross_sp (a := a) (b := b) (by omega)
  generalize crossP a b = q at *
  unfold lessP at hl
  have e1 : 0 < (p.1 * q.2 - q.1 * p.2) * (b.2 - a.2) := Int.mul_pos (by omega) (by omega)
  have e2 : 0 < (CtP p b - CtP p a) * q.2 := by
    have : (CtP p b - CtP p a) * q.2 = (p.1 * q.2 - q.1 * p.2) * (b.2 - a.2) := by unfold CtP; clear e1 hl; grind
    omega
  have := mul_pos_of h1 e2
  omega
theorem cross_below {a b p : Int × Int} (h : a.2 < b.2) (hl : lessP p (crossP a b)) : CtP p b < CtP p a := by
  obtain ⟨h1, h2⟩ := cross_sp (a := a) (b := b) (by omega)
  generalize crossP a b = q at *
  unfold lessP at hl
  have e1 : 0 < (q.1 * p.2 - p.1 * q.2) * (b.2 - a.2) := Int.mul_pos (by omega) (by omega)
  have e2 : 0 < (CtP p a - CtP p b) * q.2 := by
    have : (CtP p a - CtP p b) * q.2 = (q.1 * p.2 - p.1 * q.2) * (b.2 - a.2) := by unfold CtP; clear e1 hl; grind
    omega
  have := mul_pos_of h1 e2
  omega
theorem prices_sub : ∀ {Q : List (Int × Int)} {q : Int × Int}, q ∈ Q → q ∈ pricesQ Q
  | [], _, h => by simp at h
  | q0 :: r, q, h => by
    have hm : ∀ (l : List (Int × Int)) (x : Int × Int), q ∈ l → q ∈ midP x l := by
      intro l
      induction l with
      | nil => intro x h; simp at h
      | cons y l ih =>
        intro x h
        rcases List.mem_cons.1 h with rfl | h
        · simp [midP]
        · simp [midP, ih y h]
    rcases List.mem_cons.1 h with rfl | h
    · simp [pricesQ]
    · simp [pricesQ, hm r q0 h]
theorem last_mem : ∀ (r : List (Int × Int)) (q : Int × Int), lastP q r ∈ q :: r
  | [], q => by simp [lastP]
  | p :: r, q => by
    have := last_mem r p
    simp only [lastP, List.mem_cons] at this ⊢
    exact .inr this
theorem prices_red {Q : List (Int × Int)} (hQ : ∀ q ∈ Q, Red q) : ∀ p ∈ pricesQ Q, Red p := by
  cases Q with
  | nil => intro p h; simp [pricesQ] at h; subst h; exact ⟨by decide, by decide⟩
  | cons q0 r =>
    have hm : ∀ (l : List (Int × Int)) (x : Int × Int), Red x → (∀ y ∈ l, Red y) → ∀ p ∈ midP x l, Red p := by
      intro l
      induction l with
      | nil => intro x _ _ p h; simp [midP] at h
      | cons y l ih =>
        intro x hx hl p h
        have hy := hl y (by simp)
        simp only [midP, List.mem_cons] at h
        rcases h with rfl | rfl | h
        · refine low_red _ _ ?_
          have h1 := Int.mul_pos hx.1 hy.1
          have : 2 * x.2 * y.2 = 2 * (x.2 * y.2) := by grind
          omega
        · exact hy
        · exact ih y hy (fun z hz => hl z (by simp [hz])) p h
    intro p h
    have h0 := hQ q0 (by simp)
    have hz := hQ _ (last_mem r q0)
    simp only [pricesQ, List.mem_cons, List.mem_append, List.not_mem_nil, or_false] at h
    rcases h with rfl | rfl | h | rfl
    · exact low_red _ _ (by have := h0.1; omega)
    · exact h0
    · exact hm r q0 h0 (fun y hy => hQ y (by simp [hy])) p h
    · exact low_red _ _ (by have := hz.1; omega)
theorem low_less {x d y e : Int} (hd : 0 < d) (he : 0 < e) : lessP (lowP x d) (y, e) ↔ x * e < y * d := by
  obtain ⟨u, v, h, ⟨q1, q2, _⟩, _⟩ := low_sp x d (by omega)
  rw [h]
  unfold lessP
  constructor
  · intro h
    have h1 := Int.mul_pos (a := y * v - u * e) (b := d) (by simp only at h; omega) hd
    have h2 : 0 < (y * d - x * e) * v := by
      have : (y * d - x * e) * v = (y * v - u * e) * d := by clear h1; grind
      omega
    have := mul_pos_of q1 h2
    omega
  · intro h
    have h1 := Int.mul_pos (a := y * d - x * e) (b := v) (by omega) q1
    have h2 : 0 < (y * v - u * e) * d := by
      have : (y * v - u * e) * d = (y * d - x * e) * v := by clear h1; grind
      omega
    have := mul_pos_of hd h2
    simp only; omega
theorem low_more {x d y e : Int} (hd : 0 < d) (he : 0 < e) : lessP (y, e) (lowP x d) ↔ y * d < x * e := by
  obtain ⟨u, v, h, ⟨q1, q2, _⟩, _⟩ := low_sp x d (by omega)
  rw [h]
  unfold lessP
  constructor
  · intro h
    have h1 := Int.mul_pos (a := u * e - y * v) (b := d) (by simp only at h; omega) hd
    have h2 : 0 < (x * e - y * d) * v := by
      have : (x * e - y * d) * v = (u * e - y * v) * d := by clear h1; grind
      omega
    have := mul_pos_of q1 h2
    omega
  · intro h
    have h1 := Int.mul_pos (a := x * e - y * d) (b := v) (by omega) q1
    have h2 : 0 < (u * e - y * v) * d := by
      have : (u * e - y * v) * d = (x * e - y * d) * v := by clear h1; grind
      omega
    have := mul_pos_of hd h2
    simp only; omega
theorem prices_lo {Q : List (Int × Int)} (hQ : Srt Q) : ∃ p ∈ pricesQ Q, Red p ∧ ∀ q ∈ Q, lessP p q := by
  cases Q with
  | nil => exact ⟨(0, 1), by simp [pricesQ], ⟨by decide, by decide⟩, by simp⟩
  | cons q0 r =>
    have h0 := hQ.2 q0 (by simp)
    refine ⟨lowP (q0.1 - q0.2) q0.2, by simp [pricesQ], low_red _ _ (by have := h0.1; omega), fun q hq => ?_⟩
    have h1 : lessP (lowP (q0.1 - q0.2) q0.2) q0 := by
      rw [show q0 = (q0.1, q0.2) from rfl]
      refine (low_less h0.1 h0.1).2 ?_
      have := Int.mul_pos h0.1 h0.1
      have : (q0.1 - q0.2) * q0.2 = q0.1 * q0.2 - q0.2 * q0.2 := by grind
      simp only; omega
    rcases List.mem_cons.1 hq with rfl | hq
    · exact h1
    · exact less_trans (low_red _ _ (by have := h0.1; omega)).1 h0.1 (hQ.2 q (by simp [hq])).1 h1 ((List.pairwise_cons.1 hQ.1).1 q hq)
theorem last_max : ∀ (r : List (Int × Int)) (q0 : Int × Int), Srt (q0 :: r) → ∀ q ∈ q0 :: r, q = lastP q0 r ∨ lessP q (lastP q0 r)
  | [], q0, _, q, h => by simp at h; exact .inl h
  | p :: r, q0, hs, q, h => by
    have hs' : Srt (p :: r) := ⟨(List.pairwise_cons.1 hs.1).2, fun x hx => hs.2 x (by simp [List.mem_cons.1 hx])⟩
    rcases List.mem_cons.1 h with rfl | h
    · exact .inr ((List.pairwise_cons.1 hs.1).1 _ (last_mem r p))
    · exact last_max r p hs' q h
theorem prices_hi {Q : List (Int × Int)} (hQ : Srt Q) : ∃ p ∈ pricesQ Q, Red p ∧ ∀ q ∈ Q, lessP q p := by
  cases Q with
  | nil => exact ⟨(0, 1), by simp [pricesQ], ⟨by decide, by decide⟩, by simp⟩
  | cons q0 r =>
    have hz := hQ.2 _ (last_mem r q0)
    generalize hZ : lastP q0 r = z at *
    have hr := low_red (z.1 + z.2) z.2 (by have := hz.1; omega)
    refine ⟨lowP (z.1 + z.2) z.2, by simp [pricesQ, hZ], hr, fun q hq => ?_⟩
    have h1 : lessP z (lowP (z.1 + z.2) z.2) := by
      rw [show z = (z.1, z.2) from rfl]
      refine (low_more hz.1 hz.1).2 ?_
      have := Int.mul_pos hz.1 hz.1
      have : (z.1 + z.2) * z.2 = z.1 * z.2 + z.2 * z.2 := by grind
      simp only; omega
    rcases last_max r q0 hQ q hq with h | h
    · rw [h, hZ]; exact h1
    · rw [hZ] at h
      exact less_trans (hQ.2 q hq).1 hz.1 hr.1 h h1

def aboveG (a b c : Int × Int) : Bool := decide ((b.1 - a.1) * (c.2 - b.2) > (c.1 - b.1) * (b.2 - a.2))
def covG1 (a b c : Int × Int) : Bool :=
  if a.2 = b.2 then (decide (c.2 = a.2) && decide (c.1 ≤ maxI a.1 b.1))
  else if c.2 < a.2 ∨ b.2 < c.2 then false
  else if c.2 = a.2 then decide (c.1 ≤ a.1)
  else if c.2 = b.2 then decide (c.1 ≤ b.1)
  else !aboveG a c b
def covG (a b c : Int × Int) : Bool := if b.2 < a.2 then covG1 b a c else covG1 a b c
def covR (c a b : Int × Int) : Bool := (pricesQ (eqs [c, a, b])).all fun p => !decide (maxI (CtP p a) (CtP p b) < CtP p c)
theorem maxI_lt {x y z : Int} : maxI x y < z ↔ x < z ∧ y < z := by unfold maxI; split <;> omega
theorem le_maxI {x y z : Int} : z ≤ maxI x y ↔ z ≤ x ∨ z ≤ y := by unfold maxI; split <;> omega
theorem covG1_sound {a b c p : Int × Int} (hab : a.2 ≤ b.2) (hp : 0 < p.2) (h : covG1 a b c = true) : ¬ (CtP p a < CtP p c ∧ CtP p b < CtP p c) := by
  rintro ⟨h1, h2⟩
  unfold covG1 at h
  unfold CtP at h1 h2
  have mono : ∀ x y : Int, x ≤ y → x * p.2 ≤ y * p.2 := fun x y hxy => Int.mul_le_mul_of_nonneg_right hxy (by omega)
  split at h
  · rename_i e
    rw [Bool.and_eq_true, decide_eq_true_eq, decide_eq_true_eq] at h
    obtain ⟨e2, h⟩ := h
    rw [← e] at h2
    rw [e2] at h1 h2
    rcases le_maxI.1 h with h | h
    · have := mono _ _ h; omega
    · have := mono _ _ h; omega
  · split at h
    · simp at h
    · split at h
      · rename_i e
        have := mono _ _ (of_decide_eq_true h)
        rw [e] at h1; omega
      · split at h
        · rename_i e
          have := mono _ _ (of_decide_eq_true h)
          rw [e] at h2; omega
        · rename_i n1 n2 n3 n4
          simp only [aboveG, Bool.not_eq_true', decide_eq_false_iff_not] at h
          have e1 : 0 < ((c.1 - a.1) * p.2 + (c.2 - a.2) * p.1) * (b.2 - c.2) := Int.mul_pos (by grind) (by omega)
          have e2 : 0 < ((c.1 - b.1) * p.2 - (b.2 - c.2) * p.1) * (c.2 - a.2) := Int.mul_pos (by grind) (by omega)
          have e3 : 0 ≤ ((b.1 - c.1) * (c.2 - a.2) - (c.1 - a.1) * (b.2 - c.2)) * p.2 := Int.mul_nonneg (by omega) (by omega)
          grind
theorem covG1_complete {a b c : Int × Int} (Q : List (Int × Int)) (hQ : Srt Q) (hab : a.2 ≤ b.2) (m1 : a.2 ≠ c.2 → crossP a c ∈ Q) (m2 : b.2 ≠ c.2 → crossP b c ∈ Q) (m3 : a.2 ≠ b.2 → crossP a b ∈ Q)
    (h : covG1 a b c = false) : ∃ p ∈ pricesQ Q, CtP p a < CtP p c ∧ CtP p b < CtP p c := by
  obtain ⟨lo, l1, l2, l3⟩ := prices_lo hQ
  obtain ⟨hi, g1, g2, g3⟩ := prices_hi hQ
  have low : ∀ x : Int × Int, c.2 < x.2 → crossP x c ∈ Q → CtP lo x < CtP lo c := fun x hx hm => by
    rw [cross_comm (by omega)] at hm
    exact cross_below hx (l3 _ hm)
  have high : ∀ x : Int × Int, x.2 < c.2 → crossP x c ∈ Q → CtP hi x < CtP hi c := fun x hx hm => cross_above hx (g3 _ hm)
  have same : ∀ (p x : Int × Int), Red p → c.2 = x.2 → x.1 < c.1 → CtP p x < CtP p c := fun p x hp hx hl => by
    unfold CtP
    have := Int.mul_pos (a := c.1 - x.1) (b := p.2) (by omega) hp.1
    rw [hx]; grind
  unfold covG1 at h
  split at h
  · rename_i e
    rcases Int.lt_trichotomy c.2 a.2 with h1 | h1 | h1
    · exact ⟨lo, l1, low a h1 (m1 (by omega)), low b (by omega) (m2 (by omega))⟩
    · rw [Bool.and_eq_false_iff, decide_eq_false_iff_not, decide_eq_false_iff_not] at h
      rcases h with h | h
      · exact absurd h1 h
      · have : maxI a.1 b.1 < c.1 := by omega
        obtain ⟨h2, h3⟩ := maxI_lt.1 this
        exact ⟨lo, l1, same lo a l2 h1 h2, same lo b l2 (by omega) h3⟩
    · exact ⟨hi, g1, high a h1 (m1 (by omega)), high b (by omega) (m2 (by omega))⟩
  · rename_i ne
    split at h
    · rename_i h1
      rcases h1 with h1 | h1
      · exact ⟨lo, l1, low a h1 (m1 (by omega)), low b (by omega) (m2 (by omega))⟩
      · exact ⟨hi, g1, high a (by omega) (m1 (by omega)), high b h1 (m2 (by omega))⟩
    · split at h
      · rename_i e
        have hl : a.1 < c.1 := by have := of_decide_eq_false h; omega
        exact ⟨lo, l1, same lo a l2 e hl, low b (by omega) (m2 (by omega))⟩
      · split at h
        · rename_i e
          have hl : b.1 < c.1 := by have := of_decide_eq_false h; omega
          exact ⟨hi, g1, high a (by omega) (m1 (by omega)), same hi b g2 e hl⟩
        · rename_i n1 n2 n3
          simp only [aboveG, Bool.not_eq_false', decide_eq_true_eq] at h
          have hm := m3 ne
          refine ⟨crossP a b, prices_sub hm, ?_⟩
          obtain ⟨s1, s2⟩ := cross_sp ne
          have s3 := cross_at ne
          generalize crossP a b = q at *
          have e1 : 0 < ((c.1 - a.1) * (b.2 - c.2) - (b.1 - c.1) * (c.2 - a.2)) * q.2 := Int.mul_pos (by omega) s1
          have e2 : 0 < (CtP q c - CtP q a) * (b.2 - a.2) := by
            have : (CtP q c - CtP q a) * (b.2 - a.2) = ((c.1 - a.1) * (b.2 - c.2) - (b.1 - c.1) * (c.2 - a.2)) * q.2 := by unfold CtP; clear e1 s3; grind
            omega
          have := mul_pos_of (by omega) e2
          omega
theorem cov_eq (a b c : Int × Int) : covR c a b = covG a b c := by
  have hQ := eqs_srt [c, a, b]
  have hm : ∀ x ∈ [c, a, b], ∀ y ∈ [c, a, b], x.2 ≠ y.2 → crossP x y ∈ eqs [c, a, b] := fun x hx y hy hn => (eqs_mem _ _).2 ⟨x, hx, y, hy, hn, rfl⟩
  have key : ∀ g : Bool, ((g = true) → ∀ p : Int × Int, 0 < p.2 → ¬ (CtP p a < CtP p c ∧ CtP p b < CtP p c)) → ((g = false) → ∃ p ∈ pricesQ (eqs [c, a, b]), CtP p a < CtP p c ∧ CtP p b < CtP p c) → covR c a b = g := by
    intro g h1 h2
    cases g with
    | true =>
      unfold covR
      rw [List.all_eq_true]
      intro p hp
      have := h1 rfl p (prices_red hQ.2 p hp).1
      rw [Bool.not_eq_true', decide_eq_false_iff_not, maxI_lt]
      exact this
    | false =>
      obtain ⟨p, hp, h3⟩ := h2 rfl
      unfold covR
      rw [List.all_eq_false]
      refine ⟨p, hp, ?_⟩
      rw [Bool.not_eq_true', Bool.not_eq_false, decide_eq_true_eq, maxI_lt]
      exact h3
  unfold covG
  split
  · rename_i hlt
    refine key _ (fun h p hp hh => covG1_sound (by omega) hp h ⟨hh.2, hh.1⟩) (fun h => ?_)
    obtain ⟨p, hp, h1, h2⟩ := covG1_complete (eqs [c, a, b]) hQ (by omega) (fun hn => hm b (by simp) c (by simp) hn) (fun hn => hm a (by simp) c (by simp) hn) (fun hn => hm b (by simp) a (by simp) hn) h
    exact ⟨p, hp, h2, h1⟩
  · exact key _ (fun h p hp hh => covG1_sound (by omega) hp h hh) (fun h => covG1_complete (eqs [c, a, b]) hQ (by omega) (fun hn => hm a (by simp) c (by simp) hn) (fun hn => hm b (by simp) c (by simp) hn) (fun hn => hm a (by simp) b (by simp) hn) h)
def bdC (p : Int × Int) : Prop := -200 ≤ p.1 ∧ p.1 ≤ 200 ∧ -20 ≤ p.2 ∧ p.2 ≤ 20
theorem bdC_ok {p : Int × Int} (h : okC p = true) : bdC p := by
  simp [okC] at h; unfold bdC; omega
theorem mulQ {x y A B : Int} (hx : -A ≤ x ∧ x ≤ A) (hy : -B ≤ y ∧ y ≤ B) : -(A * B) ≤ x * y ∧ x * y ≤ A * B := by
  have h := Int.natAbs_mul x y
  have h1 : x.natAbs ≤ A.natAbs := by omega
  have h2 : y.natAbs ≤ B.natAbs := by omega
  have h3 := Nat.mul_le_mul h1 h2
  have h4 := Int.natAbs_mul A B
  have h5 : 0 ≤ A * B := Int.mul_nonneg (by omega) (by omega)
  omega
theorem cellsC_dropN (l : List (Int × Int)) (k : Nat) : (cellsC l).drop (k * 2) = cellsC (l.drop k) := by
  rcases Nat.lt_or_ge k l.length with h | h
  · have e : l = l.take k ++ l.drop k := (List.take_append_drop k l).symm
    have hl : (cellsC (l.take k)).length = k * 2 := by rw [cellsC_len, List.length_take, Nat.min_eq_left (by omega)]
    conv => lhs; rw [e]
    rw [cellsC_app, ← hl, List.drop_left]
  · rw [List.drop_of_length_le (by rw [cellsC_len]; omega), List.drop_of_length_le h]; rfl
def bdP (p : Int × Int) : Prop := -40000 ≤ p.1 ∧ p.1 ≤ 40000 ∧ 1 ≤ p.2 ∧ p.2 ≤ 4000
theorem Wt_P {p q : Int × Int} (hp : bdP p) (hq : bdC q) : Wt p.1 p.2 q = CtP p q := by
  unfold bdP at hp
  unfold bdC at hq
  have h1 := mulQ (x := q.1) (y := p.2) (A := 200) (B := 4000) (by omega) (by omega)
  have h2 := mulQ (x := q.2) (y := p.1) (A := 20) (B := 40000) (by omega) (by omega)
  unfold Wt CtP
  rw [wrap64 (n := q.1 * p.2) (by omega) (by omega), wrap64 (n := q.2 * p.1) (by omega) (by omega), wrap64 (by omega) (by omega)]
theorem cellsC_at {L : List (Int × Int)} {k : Nat} {x : Int × Int} (h : L[k]? = some x) : ((cellsC L).drop (k * 2)).take 2 = [.int .i64 x.1, .int .i64 x.2] := by
  rw [cellsC_dropN]
  obtain ⟨hk, hx⟩ := List.getElem?_eq_some_iff.1 h
  rw [List.drop_eq_getElem_cons hk, hx]; rfl
theorem above_ok (N : Nat) {a b c : Int × Int} (ha : bdC a) (hb : bdC b) (hc : bdC c) : m86 N (.agg [.int .i64 a.1, .int .i64 a.2]) (.agg [.int .i64 b.1, .int .i64 b.2]) (.agg [.int .i64 c.1, .int .i64 c.2]) = some (.bool (aboveG a b c)) := by
  unfold bdC at ha hb hc
  have h1 := mulQ (x := b.1 - a.1) (y := c.2 - b.2) (A := 400) (B := 40) (by omega) (by omega)
  have h2 := mulQ (x := c.1 - b.1) (y := b.2 - a.2) (A := 400) (B := 40) (by omega) (by omega)
  simp only [m86, getA2, getI, if_true]
  rw [wrap64 (n := b.1 - a.1) (by omega) (by omega), wrap64 (n := c.2 - b.2) (by omega) (by omega), wrap64 (n := c.1 - b.1) (by omega) (by omega), wrap64 (n := b.2 - a.2) (by omega) (by omega),
    wrap64 (n := (b.1 - a.1) * (c.2 - b.2)) (by omega) (by omega), wrap64 (n := (c.1 - b.1) * (b.2 - a.2)) (by omega) (by omega)]
  rfl
theorem coversP_ok (N : Nat) {a b c : Int × Int} (ha : bdC a) (hb : bdC b) (hc : bdC c) : m69 N (.agg [.int .i64 a.1, .int .i64 a.2]) (.agg [.int .i64 b.1, .int .i64 b.2]) (.agg [.int .i64 c.1, .int .i64 c.2]) = some (.bool (covG a b c)) := by
  simp only [m69, getA2, getI, if_true, above_ok N ha hc hb, above_ok N hb hc ha, bnd', getB]
  unfold covG
  by_cases h : b.2 < a.2
  · rw [brn_t (by simpa using h), if_pos h, brn_f (by simp; omega)]
    unfold covG1
    rw [if_neg (by omega)]
    by_cases h1 : c.2 < b.2
    · rw [brn_t (by simpa using h1), if_pos (.inl h1)]
    · rw [brn_f (by simpa using h1)]
      by_cases h2 : a.2 < c.2
      · rw [brn_t (by simpa using h2), if_pos (.inr h2)]
      · rw [brn_f (by simpa using h2), if_neg (by omega)]
        by_cases h3 : c.2 = b.2
        · rw [brn_t (by simpa using h3), if_pos h3]
        · rw [brn_f (by simpa using h3), if_neg h3]
          by_cases h4 : c.2 = a.2
          · rw [brn_t (by simpa using h4), if_pos h4]
          · rw [brn_f (by simpa using h4), if_neg h4]
            cases aboveG b c a <;> rfl
  · rw [brn_f (by simpa using h), if_neg h]
    unfold covG1
    by_cases h0 : a.2 = b.2
    · rw [brn_t (by simpa using h0), if_pos h0]
      by_cases h1 : c.2 = a.2
      · rw [brn_t (by simpa using h1)]; simp [h1]
      · rw [brn_f (by simpa using h1)]; simp [h1]
    · rw [brn_f (by simpa using h0), if_neg h0]
      by_cases h1 : c.2 < a.2
      · rw [brn_t (by simpa using h1), if_pos (.inl h1)]
      · rw [brn_f (by simpa using h1)]
        by_cases h2 : b.2 < c.2
        · rw [brn_t (by simpa using h2), if_pos (.inr h2)]
        · rw [brn_f (by simpa using h2), if_neg (by omega)]
          by_cases h3 : c.2 = a.2
          · rw [brn_t (by simpa using h3), if_pos h3]
          · rw [brn_f (by simpa using h3), if_neg h3]
            by_cases h4 : c.2 = b.2
            · rw [brn_t (by simpa using h4), if_pos h4]
            · rw [brn_f (by simpa using h4), if_neg h4]
              cases aboveG a c b <;> rfl

theorem Chk_len8 {L : List (Int × Int)} (h : Chk L = 0) : 1 ≤ L.length ∧ L.length ≤ 8 ∧ ∀ q ∈ L, bdC q := by
  obtain ⟨p, l, rfl, ha⟩ := Chk_zero h
  refine ⟨by simp, ?_, fun q hq => bdC_ok (List.all_eq_true.1 ha q hq)⟩
  unfold Chk at h
  by_cases h8 : 8 < (p :: l).length
  · rw [if_neg (by simp), if_pos h8] at h
    exact absurd h (by decide)
  · omega
end Go.Proofs.Ytgnphlpoofaojaa
