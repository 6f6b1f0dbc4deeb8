/-
  The prices of the reference, and TurnCovers: what the functions compute answers as the law says.
-/
import Derived.Test.YtgnphlpoofaojaaTRed
import Derived.Test.YtgnphlpoofaojaaTCovs
namespace Go.Proofs.Ytgnphlpoofaojaa
open Go.V
def CtP (p : Int × Int) (a : Int × Int) : Int := a.1 * p.2 + a.2 * p.1
theorem cross_sp {a b : Int × Int} (h : a.2 ≠ b.2) : 0 < (crossP a b).2 ∧ (crossP a b).1 * (b.2 - a.2) = (a.1 - b.1) * (crossP a b).2 := by
  obtain ⟨u, v, e, ⟨q1, q2, _⟩, _⟩ := low_sp (a.1 - b.1) (b.2 - a.2) (by omega)
  unfold crossP
  rw [e]
  exact ⟨q1, q2⟩
theorem cross_at {a b : Int × Int} (h : a.2 ≠ b.2) : CtP (crossP a b) a = CtP (crossP a b) b := by
  have := (cross_sp h).2
  unfold CtP
  grind
theorem mul_pos_of {x y : Int} (hy : 0 < y) (h : 0 < x * y) : 0 < x := by
  rcases Int.lt_or_le 0 x with h1 | h1
  · exact h1
  · have := Int.mul_nonneg (a := -x) (b := y) (by omega) (by omega)
    have : -x * y = -(x * y) := by grind
    omega
theorem cross_above {a b p : Int × Int} (h : a.2 < b.2) (hl : lessP (crossP a b) p) : CtP p a < CtP p b := by
  obtain ⟨h1, h2⟩ := cross_sp (a := a) (b := b) (by omega)
  generalize crossP a b = q at *
  unfold lessP at hl
  have e1 : 0 < (p.1 * q.2 - q.1 * p.2) * (b.2 - a.2) := Int.mul_pos (by omega) (by omega)
  have e2 : 0 < (CtP p b - CtP p a) * q.2 := by
    have : (CtP p b - CtP p a) * q.2 = (p.1 * q.2 - q.1 * p.2) * (b.2 - a.2) := by unfold CtP; clear e1 hl; grind
    omega
  have := mul_pos_of h1 e2
  omega
theorem cross_below {a b p : Int × Int} (h : a.2 < b.2) (hl : lessP p (crossP a b)) : CtP p b < CtP p a := by
  obtain ⟨h1, h2⟩ := cross_sp (a := a) (b := b) (by omega)
  generalize crossP a b = q at *
  unfold lessP at hl
  have e1 : 0 < (q.1 * p.2 - p.1 * q.2) * (b.2 - a.2) := Int.mul_pos (by omega) (by omega)
  have e2 : 0 < (CtP p a - CtP p b) * q.2 := by
    have : (CtP p a - CtP p b) * q.2 = (q.1 * p.2 - p.1 * q.2) * (b.2 - a.2) := by unfold CtP; clear e1 hl; grind
    omega
  have := mul_pos_of h1 e2
  omega
theorem prices_sub : ∀ {Q : List (Int × Int)} {q : Int × Int}, q ∈ Q → q ∈ pricesQ Q
  | [], _, h => by simp at h
  | q0 :: r, q, h => by
    have hm : ∀ (l : List (Int × Int)) (x : Int × Int), q ∈ l → q ∈ midP x l := by
      intro l
      induction l with
      | nil => intro x h; simp at h
      | cons y l ih =>
        intro x h
        rcases List.mem_cons.1 h with rfl | h
        · simp [midP]
        · simp [midP, ih y h]
    rcases List.mem_cons.1 h with rfl | h
    · simp [pricesQ]
    · simp [pricesQ, hm r q0 h]
theorem last_mem : ∀ (r : List (Int × Int)) (q : Int × Int), lastP q r ∈ q :: r
  | [], q => by simp [lastP]
  | p :: r, q => by
    have := last_mem r p
    simp only [lastP, List.mem_cons] at this ⊢
    exact .inr this
theorem prices_red {Q : List (Int × Int)} (hQ : ∀ q ∈ Q, Red q) : ∀ p ∈ pricesQ Q, Red p := by
  cases Q with
  | nil => intro p h; simp [pricesQ] at h; subst h; exact ⟨by decide, by decide⟩
  | cons q0 r =>
    have hm : ∀ (l : List (Int × Int)) (x : Int × Int), Red x → (∀ y ∈ l, Red y) → ∀ p ∈ midP x l, Red p := by
      intro l
      induction l with
      | nil => intro x _ _ p h; simp [midP] at h
      | cons y l ih =>
        intro x hx hl p h
        have hy := hl y (by simp)
        simp only [midP, List.mem_cons] at h
        rcases h with rfl | rfl | h
        · refine low_red _ _ ?_
          have h1 := Int.mul_pos hx.1 hy.1
          have : 2 * x.2 * y.2 = 2 * (x.2 * y.2) := by grind
          omega
        · exact hy
        · exact ih y hy (fun z hz => hl z (by simp [hz])) p h
    intro p h
    have h0 := hQ q0 (by simp)
    have hz := hQ _ (last_mem r q0)
    simp only [pricesQ, List.mem_cons, List.mem_append, List.not_mem_nil, or_false] at h
    rcases h with rfl | rfl | h | rfl
    · exact low_red _ _ (by have := h0.1; omega)
    · exact h0
    · exact hm r q0 h0 (fun y hy => hQ y (by simp [hy])) p h
    · exact low_red _ _ (by have := hz.1; omega)
theorem low_less {x d y e : Int} (hd : 0 < d) (he : 0 < e) : lessP (lowP x d) (y, e) ↔ x * e < y * d := by
  obtain ⟨u, v, h, ⟨q1, q2, _⟩, _⟩ := low_sp x d (by omega)
  rw [h]
  unfold lessP
  constructor
  · intro h
    have h1 := Int.mul_pos (a := y * v - u * e) (b := d) (by simp only at h; omega) hd
    have h2 : 0 < (y * d - x * e) * v := by
      have : (y * d - x * e) * v = (y * v - u * e) * d := by clear h1; grind
      omega
    have := mul_pos_of q1 h2
    omega
  · intro h
    have h1 := Int.mul_pos (a := y * d - x * e) (b := v) (by omega) q1
    have h2 : 0 < (y * v - u * e) * d := by
      have : (y * v - u * e) * d = (y * d - x * e) * v := by clear h1; grind
      omega
    have := mul_pos_of hd h2
    simp only; omega
theorem low_more {x d y e : Int} (hd : 0 < d) (he : 0 < e) : lessP (y, e) (lowP x d) ↔ y * d < x * e := by
  obtain ⟨u, v, h, ⟨q1, q2, _⟩, _⟩ := low_sp x d (by omega)
  rw [h]
  unfold lessP
  constructor
  · intro h
    have h1 := Int.mul_pos (a := u * e - y * v) (b := d) (by simp only at h; omega) hd
    have h2 : 0 < (x * e - y * d) * v := by
      have : (x * e - y * d) * v = (u * e - y * v) * d := by clear h1; grind
      omega
    have := mul_pos_of q1 h2
    omega
  · intro h
    have h1 := Int.mul_pos (a := x * e - y * d) (b := v) (by omega) q1
    have h2 : 0 < (u * e - y * v) * d := by
      have : (u * e - y * v) * d = (x * e - y * d) * v := by clear h1; grind
      omega
    have := mul_pos_of hd h2
    simp only; omega
theorem prices_lo {Q : List (Int × Int)} (hQ : Srt Q) : ∃ p ∈ pricesQ Q, Red p ∧ ∀ q ∈ Q, lessP p q := by
  cases Q with
  | nil => exact ⟨(0, 1), by simp [pricesQ], ⟨by decide, by decide⟩, by simp⟩
  | cons q0 r =>
    have h0 := hQ.2 q0 (by simp)
    refine ⟨lowP (q0.1 - q0.2) q0.2, by simp [pricesQ], low_red _ _ (by have := h0.1; omega), fun q hq => ?_⟩
    have h1 : lessP (lowP (q0.1 - q0.2) q0.2) q0 := by
      rw [show q0 = (q0.1, q0.2) from rfl]
      refine (low_less h0.1 h0.1).2 ?_
      have := Int.mul_pos h0.1 h0.1
      have : (q0.1 - q0.2) * q0.2 = q0.1 * q0.2 - q0.2 * q0.2 := by grind
      simp only; omega
    rcases List.mem_cons.1 hq with rfl | hq
    · exact h1
    · exact less_trans (low_red _ _ (by have := h0.1; omega)).1 h0.1 (hQ.2 q (by simp [hq])).1 h1 ((List.pairwise_cons.1 hQ.1).1 q hq)
theorem last_max : ∀ (r : List (Int × Int)) (q0 : Int × Int), Srt (q0 :: r) → ∀ q ∈ q0 :: r, q = lastP q0 r ∨ lessP q (lastP q0 r)
  | [], q0, _, q, h => by simp at h; exact .inl h
  | p :: r, q0, hs, q, h => by
    have hs' : Srt (p :: r) := ⟨(List.pairwise_cons.1 hs.1).2, fun x hx => hs.2 x (by simp [List.mem_cons.1 hx])⟩
    rcases List.mem_cons.1 h with rfl | h
    · exact .inr ((List.pairwise_cons.1 hs.1).1 _ (last_mem r p))
    · exact last_max r p hs' q h
theorem prices_hi {Q : List (Int × Int)} (hQ : Srt Q) : ∃ p ∈ pricesQ Q, Red p ∧ ∀ q ∈ Q, lessP q p := by
  cases Q with
  | nil => exact ⟨(0, 1), by simp [pricesQ], ⟨by decide, by decide⟩, by simp⟩
  | cons q0 r =>
    have hz := hQ.2 _ (last_mem r q0)
    generalize hZ : lastP q0 r = z at *
    have hr := low_red (z.1 + z.2) z.2 (by have := hz.1; omega)
    refine ⟨lowP (z.1 + z.2) z.2, by simp [pricesQ, hZ], hr, fun q hq => ?_⟩
    have h1 : lessP z (lowP (z.1 + z.2) z.2) := by
      rw [show z = (z.1, z.2) from rfl]
      refine (low_more hz.1 hz.1).2 ?_
      have := Int.mul_pos hz.1 hz.1
      have : (z.1 + z.2) * z.2 = z.1 * z.2 + z.2 * z.2 := by grind
      simp only; omega
    rcases last_max r q0 hQ q hq with h | h
    · rw [h, hZ]; exact h1
    · rw [hZ] at h
      exact less_trans (hQ.2 q hq).1 hz.1 hr.1 h h1

def aboveG (a b c : Int × Int) : Bool := decide ((b.1 - a.1) * (c.2 - b.2) > (c.1 - b.1) * (b.2 - a.2))
def covG1 (a b c : Int × Int) : Bool :=
  if a.2 = b.2 then (decide (c.2 = a.2) && decide (c.1 ≤ maxI a.1 b.1))
  else if c.2 < a.2 ∨ b.2 < c.2 then false
  else if c.2 = a.2 then decide (c.1 ≤ a.1)
  else if c.2 = b.2 then decide (c.1 ≤ b.1)
  else !aboveG a c b
theorem le_maxI {x y z : Int} : z ≤ maxI x y ↔ z ≤ x ∨ z ≤ y := by unfold maxI; split <;> omega
theorem covG1_sound {a b c p : Int × Int} (hab : a.2 ≤ b.2) (hp : 0 < p.2) (h : covG1 a b c = true) : ¬ (CtP p a < CtP p c ∧ CtP p b < CtP p c) := by
  rintro ⟨h1, h2⟩
  unfold covG1 at h
  unfold CtP at h1 h2
  have mono : ∀ x y : Int, x ≤ y → x * p.2 ≤ y * p.2 := fun x y hxy => Int.mul_le_mul_of_nonneg_right hxy (by omega)
  split at h
  · rename_i e
    rw [Bool.and_eq_true, decide_eq_true_eq, decide_eq_true_eq] at h
    obtain ⟨e2, h⟩ := h
    rw [← e] at h2
    rw [e2] at h1 h2
    rcases le_maxI.1 h with h | h
    · have := mono _ _ h; omega
    · have := mono _ _ h; omega
  · split at h
    · simp at h
    · split at h
      · rename_i e
        have := mono _ _ (of_decide_eq_true h)
        rw [e] at h1; omega
      · split at h
        · rename_i e
          have := mono _ _ (of_decide_eq_true h)
          rw [e] at h2; omega
        · rename_i n1 n2 n3 n4
          simp only [aboveG, Bool.not_eq_true', decide_eq_false_iff_not] at h
          have e1 : 0 < ((c.1 - a.1) * p.2 + (c.2 - a.2) * p.1) * (b.2 - c.2) := Int.mul_pos (by grind) (by omega)
          have e2 : 0 < ((c.1 - b.1) * p.2 - (b.2 - c.2) * p.1) * (c.2 - a.2) := Int.mul_pos (by grind) (by omega)
          have e3 : 0 ≤ ((b.1 - c.1) * (c.2 - a.2) - (c.1 - a.1) * (b.2 - c.2)) * p.2 := Int.mul_nonneg (by omega) (by omega)
          grind
def bdC (p : Int × Int) : Prop := -200 ≤ p.1 ∧ p.1 ≤ 200 ∧ -20 ≤ p.2 ∧ p.2 ≤ 20
def bdQ (q : Int × Int) : Prop := -400 ≤ q.1 ∧ q.1 ≤ 400 ∧ 1 ≤ q.2 ∧ q.2 ≤ 40
theorem bdC_ok {p : Int × Int} (h : okC p = true) : bdC p := by
  simp [okC] at h; unfold bdC; omega
theorem cross_bd {a b : Int × Int} (ha : bdC a) (hb : bdC b) (h : a.2 ≠ b.2) : bdQ (crossP a b) := by
  obtain ⟨u, v, e, ⟨q1, _, _⟩, _⟩ := low_sp (a.1 - b.1) (b.2 - a.2) (by omega)
  obtain ⟨b1, b2⟩ := low_bd (by omega) e
  unfold crossP bdQ; rw [e]
  unfold bdC at ha hb
  simp only; omega
theorem ins_bd {p : Int × Int} {l : List (Int × Int)} (hp : bdQ p) (hl : ∀ q ∈ l, bdQ q) : ∀ q ∈ insP p l, bdQ q := fun q h => by
  rcases insP_mem.1 h with rfl | h
  · exact hp
  · exact hl q h
theorem mulQ {x y A B : Int} (hx : -A ≤ x ∧ x ≤ A) (hy : -B ≤ y ∧ y ≤ B) : -(A * B) ≤ x * y ∧ x * y ≤ A * B := by
  have h := Int.natAbs_mul x y
  have h1 : x.natAbs ≤ A.natAbs := by omega
  have h2 : y.natAbs ≤ B.natAbs := by omega
  have h3 := Nat.mul_le_mul h1 h2
  have h4 := Int.natAbs_mul A B
  have h5 : 0 ≤ A * B := Int.mul_nonneg (by omega) (by omega)
  omega
theorem less72 (N : Nat) {a b : Int × Int} (ha : bdQ a) (hb : bdQ b) : m72 N (frP a) (frP b) = some (.bool (decide (lessP a b))) := by
  have h1 := mulQ (x := a.1) (y := b.2) (A := 400) (B := 40) ⟨ha.1, ha.2.1⟩ ⟨by have := hb.2.2; omega, hb.2.2.2⟩
  have h2 := mulQ (x := b.1) (y := a.2) (A := 400) (B := 40) ⟨hb.1, hb.2.1⟩ ⟨by have := ha.2.2; omega, ha.2.2.2⟩
  simp only [m72, frP, getA2, getI, if_true]
  rw [wrap64 (by omega) (by omega), wrap64 (by omega) (by omega)]
  rfl
/-- where a price belongs -/
def posP (p : Int × Int) : List (Int × Int) → Nat
  | [] => 0
  | q :: r => if lessP q p then posP p r + 1 else 0
theorem posP_le (p : Int × Int) : ∀ (l : List (Int × Int)), posP p l ≤ l.length
  | [] => by simp [posP]
  | q :: r => by
    have := posP_le p r
    unfold posP; split <;> simp; omega
theorem insP_pos (p : Int × Int) : ∀ (l : List (Int × Int)), insP p l = if (l.drop (posP p l)).head? = some p then l else l.take (posP p l) ++ p :: l.drop (posP p l)
  | [] => by simp [insP, posP]
  | q :: r => by
    have ih := insP_pos p r
    unfold insP posP
    split
    · rw [ih]
      simp only [List.drop_succ_cons, List.take_succ_cons]
      split <;> simp
    · simp only [List.drop_zero, List.head?_cons, Option.some.injEq, List.take_zero, List.nil_append]
theorem pos_L (N : Nat) (n826 : Nat) (c827 : List PV) (x1194 x1279 : Int) (out : List (Int × Int)) (p : Int × Int) (hp : bdQ p) (ho : ∀ q ∈ out, bdQ q) (hlen : out.length ≤ 100000) : ∀ (rest done : List (Int × Int)) (fuel : Nat), out = done ++ rest → rest.length < fuel →
    m68_L2 N n826 c827 x1194 out.length x1279 (cellsC out) (.int .i64 p.1) (.int .i64 p.2) fuel (done.length : Int) = some ((done.length + posP p rest : Nat) : Int)
  | [], done, 0, _, h => by simp at h
  | [], done, f + 1, e, _ => by
    subst e
    rw [m68_L2, brn_f (by simp)]; simp [posP]
  | q :: rest, done, 0, _, h => by simp at h
  | q :: rest, done, f + 1, e, h => by
    have ih := pos_L N n826 c827 x1194 x1279 out p hp ho hlen rest (done ++ [q]) f (by simp [e]) (by simp at h; omega)
    have hd : done.length < out.length := by rw [e]; simp
    have ht : (Int.toNat (done.length : Int)) = done.length := by omega
    have h2 : ((cellsC out).drop (done.length * 2)).take 2 = [.int .i64 q.1, .int .i64 q.2] := by rw [e]; exact cellsC_take done q rest
    have hl := less72 N (ho q (by rw [e]; simp)) hp
    simp only [frP] at hl
    rw [m68_L2, brn_t (by simpa using hd), grd_t ⟨by omega, by omega⟩, ht, grd_t (by rw [cellsC_len]; omega), h2]
    simp only [getA2, hl, bnd', getB]
    by_cases hq : lessP q p
    · rw [brn_t (by simpa using hq), wrap64 (by omega) (by omega)]
      rw [List.length_append, List.length_cons, List.length_nil] at ih
      rw [show ((done.length : Nat) : Int) + 1 = ((done.length + (0 + 1) : Nat) : Int) by omega, ih]
      simp only [posP, hq, if_true]
      congr 2; omega
    · rw [brn_f (by simpa using hq)]
      simp [posP, hq]
theorem cellsC_takeN (l : List (Int × Int)) (k : Nat) : (cellsC l).take (k * 2) = cellsC (l.take k) := by
  rcases Nat.lt_or_ge k l.length with h | h
  · have e : l = l.take k ++ l.drop k := (List.take_append_drop k l).symm
    have hl : (cellsC (l.take k)).length = k * 2 := by rw [cellsC_len, List.length_take, Nat.min_eq_left (by omega)]
    conv => lhs; rw [e]
    rw [cellsC_app, List.take_append_of_le_length (by omega), List.take_of_length_le (by omega)]
  · rw [List.take_of_length_le (by rw [cellsC_len]; omega), List.take_of_length_le h]
theorem cellsC_dropN (l : List (Int × Int)) (k : Nat) : (cellsC l).drop (k * 2) = cellsC (l.drop k) := by
  rcases Nat.lt_or_ge k l.length with h | h
  · have e : l = l.take k ++ l.drop k := (List.take_append_drop k l).symm
    have hl : (cellsC (l.take k)).length = k * 2 := by rw [cellsC_len, List.length_take, Nat.min_eq_left (by omega)]
    conv => lhs; rw [e]
    rw [cellsC_app, ← hl, List.drop_left]
  · rw [List.drop_of_length_le (by rw [cellsC_len]; omega), List.drop_of_length_le h]; rfl
theorem insP_len (p : Int × Int) (l : List (Int × Int)) : (insP p l).length ≤ l.length + 1 := by
  rw [insP_pos]
  split
  · omega
  · simp; omega
theorem eqs_L1 (N : Nat) (hN : 4000 ≤ N) (L : List (Int × Int)) (hL : L.length ≤ 1000) (hb : ∀ q ∈ L, bdC q) (pre : List (Int × Int)) (a : Int × Int) (post : List (Int × Int)) (eL : L = pre ++ a :: post) : ∀ (rest done : List (Int × Int)) (fuel : Nat) (out : List (Int × Int)),
    pre = done ++ rest → rest.length < fuel → (∀ q ∈ out, bdQ q) → out.length + rest.length ≤ 3000 →
    m68_L1 N L.length (cellsC L) (pre.length : Int) fuel out.length (done.length : Int) (cellsC out) = some ((rest.foldl (eqsJ a) out).length, cellsC (rest.foldl (eqsJ a) out))
  | [], done, 0, _, _, h, _, _ => by simp at h
  | [], done, f + 1, out, e, _, _, _ => by
    subst e
    rw [m68_L1, brn_f (by simp)]; simp
  | b :: rest, done, 0, _, _, h, _, _ => by simp at h
  | b :: rest, done, f + 1, out, e, h, ho, hl => by
    have hpl : pre.length = done.length + (rest.length + 1) := by rw [e]; simp
    have hLl : L.length = pre.length + (post.length + 1) := by rw [eL]; simp
    have hcl : (cellsC L).length = L.length * 2 := cellsC_len L
    have eb : L = done ++ b :: (rest ++ a :: post) := by rw [eL, e]; simp
    have t1 : (Int.toNat (pre.length : Int)) = pre.length := by omega
    have t2 : (Int.toNat (done.length : Int)) = done.length := by omega
    have ga0 : gp (cellsC L) (pre.length * 2) = .int .i64 a.1 := by rw [eL]; exact cellsC_gp0 pre a post
    have ga1 : gp (cellsC L) (pre.length * 2 + 1) = .int .i64 a.2 := by rw [eL]; exact cellsC_gp1 pre a post
    have gb0 : gp (cellsC L) (done.length * 2) = .int .i64 b.1 := by rw [eb]; exact cellsC_gp0 done b _
    have gb1 : gp (cellsC L) (done.length * 2 + 1) = .int .i64 b.2 := by rw [eb]; exact cellsC_gp1 done b _
    have ba := hb a (by rw [eL]; simp)
    have bb := hb b (by rw [eb]; simp)
    have hw : IntKind.i64.wrap ((done.length : Int) + 1) = ((done.length + 1 : Nat) : Int) := by rw [wrap64 (by omega) (by omega)]; omega
    rw [m68_L1, brn_t (by simp; omega), grd_t ⟨by omega, by omega⟩, t1, t2, grd_t (by simp only [List.length_drop]; omega), ga1]
    simp only [getI, if_true]
    rw [grd_t ⟨by omega, by omega⟩, grd_t (by simp only [List.length_drop]; omega), gb1]
    simp only [if_true]
    have hj : (b :: rest).foldl (eqsJ a) out = rest.foldl (eqsJ a) (eqsJ a out b) := rfl
    rw [hj]
    have hls : (done ++ [b]).length = done.length + 1 := by simp
    have h' : rest.length < f := by simp at h; omega
    rw [List.length_cons] at hl
    by_cases hr : a.2 = b.2
    · rw [brn_t (by simpa using hr), hw, ← hls]
      have : eqsJ a out b = out := by simp [eqsJ, hr]
      rw [this]
      exact eqs_L1 N hN L hL hb pre a post eL rest (done ++ [b]) f out (by simp [e]) h' ho (by omega)
    · rw [brn_f (by simpa using hr), grd_t (by simp only [List.length_drop]; omega), ga0]
      simp only [if_true]
      rw [grd_t (by simp only [List.length_drop]; omega), gb0]
      simp only [if_true]
      have hq := cross_bd ba bb hr
      have ba' := ba
      have bb' := bb
      unfold bdC at ba' bb'
      have hm := (low_m N (a.1 - b.1) (b.2 - a.2) ⟨by omega, by omega⟩ (by omega) ⟨by omega, by omega⟩ (by omega)).2
      rw [wrap64 (n := a.1 - b.1) (by omega) (by omega), wrap64 (n := b.2 - a.2) (by omega) (by omega), hm]
      have ej : eqsJ a out b = insP (crossP a b) out := by simp [eqsJ, hr]
      rw [ej]
      have hc : lowP (a.1 - b.1) (b.2 - a.2) = crossP a b := rfl
      rw [hc]
      generalize crossP a b = p at *
      simp only [bnd', frP, getA2]
      have hpos := pos_L N L.length (cellsC L) (pre.length : Int) (done.length : Int) out p hq ho (by omega) out [] N rfl (by omega)
      rw [List.length_nil, Nat.zero_add] at hpos
      rw [show m68_L2 N L.length (cellsC L) (pre.length : Int) out.length (done.length : Int) (cellsC out) (.int .i64 p.1) (.int .i64 p.2) N 0 = _ from hpos]
      simp only []
      have hle := posP_le p out
      have tp : (Int.toNat ((posP p out : Nat) : Int)) = posP p out := by omega
      have hol := cellsC_len out
      have bi := ins_bd hq ho
      have li := insP_len p out
      have ih := eqs_L1 N hN L hL hb pre a post eL rest (done ++ [b]) f (insP p out) (by simp [e]) h' bi (by omega)
      rw [hls] at ih
      have hins : ∀ (c : (out.drop (posP p out)).head? ≠ some p), insP p out = out.take (posP p out) ++ p :: out.drop (posP p out) := fun c => by rw [insP_pos, if_neg c]
      have fin : ∀ (c : (out.drop (posP p out)).head? ≠ some p), m68_L1 N L.length (cellsC L) (pre.length : Int) f (posP p out + 1 + Int.toNat (((out.length : Nat) : Int) - ((posP p out : Nat) : Int))) (IntKind.i64.wrap ((done.length : Int) + 1))
          (((cellsC out).take (posP p out * 2) ++ [.int .i64 p.1, .int .i64 p.2]) ++ ((cellsC out).drop (posP p out * 2)).take (Int.toNat (((out.length : Nat) : Int) - ((posP p out : Nat) : Int)) * 2)) = some ((rest.foldl (eqsJ a) (insP p out)).length, cellsC (rest.foldl (eqsJ a) (insP p out))) := fun c => by
        have e1 : posP p out + 1 + Int.toNat (((out.length : Nat) : Int) - ((posP p out : Nat) : Int)) = (insP p out).length := by
          rw [hins c]; simp only [List.length_append, List.length_take, List.length_cons, List.length_drop]; omega
        have e2 : (((cellsC out).take (posP p out * 2) ++ [.int .i64 p.1, .int .i64 p.2]) ++ ((cellsC out).drop (posP p out * 2)).take (Int.toNat (((out.length : Nat) : Int) - ((posP p out : Nat) : Int)) * 2)) = cellsC (insP p out) := by
          rw [hins c, List.take_of_length_le (l := (cellsC out).drop (posP p out * 2)) (by rw [List.length_drop, hol]; omega), cellsC_takeN, cellsC_dropN, cellsC_app]
          simp [cellsC]
        rw [e1, e2, hw, ih]
      have g5 : List.length ((cellsC out).take (posP p out * 2)) = posP p out * 2 := by rw [List.length_take, hol]; omega
      have g6 : List.length (((cellsC out).drop (posP p out * 2)).take (Int.toNat (((out.length : Nat) : Int) - ((posP p out : Nat) : Int)) * 2)) = Int.toNat (((out.length : Nat) : Int) - ((posP p out : Nat) : Int)) * 2 := by
        rw [List.length_take, List.length_drop, hol]; omega
      by_cases hend : posP p out < out.length
      · rw [brn_t (by simpa using hend), tp, grd_t ⟨by omega, by omega⟩, grd_t (by omega)]
        obtain ⟨q, hqd⟩ : ∃ q, out.drop (posP p out) = q :: out.drop (posP p out + 1) := ⟨out[posP p out], List.drop_eq_getElem_cons hend⟩
        have ht2 : ((cellsC out).drop (posP p out * 2)).take 2 = [.int .i64 q.1, .int .i64 q.2] := by rw [cellsC_dropN, hqd]; rfl
        rw [ht2]
        simp only [getA2, getI, if_true]
        by_cases hqp : q = p
        · subst hqp
          rw [brn_t (by simp), hw]
          have : insP q out = out := by rw [insP_pos, if_pos (by rw [hqd]; rfl)]
          rw [this] at ih ⊢
          exact ih
        · have c : (out.drop (posP p out)).head? ≠ some p := by rw [hqd]; simpa using hqp
          have hne : ((q.1 == p.1) && (q.2 == p.2)) = false := by
            rw [Bool.and_eq_false_iff]
            by_cases h1 : q.1 = p.1
            · right
              rw [beq_eq_false_iff_ne]
              intro h2; exact hqp (Prod.ext h1 h2)
            · left; simpa using h1
          rw [brn_f hne, grd_t (by omega), grd_t g5]
          by_cases h0 : 0 < posP p out
          · rw [brn_t (by simpa using h0), grd_t (by omega), grd_t (by omega), grd_t g6, grd_t (by omega), grd_t (by rw [List.length_append, g5]; simp; omega), fin c]
          · rw [brn_f (by simpa using h0), grd_t (by omega), grd_t (by omega), grd_t g6, grd_t (by omega), grd_t (by rw [List.length_append, g5]; simp; omega), fin c]
      · have c : (out.drop (posP p out)).head? ≠ some p := by rw [List.drop_of_length_le (by omega)]; simp
        rw [brn_f (by simpa using hend), tp, grd_t ⟨by omega, by omega⟩, grd_t g5]
        by_cases h0 : 0 < posP p out
        · rw [brn_t (by simpa using h0), grd_t (by omega), grd_t (by omega), grd_t g6, grd_t (by omega), grd_t (by rw [List.length_append, g5]; simp; omega), fin c]
        · rw [brn_f (by simpa using h0), grd_t (by omega), grd_t (by omega), grd_t g6, grd_t (by omega), grd_t (by rw [List.length_append, g5]; simp; omega), fin c]
def pairsN : Nat → Nat → Nat
  | _, 0 => 0
  | d, r + 1 => d + pairsN (d + 1) r
theorem foldJ_len (a : Int × Int) : ∀ (l out : List (Int × Int)), (l.foldl (eqsJ a) out).length ≤ out.length + l.length
  | [], out => by simp
  | b :: l, out => by
    have ih := foldJ_len a l (eqsJ a out b)
    have : (eqsJ a out b).length ≤ out.length + 1 := by
      unfold eqsJ; split
      · omega
      · exact insP_len _ _
    simp only [List.foldl_cons, List.length_cons]; omega
theorem foldJ_bd {a : Int × Int} (ha : bdC a) : ∀ (l out : List (Int × Int)), (∀ q ∈ l, bdC q) → (∀ q ∈ out, bdQ q) → ∀ q ∈ l.foldl (eqsJ a) out, bdQ q
  | [], out, _, h => h
  | b :: l, out, hl, h => foldJ_bd ha l (eqsJ a out b) (fun q hq => hl q (by simp [hq])) (by
      unfold eqsJ; split
      · exact h
      · exact ins_bd (cross_bd ha (hl b (by simp)) (by assumption)) h)
theorem eqs_L0 (N : Nat) (hN : 4000 ≤ N) (L : List (Int × Int)) (hL : L.length ≤ 1000) (hb : ∀ q ∈ L, bdC q) : ∀ (rest done : List (Int × Int)) (fuel : Nat) (out : List (Int × Int)),
    L = done ++ rest → rest.length < fuel → (∀ q ∈ out, bdQ q) → out.length + pairsN done.length rest.length ≤ 3000 →
    m68_L0 N L.length (cellsC L) fuel out.length (done.length : Int) (cellsC out) = some ((eqsI done rest out).length, cellsC (eqsI done rest out))
  | [], done, 0, _, _, h, _, _ => by simp at h
  | [], done, f + 1, out, e, _, _, _ => by
    subst e
    rw [m68_L0, brn_f (by simp)]; simp [eqsI]
  | a :: rest, done, 0, _, _, h, _, _ => by simp at h
  | a :: rest, done, f + 1, out, e, h, ho, hp => by
    have hLl : L.length = done.length + (rest.length + 1) := by rw [e]; simp
    rw [List.length_cons, pairsN] at hp
    have h1 := eqs_L1 N hN L hL hb done a rest e done [] N out (by simp) (by omega) ho (by omega)
    have hw : IntKind.i64.wrap ((done.length : Int) + 1) = ((done.length + 1 : Nat) : Int) := by rw [wrap64 (by omega) (by omega)]; omega
    rw [m68_L0, brn_t (by simp; omega)]
    rw [show m68_L1 N L.length (cellsC L) (done.length : Int) N out.length 0 (cellsC out) = _ from h1]
    simp only [bnd', hw]
    have hl := foldJ_len a done out
    have hq := foldJ_bd (hb a (by rw [e]; simp)) done out (fun q hq => hb q (by rw [e]; simp [hq])) ho
    have ih := eqs_L0 N hN L hL hb rest (done ++ [a]) f (done.foldl (eqsJ a) out) (by simp [e]) (by simp at h; omega) hq (by simp only [List.length_append, List.length_cons, List.length_nil, Nat.zero_add]; omega)
    rw [List.length_append, List.length_cons, List.length_nil, Nat.zero_add] at ih
    rw [ih, eqsI]
theorem eqs_bd {L : List (Int × Int)} (hb : ∀ q ∈ L, bdC q) : ∀ q ∈ eqs L, bdQ q := fun q h => by
  obtain ⟨a, ha, b, hb', hn, rfl⟩ := (eqs_mem L q).1 h
  exact cross_bd (hb a ha) (hb b hb') hn
theorem eqs_ok (N : Nat) (hN : 4000 ≤ N) (L : List (Int × Int)) (hL : L.length ≤ 1000) (hp : pairsN 0 L.length ≤ 3000) (hb : ∀ q ∈ L, bdC q) :
    m68 N (.lst false L.length (cellsC L)) = some (.lst false (eqs L).length (cellsC (eqs L))) := by
  have := eqs_L0 N hN L hL hb L [] N [] rfl (by omega) (by simp) (by simpa using hp)
  simp only [List.length_nil] at this
  simp only [m68, getL]
  rw [show m68_L0 N L.length (cellsC L) N 0 0 [] = _ from this]
  simp only [bnd']
  rw [grd_t (by rw [cellsC_len])]
  rfl
theorem eqsI_len : ∀ (rest done out : List (Int × Int)), (eqsI done rest out).length ≤ out.length + pairsN done.length rest.length
  | [], done, out => by simp [eqsI]
  | a :: rest, done, out => by
    have h1 := eqsI_len rest (done ++ [a]) (done.foldl (eqsJ a) out)
    have h2 := foldJ_len a done out
    simp only [List.length_append, List.length_cons, List.length_nil, Nat.zero_add] at h1
    simp only [eqsI, List.length_cons, pairsN]; omega
theorem eqs_len (L : List (Int × Int)) : (eqs L).length ≤ pairsN 0 L.length := by
  have := eqsI_len L [] []
  simpa [eqs] using this

def bdP (p : Int × Int) : Prop := -40000 ≤ p.1 ∧ p.1 ≤ 40000 ∧ 1 ≤ p.2 ∧ p.2 ≤ 4000
theorem low_bdP {x d : Int} (hx : -40000 ≤ x ∧ x ≤ 40000) (hd : 1 ≤ d ∧ d ≤ 4000) : bdP (lowP x d) := by
  obtain ⟨u, v, e, ⟨q1, _, _⟩, _⟩ := low_sp x d (by omega)
  obtain ⟨b1, b2⟩ := low_bd (by omega) e
  rw [e]; unfold bdP; simp only; omega
theorem mid_bd {q p : Int × Int} (hq : bdQ q) (hp : bdQ p) : (-32000 ≤ q.1 * p.2 + p.1 * q.2 ∧ q.1 * p.2 + p.1 * q.2 ≤ 32000) ∧ 1 ≤ 2 * q.2 * p.2 ∧ 2 * q.2 * p.2 ≤ 3200 ∧
    (-16000 ≤ q.1 * p.2 ∧ q.1 * p.2 ≤ 16000) ∧ (-16000 ≤ p.1 * q.2 ∧ p.1 * q.2 ≤ 16000) := by
  unfold bdQ at hq hp
  have h1 := mulQ (x := q.1) (y := p.2) (A := 400) (B := 40) (by omega) (by omega)
  have h2 := mulQ (x := p.1) (y := q.2) (A := 400) (B := 40) (by omega) (by omega)
  have h3 := mulQ (x := q.2) (y := p.2) (A := 40) (B := 40) (by omega) (by omega)
  have h4 := Int.mul_pos (a := q.2) (b := p.2) (by omega) (by omega)
  have h5 : 2 * q.2 * p.2 = 2 * (q.2 * p.2) := by grind
  omega
theorem midP_bd : ∀ (r : List (Int × Int)) (q : Int × Int), bdQ q → (∀ p ∈ r, bdQ p) → ∀ p ∈ midP q r, bdP p
  | [], q, _, _, p, h => by simp [midP] at h
  | y :: r, q, hq, hr, p, h => by
    have hy := hr y (by simp)
    have hm := mid_bd hq hy
    simp only [midP, List.mem_cons] at h
    rcases h with rfl | rfl | h
    · exact low_bdP (by omega) (by omega)
    · unfold bdQ at hy; unfold bdP; omega
    · exact midP_bd r y hy (fun z hz => hr z (by simp [hz])) p h
theorem prices_bd {Q : List (Int × Int)} (hQ : ∀ q ∈ Q, bdQ q) : ∀ p ∈ pricesQ Q, bdP p := by
  cases Q with
  | nil => intro p h; simp [pricesQ] at h; subst h; unfold bdP; decide
  | cons q0 r =>
    intro p h
    have h0 := hQ q0 (by simp)
    have hz := hQ _ (last_mem r q0)
    simp only [pricesQ, List.mem_cons, List.mem_append, List.not_mem_nil, or_false] at h
    rcases h with rfl | rfl | h | rfl
    · unfold bdQ at h0; exact low_bdP (by omega) (by omega)
    · unfold bdQ at h0; unfold bdP; omega
    · exact midP_bd r q0 h0 (fun y hy => hQ y (by simp [hy])) p h
    · unfold bdQ at hz; exact low_bdP (by omega) (by omega)
theorem midP_len : ∀ (r : List (Int × Int)) (q : Int × Int), (midP q r).length = 2 * r.length
  | [], q => rfl
  | y :: r, q => by simp only [midP, List.length_cons, midP_len r y]; omega
theorem prices_len (Q : List (Int × Int)) : (pricesQ Q).length ≤ 2 * Q.length + 1 := by
  cases Q with
  | nil => simp [pricesQ]
  | cons q r => simp only [pricesQ, List.length_cons, List.length_append, midP_len, List.length_nil]; omega
theorem prices_L (N : Nat) (hN : 4000 ≤ N) (Q : List (Int × Int)) (hQ : ∀ q ∈ Q, bdQ q) (hl : Q.length ≤ 3000) : ∀ (rest done : List (Int × Int)) (q0 : Int × Int) (fuel : Nat) (acc : List (Int × Int)),
    Q = done ++ q0 :: rest → rest.length < fuel → acc.length + 2 * rest.length ≤ 100000 →
    m71_L0 N Q.length (cellsC Q) fuel acc.length ((done.length + 1 : Nat) : Int) (cellsC acc) = some ((acc ++ midP q0 rest).length, cellsC (acc ++ midP q0 rest))
  | [], done, q0, 0, _, _, h, _ => by simp at h
  | [], done, q0, f + 1, acc, e, _, _ => by
    subst e
    rw [m71_L0, brn_f (by simp)]; simp [midP]
  | p :: rest, done, q0, 0, _, _, h, _ => by simp at h
  | p :: rest, done, q0, f + 1, acc, e, h, ha => by
    have hQl : Q.length = done.length + (rest.length + 2) := by rw [e]; simp
    have hcl : (cellsC Q).length = Q.length * 2 := cellsC_len Q
    have hal : (cellsC acc).length = acc.length * 2 := cellsC_len acc
    have e2 : Q = (done ++ [q0]) ++ p :: rest := by rw [e]; simp
    have hdl : (done ++ [q0]).length = done.length + 1 := by simp
    have w1 : IntKind.i64.wrap (((done.length + 1 : Nat) : Int) - 1) = ((done.length : Nat) : Int) := by rw [wrap64 (by omega) (by omega)]; omega
    have w2 : IntKind.i64.wrap (((done.length + 1 : Nat) : Int) + 1) = (((done.length + 1) + 1 : Nat) : Int) := by rw [wrap64 (by omega) (by omega)]; omega
    have t1 : (Int.toNat ((done.length : Nat) : Int)) = done.length := by omega
    have t2 : (Int.toNat ((done.length + 1 : Nat) : Int)) = done.length + 1 := by omega
    have gq0 : gp (cellsC Q) (done.length * 2) = .int .i64 q0.1 := by rw [e]; exact cellsC_gp0 done q0 _
    have gq1 : gp (cellsC Q) (done.length * 2 + 1) = .int .i64 q0.2 := by rw [e]; exact cellsC_gp1 done q0 _
    have gp0 : gp (cellsC Q) ((done.length + 1) * 2) = .int .i64 p.1 := by rw [e2, ← hdl]; exact cellsC_gp0 (done ++ [q0]) p rest
    have gp1 : gp (cellsC Q) ((done.length + 1) * 2 + 1) = .int .i64 p.2 := by rw [e2, ← hdl]; exact cellsC_gp1 (done ++ [q0]) p rest
    have ht : ((cellsC Q).drop ((done.length + 1) * 2)).take 2 = [.int .i64 p.1, .int .i64 p.2] := by rw [e2, ← hdl]; exact cellsC_take (done ++ [q0]) p rest
    have bq := hQ q0 (by rw [e]; simp)
    have bp := hQ p (by rw [e]; simp)
    have hm := mid_bd bq bp
    have hqq := bq
    unfold bdQ at hqq
    have hlow := (low_m N (q0.1 * p.2 + p.1 * q0.2) (2 * q0.2 * p.2) ⟨by omega, by omega⟩ (by omega) ⟨by omega, by omega⟩ (by omega)).2
    rw [m71_L0, brn_t (by simp; omega), brn_t (by simp), w1, w2, t1, t2, grd_t ⟨by omega, by omega⟩, grd_t (by simp only [List.length_drop]; omega), gq0]
    simp only [getI, if_true]
    rw [grd_t ⟨by omega, by omega⟩, grd_t (by simp only [List.length_drop]; omega), gp1]
    simp only [if_true]
    rw [grd_t (by simp only [List.length_drop]; omega), gp0]
    simp only [if_true]
    rw [grd_t (by simp only [List.length_drop]; omega), gq1]
    simp only [if_true]
    rw [wrap64 (n := q0.1 * p.2) (by omega) (by omega), wrap64 (n := p.1 * q0.2) (by omega) (by omega), wrap64 (n := q0.1 * p.2 + p.1 * q0.2) (by omega) (by omega), wrap64 (n := 2 * q0.2) (by omega) (by omega), wrap64 (n := 2 * q0.2 * p.2) (by omega) (by omega), hlow]
    simp only [bnd', frP, getA2]
    simp only [List.length_cons] at ha
    rw [grd_t (by omega), grd_t (by omega), grd_t (by simp only [List.length_drop]; omega), ht]
    simp only []
    rw [grd_t (by omega), grd_t (by rw [List.length_append, hal]; simp; omega)]
    have ih := prices_L N hN Q hQ hl rest (done ++ [q0]) p f (acc ++ [lowP (q0.1 * p.2 + p.1 * q0.2) (2 * q0.2 * p.2), p]) (by simp [e]) (by simp at h; omega) (by simp only [List.length_append, List.length_cons, List.length_nil]; omega)
    rw [hdl] at ih
    have e3 : cellsC (acc ++ [lowP (q0.1 * p.2 + p.1 * q0.2) (2 * q0.2 * p.2), p]) = (cellsC acc ++ [.int .i64 (lowP (q0.1 * p.2 + p.1 * q0.2) (2 * q0.2 * p.2)).1, .int .i64 (lowP (q0.1 * p.2 + p.1 * q0.2) (2 * q0.2 * p.2)).2]) ++ [.int .i64 p.1, .int .i64 p.2] := by
      rw [cellsC_app]; simp [cellsC]
    have e4 : (acc ++ [lowP (q0.1 * p.2 + p.1 * q0.2) (2 * q0.2 * p.2), p]).length = acc.length + 1 + 1 := by simp
    rw [e3, e4] at ih
    rw [ih]
    simp [midP]
theorem prices_ok (N : Nat) (hN : 4000 ≤ N) (L : List (Int × Int)) (hL : L.length ≤ 1000) (hp : pairsN 0 L.length ≤ 3000) (hb : ∀ q ∈ L, bdC q) :
    m71 N (.lst false L.length (cellsC L)) = some (.lst false (pricesQ (eqs L)).length (cellsC (pricesQ (eqs L)))) := by
  have hQ := eqs_bd hb
  have hQl := eqs_len L
  simp only [m71, getL, eqs_ok N hN L hL hp hb, bnd']
  generalize eqs L = Q at *
  cases Q with
  | nil => rw [brn_t (by simp)]; rfl
  | cons q r =>
    have hcl : (cellsC (q :: r)).length = (q :: r).length * 2 := cellsC_len _
    have hrl : (q :: r).length = r.length + 1 := by simp
    have bq := hQ q (by simp)
    have hqq := bq
    unfold bdQ at hqq
    have hz := hQ _ (last_mem r q)
    have h1 := (low_m N (q.1 - q.2) q.2 ⟨by omega, by omega⟩ (by omega) ⟨by omega, by omega⟩ (by omega)).2
    rw [brn_f (by simp; omega), grd_t (by omega), grd_t (by omega), show gp (cellsC (q :: r)) 0 = .int .i64 q.1 from cellsC_gp0 [] q r]
    simp only [getI, if_true]
    rw [grd_t (by simp only [List.length_drop]; omega), show gp (cellsC (q :: r)) 1 = .int .i64 q.2 from cellsC_gp1 [] q r]
    simp only [if_true]
    rw [wrap64 (n := q.1 - q.2) (by omega) (by omega), h1]
    simp only [frP, getA2]
    have hloop : m71_L0 N (q :: r).length (cellsC (q :: r)) N 1 0 [.int .i64 (lowP (q.1 - q.2) q.2).1, .int .i64 (lowP (q.1 - q.2) q.2).2] =
        some ((lowP (q.1 - q.2) q.2 :: q :: midP q r).length, cellsC (lowP (q.1 - q.2) q.2 :: q :: midP q r)) := by
      obtain ⟨f, rfl⟩ : ∃ f, N = f + 1 := ⟨N - 1, by omega⟩
      have h2 := prices_L (f + 1) hN (q :: r) hQ (by omega) r [] q f [lowP (q.1 - q.2) q.2, q] (by simp) (by omega) (by simp only [List.length_cons, List.length_nil]; omega)
      rw [m71_L0, brn_t (by simp), brn_f (by simp), grd_t ⟨by omega, by simp only [List.length_cons]; omega⟩, show Int.toNat 0 * 2 = 0 from rfl, grd_t (by simp only [List.length_drop]; omega), List.drop_zero, show (cellsC (q :: r)).take 2 = [.int .i64 q.1, .int .i64 q.2] from rfl]
      simp only [getA2]
      rw [grd_t (by omega), grd_t (by simp)]
      exact h2
    rw [hloop]
    simp only []
    have hlz : ∃ d, q :: r = d ++ [lastP q r] ∧ d.length = r.length := by
      clear hloop h1 hz hqq bq hcl hQl hQ hrl
      induction r generalizing q with
      | nil => exact ⟨[], rfl, rfl⟩
      | cons y r ih =>
        obtain ⟨d, h1, h2⟩ := ih y
        exact ⟨q :: d, by simp only [lastP, List.cons_append, ← h1], by simp [h2]⟩
    obtain ⟨d, hd1, hd2⟩ := hlz
    have wl : IntKind.i64.wrap ((((q :: r).length : Nat) : Int) - 1) = ((d.length : Nat) : Int) := by rw [wrap64 (by omega) (by omega)]; omega
    have td : (Int.toNat ((d.length : Nat) : Int)) = d.length := by omega
    have htk : ((cellsC (q :: r)).drop (d.length * 2)).take 2 = [.int .i64 (lastP q r).1, .int .i64 (lastP q r).2] := by
      conv => lhs; rw [hd1]
      exact cellsC_take d (lastP q r) []
    unfold bdQ at hz
    have h3 := (low_m N ((lastP q r).1 + (lastP q r).2) (lastP q r).2 ⟨by omega, by omega⟩ (by omega) ⟨by omega, by omega⟩ (by omega)).2
    rw [wl, td, grd_t ⟨by omega, by omega⟩, grd_t (by simp only [List.length_drop]; omega), htk]
    simp only [if_true]
    rw [wrap64 (n := (lastP q r).1 + (lastP q r).2) (by omega) (by omega), h3]
    simp only [frP]
    have hml := midP_len r q
    rw [grd_t (by simp only [List.length_cons, hml]; omega), grd_t (by rw [cellsC_len]), grd_t (by rw [List.length_append, cellsC_len]; simp; omega)]
    have e5 : pricesQ (q :: r) = (lowP (q.1 - q.2) q.2 :: q :: midP q r) ++ [lowP ((lastP q r).1 + (lastP q r).2) (lastP q r).2] := by simp [pricesQ]
    rw [e5, cellsC_app]
    simp [cellsC]
theorem Wt_P {p q : Int × Int} (hp : bdP p) (hq : bdC q) : Wt p.1 p.2 q = CtP p q := by
  unfold bdP at hp
  unfold bdC at hq
  have h1 := mulQ (x := q.1) (y := p.2) (A := 200) (B := 4000) (by omega) (by omega)
  have h2 := mulQ (x := q.2) (y := p.1) (A := 20) (B := 40000) (by omega) (by omega)
  unfold Wt CtP
  rw [wrap64 (n := q.1 * p.2) (by omega) (by omega), wrap64 (n := q.2 * p.1) (by omega) (by omega), wrap64 (by omega) (by omega)]
theorem worthP (N : Nat) {p q : Int × Int} (hp : bdP p) (hq : bdC q) : m62 N (.agg [.int .i64 q.1, .int .i64 q.2]) (.agg [.int .i64 p.1, .int .i64 p.2]) = some (.int .i64 (CtP p q)) := by
  rw [worth_ok N q p.1 p.2, Wt_P hp hq]
theorem cellsC_at {L : List (Int × Int)} {k : Nat} {x : Int × Int} (h : L[k]? = some x) : ((cellsC L).drop (k * 2)).take 2 = [.int .i64 x.1, .int .i64 x.2] := by
  rw [cellsC_dropN]
  obtain ⟨hk, hx⟩ := List.getElem?_eq_some_iff.1 h
  rw [List.drop_eq_getElem_cons hk, hx]; rfl
theorem above_ok (N : Nat) {a b c : Int × Int} (ha : bdC a) (hb : bdC b) (hc : bdC c) : m86 N (.agg [.int .i64 a.1, .int .i64 a.2]) (.agg [.int .i64 b.1, .int .i64 b.2]) (.agg [.int .i64 c.1, .int .i64 c.2]) = some (.bool (aboveG a b c)) := by
  unfold bdC at ha hb hc
  have h1 := mulQ (x := b.1 - a.1) (y := c.2 - b.2) (A := 400) (B := 40) (by omega) (by omega)
  have h2 := mulQ (x := c.1 - b.1) (y := b.2 - a.2) (A := 400) (B := 40) (by omega) (by omega)
  simp only [m86, getA2, getI, if_true]
  rw [wrap64 (n := b.1 - a.1) (by omega) (by omega), wrap64 (n := c.2 - b.2) (by omega) (by omega), wrap64 (n := c.1 - b.1) (by omega) (by omega), wrap64 (n := b.2 - a.2) (by omega) (by omega),
    wrap64 (n := (b.1 - a.1) * (c.2 - b.2)) (by omega) (by omega), wrap64 (n := (c.1 - b.1) * (b.2 - a.2)) (by omega) (by omega)]
  rfl
theorem Chk_len8 {L : List (Int × Int)} (h : Chk L = 0) : 1 ≤ L.length ∧ L.length ≤ 8 ∧ ∀ q ∈ L, bdC q := by
  obtain ⟨p, l, rfl, ha⟩ := Chk_zero h
  refine ⟨by simp, ?_, fun q hq => bdC_ok (List.all_eq_true.1 ha q hq)⟩
  unfold Chk at h
  by_cases h8 : 8 < (p :: l).length
  · rw [if_neg (by simp), if_pos h8] at h
    exact absurd h (by decide)
  · omega
end Go.Proofs.Ytgnphlpoofaojaa
