/-
  Fractions in lowest terms, and the prices at which contracts are worth the same.
-/
import Derived.Test.YtgnphlpoofaojaaXLaw
namespace Go.Proofs.Ytgnphlpoofaojaa
open Go.V
def lowP (x d : Int) : Int × Int := if d < 0 then (-x / (Int.gcd x d : Int), -d / (Int.gcd x d : Int)) else (x / (Int.gcd x d : Int), d / (Int.gcd x d : Int))
structure LowQ (x d u v : Int) : Prop where
  pos : 0 < v
  eq : u * d = x * v
  cop : Int.gcd u v = 1
theorem gcdP {x d : Int} (hd : d ≠ 0) : 0 < (Int.gcd x d : Int) := by
  have := Int.gcd_pos_of_ne_zero_right x hd
  omega
theorem low_sp (x d : Int) (hd : d ≠ 0) : ∃ u v : Int, lowP x d = (u, v) ∧ LowQ x d u v ∧ (u * (Int.gcd x d : Int) = x ∧ v * (Int.gcd x d : Int) = d ∧ 0 < d ∨ u * (Int.gcd x d : Int) = -x ∧ v * (Int.gcd x d : Int) = -d ∧ d < 0) := by
  have hg := gcdP (x := x) hd
  have h1 : (Int.gcd x d : Int) ∣ x := Int.gcd_dvd_left x d
  have h2 : (Int.gcd x d : Int) ∣ d := Int.gcd_dvd_right x d
  generalize hG : (Int.gcd x d : Int) = g at *
  obtain ⟨a, ha⟩ := h1
  obtain ⟨b, hb⟩ := h2
  have q1 : x / g = a := by rw [ha]; exact Int.mul_ediv_cancel_left a (by omega)
  have q2 : d / g = b := by rw [hb]; exact Int.mul_ediv_cancel_left b (by omega)
  have q3 : -x / g = -a := by rw [ha, ← Int.mul_neg]; exact Int.mul_ediv_cancel_left (-a) (by omega)
  have q4 : -d / g = -b := by rw [hb, ← Int.mul_neg]; exact Int.mul_ediv_cancel_left (-b) (by omega)
  have hc : Int.gcd a b = 1 := by
    have e : Int.gcd x d = g.natAbs * Int.gcd a b := by rw [ha, hb]; exact Int.gcd_mul_left g a b
    have e2 : Int.gcd x d = g.natAbs := by omega
    have e3 : g.natAbs * Int.gcd a b = g.natAbs * 1 := by omega
    exact Nat.eq_of_mul_eq_mul_left (by omega) e3
  by_cases h : d < 0
  · refine ⟨-a, -b, by simp only [lowP, h, if_true, hG, q3, q4], ⟨?_, ?_, ?_⟩, .inr ⟨?_, ?_, h⟩⟩
    · rcases Int.lt_or_le 0 (-b) with h3 | h3
      · exact h3
      · have := Int.mul_nonneg (a := g) (b := b) (by omega) (by omega)
        omega
    · rw [ha, hb]; grind
    · simpa [Int.gcd_neg, Int.neg_gcd] using hc
    · rw [ha]; grind
    · rw [hb]; grind
  · refine ⟨a, b, by simp only [lowP, h, if_false, hG, q1, q2], ⟨?_, ?_, hc⟩, .inl ⟨?_, ?_, by omega⟩⟩
    · rcases Int.lt_or_le 0 b with h3 | h3
      · exact h3
      · have := Int.mul_nonneg (a := g) (b := -b) (by omega) (by omega)
        have : g * -b = - (g * b) := by grind
        omega
    · rw [ha, hb]; grind
    · rw [ha]; grind
    · rw [hb]; grind
theorem cop_dvd {u v w : Int} (hc : Int.gcd u v = 1) (h : v ∣ u * w) : v ∣ w := by
  have h1 : v.natAbs ∣ u.natAbs * w.natAbs := by rw [← Int.natAbs_mul]; exact Int.natAbs_dvd_natAbs.2 h
  have h2 : Nat.Coprime v.natAbs u.natAbs := by rw [Nat.coprime_comm]; exact hc
  exact Int.natAbs_dvd_natAbs.1 (h2.dvd_of_dvd_mul_left h1)
theorem cop_uniq {u v u' v' : Int} (hv : 0 < v) (hv' : 0 < v') (hc : Int.gcd u v = 1) (hc' : Int.gcd u' v' = 1) (h : u * v' = u' * v) : u = u' ∧ v = v' := by
  have d1 : v ∣ v' := cop_dvd hc ⟨u', by grind⟩
  have d2 : v' ∣ v := cop_dvd hc' ⟨u, by grind⟩
  have e : v = v' := Int.le_antisymm (Int.le_of_dvd hv' d1) (Int.le_of_dvd hv d2)
  subst e
  exact ⟨Int.eq_of_mul_eq_mul_right (by omega) h, rfl⟩
theorem low_eq {x d x' d' : Int} (hd : d ≠ 0) (hd' : d' ≠ 0) (h : x * d' = x' * d) : lowP x d = lowP x' d' := by
  obtain ⟨u, v, e, ⟨p, q, c⟩, _⟩ := low_sp x d hd
  obtain ⟨u', v', e', ⟨p', q', c'⟩, _⟩ := low_sp x' d' hd'
  have hm : u * v' = u' * v := by
    have h1 : (u * v' - u' * v) * (d * d') = 0 := by grind
    rcases Int.mul_eq_zero.1 h1 with h2 | h2
    · omega
    · rcases Int.mul_eq_zero.1 h2 with h3 | h3 <;> omega
  obtain ⟨rfl, rfl⟩ := cop_uniq p p' c c' hm
  rw [e, e']
def lessP (a b : Int × Int) : Prop := a.1 * b.2 < b.1 * a.2
instance (a b : Int × Int) : Decidable (lessP a b) := by unfold lessP; infer_instance
def insP (p : Int × Int) : List (Int × Int) → List (Int × Int)
  | [] => [p]
  | q :: r => if lessP q p then q :: insP p r else if q = p then q :: r else p :: q :: r
def crossP (a b : Int × Int) : Int × Int := lowP (a.1 - b.1) (b.2 - a.2)
def eqsJ (a : Int × Int) (out : List (Int × Int)) (b : Int × Int) : List (Int × Int) := if a.2 = b.2 then out else insP (crossP a b) out
def eqsI : List (Int × Int) → List (Int × Int) → List (Int × Int) → List (Int × Int)
  | _, [], out => out
  | done, a :: rest, out => eqsI (done ++ [a]) rest (done.foldl (eqsJ a) out)
def eqs (L : List (Int × Int)) : List (Int × Int) := eqsI [] L []
def midP (q : Int × Int) : List (Int × Int) → List (Int × Int)
  | [] => []
  | p :: r => lowP (q.1 * p.2 + p.1 * q.2) (2 * q.2 * p.2) :: p :: midP p r
def lastP (q : Int × Int) : List (Int × Int) → Int × Int
  | [] => q
  | p :: r => lastP p r
def pricesQ : List (Int × Int) → List (Int × Int)
  | [] => [(0, 1)]
  | q :: r => lowP (q.1 - q.2) q.2 :: q :: (midP q r ++ [lowP ((lastP q r).1 + (lastP q r).2) (lastP q r).2])

theorem insP_mem {p x : Int × Int} : ∀ {l : List (Int × Int)}, x ∈ insP p l ↔ x = p ∨ x ∈ l
  | [] => by simp [insP]
  | q :: r => by
    unfold insP
    split
    · have := insP_mem (p := p) (x := x) (l := r)
      simp only [List.mem_cons, this]
      grind
    · split
      · simp only [List.mem_cons]; grind
      · simp only [List.mem_cons]
theorem less_trans {a b c : Int × Int} (ha : 0 < a.2) (hb : 0 < b.2) (hc : 0 < c.2) (h1 : lessP a b) (h2 : lessP b c) : lessP a c := by
  unfold lessP at *
  have e1 : 0 < (b.1 * a.2 - a.1 * b.2) * c.2 := Int.mul_pos (by omega) hc
  have e2 : 0 < (c.1 * b.2 - b.1 * c.2) * a.2 := Int.mul_pos (by omega) ha
  rcases Int.lt_or_le (a.1 * c.2) (c.1 * a.2) with h | h
  · exact h
  · have e3 : 0 ≤ (a.1 * c.2 - c.1 * a.2) * b.2 := Int.mul_nonneg (by omega) (by omega)
    grind
/-- a fraction in lowest terms -/
def Red (p : Int × Int) : Prop := 0 < p.2 ∧ Int.gcd p.1 p.2 = 1
theorem red_uniq {p q : Int × Int} (hp : Red p) (hq : Red q) (h1 : ¬ lessP p q) (h2 : ¬ lessP q p) : p = q := by
  obtain ⟨a, b⟩ := p
  obtain ⟨c, d⟩ := q
  unfold lessP at h1 h2
  simp only at h1 h2
  obtain ⟨rfl, rfl⟩ := cop_uniq hp.1 hq.1 hp.2 hq.2 (by simp only; omega)
  rfl
theorem low_red (x d : Int) (hd : d ≠ 0) : Red (lowP x d) := by
  obtain ⟨u, v, e, ⟨p, _, c⟩, _⟩ := low_sp x d hd
  rw [e]; exact ⟨p, c⟩
def Srt (l : List (Int × Int)) : Prop := l.Pairwise lessP ∧ ∀ p ∈ l, Red p
theorem insP_srt {p : Int × Int} (hp : Red p) : ∀ {l : List (Int × Int)}, Srt l → Srt (insP p l)
  | [], _ => ⟨by simp [insP], by simpa [insP] using hp⟩
  | q :: r, ⟨h1, h2⟩ => by
    have hr : ∀ x ∈ insP p (q :: r), Red x := fun x hx => by
      rcases insP_mem.1 hx with rfl | hx
      · exact hp
      · exact h2 x hx
    refine ⟨?_, hr⟩
    have hq := h2 q (by simp)
    rw [List.pairwise_cons] at h1
    unfold insP
    split
    · rename_i hl
      rw [List.pairwise_cons]
      refine ⟨fun x hx => ?_, (insP_srt hp ⟨h1.2, fun x hx => h2 x (by simp [hx])⟩).1⟩
      rcases insP_mem.1 hx with rfl | hx
      · exact hl
      · exact h1.1 x hx
    · rename_i hl
      split
      · exact List.pairwise_cons.2 h1
      · rename_i hn
        rw [List.pairwise_cons]
        have hpq : lessP p q := Decidable.byContradiction fun h => hn (red_uniq hq hp hl h)
        refine ⟨fun x hx => ?_, List.pairwise_cons.2 h1⟩
        rcases List.mem_cons.1 hx with rfl | hx
        · exact hpq
        · exact less_trans hp.1 hq.1 (h2 x (by simp [hx])).1 hpq (h1.1 x hx)
theorem foldJ (a : Int × Int) : ∀ (l out : List (Int × Int)), Srt out → Srt (l.foldl (eqsJ a) out) ∧
    ∀ x, x ∈ l.foldl (eqsJ a) out ↔ x ∈ out ∨ ∃ b ∈ l, a.2 ≠ b.2 ∧ x = crossP a b
  | [], out, h => ⟨h, by simp⟩
  | b :: l, out, h => by
    have h1 : Srt (eqsJ a out b) := by
      unfold eqsJ; split
      · exact h
      · exact insP_srt (low_red _ _ (by omega)) h
    obtain ⟨i1, i2⟩ := foldJ a l (eqsJ a out b) h1
    refine ⟨i1, fun x => ?_⟩
    rw [List.foldl_cons, i2 x]
    have h3 : x ∈ eqsJ a out b ↔ x ∈ out ∨ (a.2 ≠ b.2 ∧ x = crossP a b) := by
      unfold eqsJ; split
      · simp [*]
      · rename_i hne
        rw [insP_mem]
        constructor
        · rintro (h | h)
          · exact .inr ⟨hne, h⟩
          · exact .inl h
        · rintro (h | ⟨_, h⟩)
          · exact .inr h
          · exact .inl h
    rw [h3]
    simp only [List.mem_cons, exists_eq_or_imp, or_assoc]
theorem eqsI_sp : ∀ (rest done out : List (Int × Int)), Srt out → Srt (eqsI done rest out) ∧
    ∀ x, x ∈ eqsI done rest out ↔ x ∈ out ∨ ∃ u a v, rest = u ++ a :: v ∧ ∃ b ∈ done ++ u, a.2 ≠ b.2 ∧ x = crossP a b
  | [], done, out, h => ⟨h, by simp [eqsI]⟩
  | a :: rest, done, out, h => by
    obtain ⟨j1, j2⟩ := foldJ a done out h
    obtain ⟨i1, i2⟩ := eqsI_sp rest (done ++ [a]) _ j1
    refine ⟨i1, fun x => ?_⟩
    rw [eqsI, i2 x, j2 x]
    constructor
    · rintro ((h | ⟨b, hb, h⟩) | ⟨u, a', v, rfl, b, hb, h⟩)
      · exact .inl h
      · exact .inr ⟨[], a, rest, rfl, b, by simpa using hb, h⟩
      · exact .inr ⟨a :: u, a', v, rfl, b, by simpa using hb, h⟩
    · rintro (h | ⟨u, a', v, e, b, hb, h⟩)
      · exact .inl (.inl h)
      · cases u with
        | nil =>
          obtain ⟨rfl, rfl⟩ := List.cons.inj e
          exact .inl (.inr ⟨b, by simpa using hb, h⟩)
        | cons y u =>
          obtain ⟨rfl, rfl⟩ := List.cons.inj e
          exact .inr ⟨u, a', v, rfl, b, by simpa using hb, h⟩
theorem cross_comm {a b : Int × Int} (h : a.2 ≠ b.2) : crossP a b = crossP b a := low_eq (by omega) (by omega) (by grind)
theorem eqs_srt (L : List (Int × Int)) : Srt (eqs L) := (eqsI_sp L [] [] ⟨by simp, by simp⟩).1
theorem eqs_mem (L : List (Int × Int)) (x : Int × Int) : x ∈ eqs L ↔ ∃ a ∈ L, ∃ b ∈ L, a.2 ≠ b.2 ∧ x = crossP a b := by
  unfold eqs
  rw [(eqsI_sp L [] [] ⟨by simp, by simp⟩).2 x]
  constructor
  · rintro (h | ⟨u, a, v, rfl, b, hb, h⟩)
    · simp at h
    · exact ⟨a, by simp, b, by simp at hb; simp [hb], h⟩
  · rintro ⟨a, ha, b, hb, hn, h⟩
    refine .inr ?_
    obtain ⟨u, v, rfl⟩ := List.append_of_mem ha
    rcases List.mem_append.1 hb with hb | hb
    · exact ⟨u, a, v, rfl, b, by simpa using hb, hn, h⟩
    · rcases List.mem_cons.1 hb with rfl | hb
      · exact absurd rfl hn
      · obtain ⟨s, t, rfl⟩ := List.append_of_mem hb
        exact ⟨u ++ a :: s, b, t, by simp, a, by simp, Ne.symm hn, by rw [h]; exact cross_comm hn⟩
end Go.Proofs.Ytgnphlpoofaojaa
