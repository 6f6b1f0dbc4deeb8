/-
  Fractions in lowest terms, and the prices at which contracts are worth the same.
-/
import Derived.Test.YtgnphlpoofaojaaULaw
namespace Go.Proofs.Ytgnphlpoofaojaa
open Go.V
def lowP (x d : Int) : Int × Int := if d < 0 then (-x / (Int.gcd x d : Int), -d / (Int.gcd x d : Int)) else (x / (Int.gcd x d : Int), d / (Int.gcd x d : Int))
structure LowQ (x d u v : Int) : Prop where
  pos : 0 < v
  eq : u * d = x * v
  cop : Int.gcd u v = 1
theorem gcdP {x d : Int} (hd : d ≠ 0) : 0 < (Int.gcd x d : Int) := by
  have := Int.gcd_pos_of_ne_zero_right x hd
  omega
theorem low_sp (x d : Int) (hd : d ≠ 0) : ∃ u v : Int, lowP x d = (u, v) ∧ LowQ x d u v ∧ (u * (Int.gcd x d : Int) = x ∧ v * (Int.gcd x d : Int) = d ∧ 0 < d ∨ u * (Int.gcd x d : Int) = -x ∧ v * (Int.gcd x d : Int) = -d ∧ d < 0) := by
  have hg := gcdP (x := x) hd
  have h1 : (Int.gcd x d : Int) ∣ x := Int.gcd_dvd_left x d
  have h2 : (Int.gcd x d : Int) ∣ d := Int.gcd_dvd_right x d
  generalize hG : (Int.gcd x d : Int) = g at *
  obtain ⟨a, ha⟩ := h1
  obtain ⟨b, hb⟩ := h2
  have q1 : x / g = a := by rw [ha]; exact Int.mul_ediv_cancel_left a (by omega)
  have q2 : d / g = b := by rw [hb]; exact Int.mul_ediv_cancel_left b (by omega)
  have q3 : -x / g = -a := by rw [ha, ← Int.mul_neg]; exact Int.mul_ediv_cancel_left (-a) (by omega)
  have q4 : -d / g = -b := by rw [hb, ← Int.mul_neg]; exact Int.mul_ediv_cancel_left (-b) (by omega)
  have hc : Int.gcd a b = 1 := by
    have e : Int.gcd x d = g.natAbs * Int.gcd a b := by rw [ha, hb]; exact Int.gcd_mul_left g a b
    have e2 : Int.gcd x d = g.natAbs := by omega
    have e3 : g.natAbs * Int.gcd a b = g.natAbs * 1 := by omega
    exact Nat.eq_of_mul_eq_mul_left (by omega) e3
  by_cases h : d < 0
  · refine ⟨-a, -b, by simp only [lowP, h, if_true, hG, q3, q4], ⟨?_, ?_, ?_⟩, .inr ⟨?_, ?_, h⟩⟩
    · rcases Int.lt_or_le 0 (-b) with h3 | h3
      · exact h3
      · have := Int.mul_nonneg (a := g) (b := b) (by omega) (by omega)
        omega
    · rw [ha, hb]; grind
    · simpa [Int.gcd_neg, Int.neg_gcd] using hc
    · rw [ha]; grind
    · rw [hb]; grind
  · refine ⟨a, b, by simp only [lowP, h, if_false, hG, q1, q2], ⟨?_, ?_, hc⟩, .inl ⟨?_, ?_, by omega⟩⟩
    · rcases Int.lt_or_le 0 b with h3 | h3
      · exact h3
      · have := Int.mul_nonneg (a := g) (b := -b) (by omega) (by omega)
        have : g * -b = - (g * b) := by grind
        omega
    · rw [ha, hb]; grind
    · rw [ha]; grind
    · rw [hb]; grind
theorem abs_of_mul {u g x : Int} (hg : 0 < g) (h : u * g = x) : u.natAbs ≤ x.natAbs := by
  rw [← h, Int.natAbs_mul]
  exact Nat.le_mul_of_pos_right _ (by omega)
theorem low_bd {x d u v : Int} (hd : d ≠ 0) (h : lowP x d = (u, v)) : u.natAbs ≤ x.natAbs ∧ v.natAbs ≤ d.natAbs := by
  obtain ⟨u', v', e, _, hh⟩ := low_sp x d hd
  rw [e] at h
  obtain ⟨rfl, rfl⟩ := Prod.mk.inj h
  have hg := gcdP (x := x) hd
  rcases hh with ⟨h1, h2, _⟩ | ⟨h1, h2, _⟩
  · exact ⟨abs_of_mul hg h1, abs_of_mul hg h2⟩
  · have := abs_of_mul hg h1; have := abs_of_mul hg h2
    omega
theorem tmodN (a b : Nat) : Int.tmod (a : Int) (b : Int) = ((a % b : Nat) : Int) := (Int.ofNat_tmod a b).symm
theorem gcd80 (N : Nat) : ∀ (k a b : Nat), b ≤ k → ∀ fu, k < fu → m80 N fu a b = some (.int .i64 (Nat.gcd a b : Nat))
  | k, a, b, hk, 0, hf => by omega
  | k, a, b, hk, fu + 1, hf => by
    rw [m80]
    by_cases h0 : b = 0
    · subst h0; rw [brn_t (by simp)]; simp
    · rw [brn_f (by simpa using h0), grd_t (by omega), tmodN]
      match k, hk with
      | 0, hk => omega
      | k + 1, hk =>
        have hm : a % b < b := Nat.mod_lt _ (by omega)
        rw [gcd80 N k b (a % b) (by omega) fu (by omega)]
        simp only [bnd', getI, if_true]
        rw [Nat.gcd_comm a b, Nat.gcd_rec b a, Nat.gcd_comm (a % b) b]
theorem gcd60 (N : Nat) (x y : Int) : ∀ (k a b : Nat), b ≤ k → ∀ fu, k < fu → m60_L0 N x y fu a b = some ((Nat.gcd a b : Nat) : Int) ∧ m60_L1 N x y fu a b = some ((Nat.gcd a b : Nat) : Int)
  | k, a, b, hk, 0, hf => by omega
  | k, a, b, hk, fu + 1, hf => by
    rw [m60_L0, m60_L1]
    by_cases h0 : b = 0
    · subst h0; rw [brn_f (by simp), brn_f (by simp)]; simp
    · rw [brn_t (by simp; omega), brn_t (by simp; omega), grd_t (by omega), grd_t (by omega), tmodN]
      match k, hk with
      | 0, hk => omega
      | k + 1, hk =>
        have hm : a % b < b := Nat.mod_lt _ (by omega)
        rw [Nat.gcd_comm a b, Nat.gcd_rec b a, Nat.gcd_comm (a % b) b]
        exact gcd60 N x y k b (a % b) (by omega) fu (by omega)
def Sm (x : Int) : Prop := -1000000000000 ≤ x ∧ x ≤ 1000000000000
theorem maxA {x : Int} (h : Sm x) : maxI x (IntKind.i64.wrap (0 - x)) = (x.natAbs : Int) := by
  obtain ⟨h1, h2⟩ := h
  rw [wrap64 (by omega) (by omega)]
  unfold maxI; split <;> omega
theorem tdivE {x g : Int} (hg : 0 < g) (h : g ∣ x) : Int.tdiv x g = x / g := by
  obtain ⟨a, rfl⟩ := h
  rw [Int.mul_tdiv_cancel_left a (by omega), Int.mul_ediv_cancel_left a (by omega)]
def frP (p : Int × Int) : PV := .agg [.int .i64 p.1, .int .i64 p.2]
theorem low_m (N : Nat) (x d : Int) (hx : Sm x) (hd : d ≠ 0) (hd2 : Sm d) (hN : d.natAbs < N) : m58 N x d = some (frP (lowP x d)) ∧ m60 N x d = some (frP (lowP x d)) := by
  obtain ⟨u, v, e, _, hh⟩ := low_sp x d hd
  have hb := low_bd hd e
  have hg := gcdP (x := x) hd
  have hG : ((Nat.gcd x.natAbs d.natAbs : Nat) : Int) = (Int.gcd x d : Int) := rfl
  have dx : (Int.gcd x d : Int) ∣ x := Int.gcd_dvd_left x d
  have dd : (Int.gcd x d : Int) ∣ d := Int.gcd_dvd_right x d
  have hl : lowP x d = (if d < 0 then (-x / (Int.gcd x d : Int), -d / (Int.gcd x d : Int)) else (x / (Int.gcd x d : Int), d / (Int.gcd x d : Int))) := rfl
  obtain ⟨x1, x2⟩ := hx
  obtain ⟨d1, d2⟩ := hd2
  by_cases h : d < 0
  · rw [if_pos h, e] at hl
    obtain ⟨l1, l2⟩ := Prod.mk.inj hl
    have wx : IntKind.i64.wrap (0 - x) = -x := by rw [wrap64 (by omega) (by omega)]; omega
    have wd : IntKind.i64.wrap (0 - d) = -d := by rw [wrap64 (by omega) (by omega)]; omega
    have hm : maxI (IntKind.i64.wrap (0 - x)) (IntKind.i64.wrap (0 - (IntKind.i64.wrap (0 - x)))) = (x.natAbs : Int) := by
      rw [wx, maxA ⟨by omega, by omega⟩, Int.natAbs_neg]
    have hn : IntKind.i64.wrap (0 - d) = (d.natAbs : Int) := by rw [wd]; omega
    have t1 : Int.tdiv (-x) (Int.gcd x d : Int) = u := by rw [tdivE hg ((Int.dvd_neg).2 dx), l1]
    have t2 : Int.tdiv (d.natAbs : Int) (Int.gcd x d : Int) = v := by rw [← hn, wd, tdivE hg ((Int.dvd_neg).2 dd), l2]
    constructor
    · unfold m58
      rw [brn_t (by simpa using h), hm, hn, gcd80 N d.natAbs x.natAbs d.natAbs (Nat.le_refl _) N hN]
      simp only [bnd', getI, if_true, hG]
      rw [grd_t (by omega), wx, t1, t2, wrap64 (by omega) (by omega), wrap64 (by omega) (by omega), e]
      rfl
    · unfold m60
      rw [brn_t (by simpa using h), hm, hn, (gcd60 N x d d.natAbs x.natAbs d.natAbs (Nat.le_refl _) N hN).1]
      simp only [bnd', hG]
      rw [grd_t (by omega), wx, t1, t2, wrap64 (by omega) (by omega), wrap64 (by omega) (by omega), e]
      rfl
  · rw [if_neg h, e] at hl
    obtain ⟨l1, l2⟩ := Prod.mk.inj hl
    have hn : d = (d.natAbs : Int) := by omega
    have t1 : Int.tdiv x (Int.gcd x d : Int) = u := by rw [tdivE hg dx, l1]
    have t2 : Int.tdiv d (Int.gcd x d : Int) = v := by rw [tdivE hg dd, l2]
    constructor
    · unfold m58
      rw [brn_f (by simpa using h), maxA ⟨x1, x2⟩]
      have := gcd80 N d.natAbs x.natAbs d.natAbs (Nat.le_refl _) N hN
      rw [← hn] at this
      rw [this]
      simp only [bnd', getI, if_true, hG]
      rw [grd_t (by omega), t1, t2, wrap64 (by omega) (by omega), wrap64 (by omega) (by omega), e]
      rfl
    · unfold m60
      rw [brn_f (by simpa using h), maxA ⟨x1, x2⟩]
      have := (gcd60 N x d d.natAbs x.natAbs d.natAbs (Nat.le_refl _) N hN).2
      rw [← hn] at this
      rw [this]
      simp only [bnd', hG]
      rw [grd_t (by omega), t1, t2, wrap64 (by omega) (by omega), wrap64 (by omega) (by omega), e]
      rfl
def lessP (a b : Int × Int) : Prop := a.1 * b.2 < b.1 * a.2
instance (a b : Int × Int) : Decidable (lessP a b) := by unfold lessP; infer_instance
def crossP (a b : Int × Int) : Int × Int := lowP (a.1 - b.1) (b.2 - a.2)
theorem less_trans {a b c : Int × Int} (ha : 0 < a.2) (hb : 0 < b.2) (hc : 0 < c.2) (h1 : lessP a b) (h2 : lessP b c) : lessP a c := by
  unfold lessP at *
  have e1 : 0 < (b.1 * a.2 - a.1 * b.2) * c.2 := Int.mul_pos (by omega) hc
  have e2 : 0 < (c.1 * b.2 - b.1 * c.2) * a.2 := Int.mul_pos (by omega) ha
  rcases Int.lt_or_le (a.1 * c.2) (c.1 * a.2) with h | h
  · exact h
  · have e3 : 0 ≤ (a.1 * c.2 - c.1 * a.2) * b.2 := Int.mul_nonneg (by omega) (by omega)
    grind
end Go.Proofs.Ytgnphlpoofaojaa
