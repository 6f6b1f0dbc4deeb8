/-
  TurnWorths: what the functions compute answers as the law says.
-/
import Derived.Test.YtgnphlpoofaojaaXWorths
namespace Go.Proofs.Ytgnphlpoofaojaa
open Go.V

def cellsC (l : List (Int × Int)) : List PV := l.flatMap fun p => [.int .i64 p.1, .int .i64 p.2]
theorem cellsC_len : ∀ (l : List (Int × Int)), (cellsC l).length = l.length * 2
  | [] => rfl
  | p :: l => by
    have := cellsC_len l
    simp only [cellsC, List.flatMap_cons, List.length_append, List.length_cons, List.length_nil] at this ⊢
    omega
theorem cellsC_app (a b : List (Int × Int)) : cellsC (a ++ b) = cellsC a ++ cellsC b := by simp [cellsC]
theorem cellsC_drop (a b : List (Int × Int)) : (cellsC (a ++ b)).drop (a.length * 2) = cellsC b := by
  rw [cellsC_app, ← cellsC_len, List.drop_left]
theorem cellsC_take (a : List (Int × Int)) (p : Int × Int) (b : List (Int × Int)) : ((cellsC (a ++ p :: b)).drop (a.length * 2)).take 2 = [.int .i64 p.1, .int .i64 p.2] := by
  rw [cellsC_drop]; rfl
theorem cellsC_two (a : List (Int × Int)) (p : Int × Int) (b : List (Int × Int)) : 2 ≤ ((cellsC (a ++ p :: b)).drop (a.length * 2)).length := by
  rw [cellsC_drop, cellsC_len]; simp; omega
theorem wrapN {n : Nat} (h : n ≤ 1000) : IntKind.i64.wrap ((n : Int) + 1) = ((n + 1 : Nat) : Int) := by
  rw [wrap64 (by omega) (by omega)]; omega
theorem brn_t {α : Type} {b : Bool} {x y : Option α} (h : b = true) : brn b x y = x := by subst h; rfl
theorem brn_f {α : Type} {b : Bool} {x y : Option α} (h : b = false) : brn b x y = y := by subst h; rfl
theorem grd_t {α : Type} {p : Prop} [Decidable p] {k : Option α} (h : p) : grd p k = k := by simp [grd, h]

def okC (p : Int × Int) : Bool := decide (-100 ≤ p.1 ∧ p.1 ≤ 100 ∧ -10 ≤ p.2 ∧ p.2 ≤ 10)
theorem within_ok (N : Nat) (x k : Int) (hk : IntKind.i64.wrap (0 - k) = -k) : m63 N x k = some (.bool (decide (-k ≤ x ∧ x ≤ k))) := by
  unfold m63
  rw [hk]
  by_cases h : -k ≤ x
  · rw [brn_t (by simpa using h)]; simp [h]
  · rw [brn_f (by simpa using h)]; simp [h]
theorem cellsC_gp1 (a : List (Int × Int)) (p : Int × Int) (b : List (Int × Int)) : gp (cellsC (a ++ p :: b)) (a.length * 2 + 1) = .int .i64 p.2 := by
  have := gp_drop (l := cellsC (a ++ p :: b)) (k := a.length * 2) (i := 1)
  rw [cellsC_drop] at this
  rw [← this]; rfl

theorem chk_L (N : Nat) (L : List (Int × Int)) (hL : L.length ≤ 40) : ∀ (rest done : List (Int × Int)) (fuel : Nat), L = done ++ rest → rest.length < fuel →
    m22_L0 N L.length (cellsC L) fuel (done.length : Int) = some (if rest.all okC then .inr () else .inl (.int .i64 1))
  | [], done, 0, _, h => by simp at h
  | [], done, f + 1, e, _ => by
    subst e
    rw [m22_L0, brn_f (by simp)]; simp
  | p :: rest, done, 0, _, h => by simp at h
  | p :: rest, done, f + 1, e, h => by
    have ih := chk_L N L hL rest (done ++ [p]) f (by simp [e]) (by simp at h; omega)
    have hd : done.length < L.length := by rw [e]; simp
    have ht : (Int.toNat (done.length : Int)) = done.length := by omega
    rw [m22_L0, brn_t (by simpa using hd), grd_t ⟨by omega, by omega⟩, ht, grd_t (by rw [e]; exact cellsC_two done p rest)]
    have h2 : ((cellsC L).drop (done.length * 2)).take 2 = [.int .i64 p.1, .int .i64 p.2] := by rw [e]; exact cellsC_take done p rest
    rw [h2]
    simp only [getA2, getI, if_true, within_ok N p.1 100 (by decide), within_ok N p.2 10 (by decide), bnd', getB]
    have ih2 : m22_L0 N L.length (cellsC L) f (IntKind.i64.wrap ((done.length : Int) + 1)) = some (if rest.all okC then .inr () else .inl (.int .i64 1)) := by
      rw [wrapN (by omega)]; simpa using ih
    by_cases h1 : -100 ≤ p.1 ∧ p.1 ≤ 100
    · rw [brn_t (by simpa using h1)]
      by_cases h3 : -10 ≤ p.2 ∧ p.2 ≤ 10
      · rw [brn_t (by simpa using h3), ih2]
        have : okC p = true := by simp [okC]; omega
        rw [List.all_cons, this, Bool.true_and]
      · rw [brn_f (by simpa using h3)]
        have : okC p = false := by simp [okC]; omega
        simp [this]
    · rw [brn_f (by simpa using h1)]
      have : okC p = false := by simp [okC]; omega
      simp [this]
def Chk (L : List (Int × Int)) : Int := if L.length = 0 then 4 else if 8 < L.length then 3 else if L.all okC then 0 else 1
theorem check_ok (N : Nat) (L : List (Int × Int)) (hL : L.length ≤ 40) (hN : 100 ≤ N) : m22 N (.lst false L.length (cellsC L)) = some (.int .i64 (Chk L)) := by
  simp only [m22, getL, Chk]
  by_cases h0 : L.length = 0
  · rw [brn_t (by simp [h0])]; simp [h0]
  · rw [brn_f (by simpa using h0)]
    by_cases h8 : 8 < L.length
    · rw [brn_t (by simp; omega)]; simp [h0, h8]
    · rw [brn_f (by simp; omega)]
      have := chk_L N L hL L [] N rfl (by omega)
      simp only [List.length_nil] at this
      rw [show m22_L0 N L.length (cellsC L) N 0 = _ from this]
      simp only [bnd', h0, h8, if_false]
      by_cases ha : L.all okC = true
      · simp [ha]
      · simp [ha]
def Wt (num den : Int) (p : Int × Int) : Int := IntKind.i64.wrap (IntKind.i64.wrap (p.1 * den) + IntKind.i64.wrap (p.2 * num))
theorem set_mid {α : Type} (a : List α) (x v : α) (b : List α) : (a ++ x :: b).set a.length v = a ++ v :: b := by
  induction a with
  | nil => rfl
  | cons y a ih => simp [ih]
def okP (num den : Int) : Prop := -1000 ≤ num ∧ num ≤ 1000 ∧ 1 ≤ den ∧ den ≤ 1000
instance (num den : Int) : Decidable (okP num den) := by unfold okP; infer_instance
theorem Chk_zero {L : List (Int × Int)} (h : Chk L = 0) : ∃ p l, L = p :: l ∧ L.all okC = true := by
  cases L with
  | nil => simp [Chk] at h
  | cons p l =>
    refine ⟨p, l, rfl, ?_⟩
    unfold Chk at h
    by_cases h8 : 8 < (p :: l).length
    · rw [if_neg (by simp), if_pos h8] at h
      exact absurd h (by decide)
    · by_cases ha : (p :: l).all okC = true
      · exact ha
      · simp only [h8, ha, if_false] at h
        simp at h
end Go.Proofs.Ytgnphlpoofaojaa
