/-
  TurnWorths: what the functions compute answers as the law says.
-/
import Derived.Test.YtgnphlpoofaojaaWorths
namespace Go.Proofs.Ytgnphlpoofaojaa
open Go.V

def cellsC (l : List (Int × Int)) : List PV := l.flatMap fun p => [.int .i64 p.1, .int .i64 p.2]
theorem cellsC_len : ∀ (l : List (Int × Int)), (cellsC l).length = l.length * 2
  | [] => rfl
  | p :: l => by
    have := cellsC_len l
    simp only [cellsC, List.flatMap_cons, List.length_append, List.length_cons, List.length_nil] at this ⊢
    omega
theorem cellsC_app (a b : List (Int × Int)) : cellsC (a ++ b) = cellsC a ++ cellsC b := by simp [cellsC]
theorem cellsC_drop (a b : List (Int × Int)) : (cellsC (a ++ b)).drop (a.length * 2) = cellsC b := by
  rw [cellsC_app, ← cellsC_len, List.drop_left]
theorem cellsC_take (a : List (Int × Int)) (p : Int × Int) (b : List (Int × Int)) : ((cellsC (a ++ p :: b)).drop (a.length * 2)).take 2 = [.int .i64 p.1, .int .i64 p.2] := by
  rw [cellsC_drop]; rfl
theorem cellsC_two (a : List (Int × Int)) (p : Int × Int) (b : List (Int × Int)) : 2 ≤ ((cellsC (a ++ p :: b)).drop (a.length * 2)).length := by
  rw [cellsC_drop, cellsC_len]; simp; omega
theorem wrapN {n : Nat} (h : n ≤ 1000) : IntKind.i64.wrap ((n : Int) + 1) = ((n + 1 : Nat) : Int) := by
  rw [wrap64 (by omega) (by omega)]; omega
theorem brn_t {α : Type} {b : Bool} {x y : Option α} (h : b = true) : brn b x y = x := by subst h; rfl
theorem brn_f {α : Type} {b : Bool} {x y : Option α} (h : b = false) : brn b x y = y := by subst h; rfl
theorem grd_t {α : Type} {p : Prop} [Decidable p] {k : Option α} (h : p) : grd p k = k := by simp [grd, h]

theorem inner_L (N : Nat) (L : List (Int × Int)) (hL : L.length ≤ 40) : ∀ (rest done : List (Int × Int)) (fuel : Nat), L = done ++ rest → rest.length < fuel →
    m16_L0 N L.length (cellsC L) fuel done.length (done.length : Int) (cellsC done) = some (L.length, cellsC L)
  | [], done, 0, _, h => by simp at h
  | [], done, f + 1, e, _ => by
    subst e
    rw [m16_L0, brn_f (by simp)]; simp
  | p :: rest, done, 0, _, h => by simp at h
  | p :: rest, done, f + 1, e, h => by
    have ih := inner_L N L hL rest (done ++ [p]) f (by simp [e]) (by simp at h; omega)
    have hd : done.length < L.length := by rw [e]; simp
    have ht : (Int.toNat (done.length : Int)) = done.length := by omega
    rw [m16_L0, brn_t (by simpa using hd), grd_t ⟨by omega, by omega⟩, ht, grd_t (by rw [e]; exact cellsC_two done p rest)]
    have h2 : ((cellsC L).drop (done.length * 2)).take 2 = [.int .i64 p.1, .int .i64 p.2] := by rw [e]; exact cellsC_take done p rest
    rw [h2]
    simp only [getA2]
    rw [grd_t (by omega), grd_t (by rw [cellsC_len]), wrapN (by omega)]
    have e2 : cellsC (done ++ [p]) = cellsC done ++ [.int .i64 p.1, .int .i64 p.2] := by rw [cellsC_app]; rfl
    rw [e2] at ih
    simpa using ih
theorem inner_ok (N : Nat) (L : List (Int × Int)) (hL : L.length ≤ 40) (hN : 100 ≤ N) : m16 N (.lst false L.length (cellsC L)) = some (.lst false L.length (cellsC L)) := by
  have := inner_L N L hL L [] N rfl (by omega)
  simp only [List.length_nil] at this
  simp only [m16, getL]
  rw [show m16_L0 N L.length (cellsC L) N 0 0 [] = some (L.length, cellsC L) from this]
  simp only [bnd']
  rw [grd_t (cellsC_len L)]

/-! the checks -/
def okC (p : Int × Int) : Bool := decide (-100 ≤ p.1 ∧ p.1 ≤ 100 ∧ -10 ≤ p.2 ∧ p.2 ≤ 10)
theorem within_ok (N : Nat) (x k : Int) (hk : IntKind.i64.wrap (0 - k) = -k) : m63 N x k = some (.bool (decide (-k ≤ x ∧ x ≤ k))) := by
  unfold m63
  rw [hk]
  by_cases h : -k ≤ x
  · rw [brn_t (by simpa using h)]; simp [h]
  · rw [brn_f (by simpa using h)]; simp [h]
theorem in_ok (N : Nat) (x a b : Int) : m64 N x a b = some (.bool (decide (a ≤ x ∧ x ≤ b))) := by
  unfold m64
  by_cases h : a ≤ x
  · rw [brn_t (by simpa using h)]; simp [h]
  · rw [brn_f (by simpa using h)]; simp [h]
theorem cellsC_gp0 (a : List (Int × Int)) (p : Int × Int) (b : List (Int × Int)) : gp (cellsC (a ++ p :: b)) (a.length * 2) = .int .i64 p.1 := by
  have := gp_drop (l := cellsC (a ++ p :: b)) (k := a.length * 2) (i := 0)
  rw [cellsC_drop] at this
  rw [Nat.add_zero] at this
  rw [← this]; rfl
theorem cellsC_gp1 (a : List (Int × Int)) (p : Int × Int) (b : List (Int × Int)) : gp (cellsC (a ++ p :: b)) (a.length * 2 + 1) = .int .i64 p.2 := by
  have := gp_drop (l := cellsC (a ++ p :: b)) (k := a.length * 2) (i := 1)
  rw [cellsC_drop] at this
  rw [← this]; rfl

theorem chk_L (N : Nat) (L : List (Int × Int)) (hL : L.length ≤ 40) : ∀ (rest done : List (Int × Int)) (fuel : Nat), L = done ++ rest → rest.length < fuel →
    m22_L0 N L.length (cellsC L) fuel (done.length : Int) = some (if rest.all okC then .inr () else .inl (.int .i64 1))
  | [], done, 0, _, h => by simp at h
  | [], done, f + 1, e, _ => by
    subst e
    rw [m22_L0, brn_f (by simp)]; simp
  | p :: rest, done, 0, _, h => by simp at h
  | p :: rest, done, f + 1, e, h => by
    have ih := chk_L N L hL rest (done ++ [p]) f (by simp [e]) (by simp at h; omega)
    have hd : done.length < L.length := by rw [e]; simp
    have ht : (Int.toNat (done.length : Int)) = done.length := by omega
    rw [m22_L0, brn_t (by simpa using hd), grd_t ⟨by omega, by omega⟩, ht, grd_t (by rw [e]; exact cellsC_two done p rest)]
    have h2 : ((cellsC L).drop (done.length * 2)).take 2 = [.int .i64 p.1, .int .i64 p.2] := by rw [e]; exact cellsC_take done p rest
    rw [h2]
    simp only [getA2, getI, if_true, within_ok N p.1 100 (by decide), within_ok N p.2 10 (by decide), bnd', getB]
    have ih2 : m22_L0 N L.length (cellsC L) f (IntKind.i64.wrap ((done.length : Int) + 1)) = some (if rest.all okC then .inr () else .inl (.int .i64 1)) := by
      rw [wrapN (by omega)]; simpa using ih
    by_cases h1 : -100 ≤ p.1 ∧ p.1 ≤ 100
    · rw [brn_t (by simpa using h1)]
      by_cases h3 : -10 ≤ p.2 ∧ p.2 ≤ 10
      · rw [brn_t (by simpa using h3), ih2]
        have : okC p = true := by simp [okC]; omega
        rw [List.all_cons, this, Bool.true_and]
      · rw [brn_f (by simpa using h3)]
        have : okC p = false := by simp [okC]; omega
        simp [this]
    · rw [brn_f (by simpa using h1)]
      have : okC p = false := by simp [okC]; omega
      simp [this]
theorem chr_L (N : Nat) (L : List (Int × Int)) (hL : L.length ≤ 40) : ∀ (rest done : List (Int × Int)) (fuel : Nat), L = done ++ rest → rest.length < fuel →
    m23_L0 N L.length (cellsC L) fuel (done.length : Int) = some (if rest.all okC then .inr () else .inl (.int .i64 1))
  | [], done, 0, _, h => by simp at h
  | [], done, f + 1, e, _ => by
    subst e
    rw [m23_L0, brn_f (by simp)]; simp
  | p :: rest, done, 0, _, h => by simp at h
  | p :: rest, done, f + 1, e, h => by
    have ih := chr_L N L hL rest (done ++ [p]) f (by simp [e]) (by simp at h; omega)
    have hd : done.length < L.length := by rw [e]; simp
    have ht : (Int.toNat (done.length : Int)) = done.length := by omega
    have hc : (cellsC L).length = L.length * 2 := cellsC_len L
    have g0 : gp (cellsC L) (done.length * 2) = .int .i64 p.1 := by rw [e]; exact cellsC_gp0 done p rest
    have g1 : gp (cellsC L) (done.length * 2 + 1) = .int .i64 p.2 := by rw [e]; exact cellsC_gp1 done p rest
    rw [m23_L0, brn_t (by simpa using hd), grd_t ⟨by omega, by omega⟩, ht, grd_t (by rw [List.length_drop]; omega), g0, g1]
    simp only [getI, if_true, in_ok, bnd', getB]
    have ih2 : m23_L0 N L.length (cellsC L) f (IntKind.i64.wrap ((done.length : Int) + 1)) = some (if rest.all okC then .inr () else .inl (.int .i64 1)) := by
      rw [wrapN (by omega)]; simpa using ih
    by_cases h1 : -100 ≤ p.1 ∧ p.1 ≤ 100
    · rw [brn_t (by simpa using h1), grd_t (by rw [List.length_drop, List.length_drop]; omega)]
      by_cases h3 : -10 ≤ p.2 ∧ p.2 ≤ 10
      · rw [brn_t (by simpa using h3), ih2]
        have : okC p = true := by simp [okC]; omega
        rw [List.all_cons, this, Bool.true_and]
      · rw [brn_f (by simpa using h3)]
        have : okC p = false := by simp [okC]; omega
        simp [this]
    · rw [brn_f (by simpa using h1)]
      have : okC p = false := by simp [okC]; omega
      simp [this]
def Chk (L : List (Int × Int)) : Int := if L.length = 0 then 4 else if 8 < L.length then 3 else if L.all okC then 0 else 1
theorem check_ok (N : Nat) (L : List (Int × Int)) (hL : L.length ≤ 40) (hN : 100 ≤ N) : m22 N (.lst false L.length (cellsC L)) = some (.int .i64 (Chk L)) := by
  simp only [m22, getL, Chk]
  by_cases h0 : L.length = 0
  · rw [brn_t (by simp [h0])]; simp [h0]
  · rw [brn_f (by simpa using h0)]
    by_cases h8 : 8 < L.length
    · rw [brn_t (by simp; omega)]; simp [h0, h8]
    · rw [brn_f (by simp; omega)]
      have := chk_L N L hL L [] N rfl (by omega)
      simp only [List.length_nil] at this
      rw [show m22_L0 N L.length (cellsC L) N 0 = _ from this]
      simp only [bnd', h0, h8, if_false]
      by_cases ha : L.all okC = true
      · simp [ha]
      · simp [ha]
theorem checkr_ok (N : Nat) (L : List (Int × Int)) (hL : L.length ≤ 40) (hN : 100 ≤ N) : m23 N (.lst false L.length (cellsC L)) = some (.int .i64 (Chk L)) := by
  simp only [m23, getL, Chk]
  by_cases h0 : L.length = 0
  · rw [brn_t (by simp [h0])]; simp [h0]
  · rw [brn_f (by simpa using h0)]
    by_cases h8 : 8 < L.length
    · rw [brn_t (by simp; omega)]; simp [h0, h8]
    · rw [brn_f (by simp; omega)]
      have := chr_L N L hL L [] N rfl (by omega)
      simp only [List.length_nil] at this
      rw [show m23_L0 N L.length (cellsC L) N 0 = _ from this]
      simp only [bnd', h0, h8, if_false]
      by_cases ha : L.all okC = true
      · simp [ha]
      · simp [ha]
/-! what contracts are worth -/
def Wt (num den : Int) (p : Int × Int) : Int := IntKind.i64.wrap (IntKind.i64.wrap (p.1 * den) + IntKind.i64.wrap (p.2 * num))
theorem at_ok (N : Nat) (p : Int × Int) (num den : Int) : m78 N (.agg [.int .i64 p.1, .int .i64 p.2]) (.agg [.int .i64 num, .int .i64 den]) = some (.int .i64 (Wt num den p)) := by
  simp [m78, getA2, getI, Wt]
theorem worth_ok (N : Nat) (p : Int × Int) (num den : Int) : m62 N (.agg [.int .i64 p.1, .int .i64 p.2]) (.agg [.int .i64 num, .int .i64 den]) = some (.int .i64 (Wt num den p)) := by
  simp [m62, getA2, getI, Wt]
def iL (X : List Int) : List PV := X.map (PV.int .i64)
theorem set_mid {α : Type} (a : List α) (x v : α) (b : List α) : (a ++ x :: b).set a.length v = a ++ v :: b := by
  induction a with
  | nil => rfl
  | cons y a ih => simp [ih]
theorem iL_gp (a : List Int) (x : Int) (b : List Int) : gp (iL (a ++ x :: b)) a.length = .int .i64 x := by
  have := gp_drop (l := iL (a ++ x :: b)) (k := a.length) (i := 0)
  rw [Nat.add_zero] at this
  rw [← this]
  have : (iL (a ++ x :: b)).drop a.length = iL (x :: b) := by
    unfold iL; rw [List.map_append, show a.length = (a.map (PV.int .i64)).length by simp, List.drop_left]
  rw [this]; rfl
theorem asked_L (N : Nat) (L : List (Int × Int)) (hL : L.length ≤ 40) (num den : Int) : ∀ (rest done : List (Int × Int)) (fuel : Nat), L = done ++ rest → rest.length < fuel →
    m57_L0 N L.length (cellsC L) num den fuel (done.length : Int) (iL (done.map (Wt num den)) ++ List.replicate rest.length (.int .i64 0)) = some (iL (L.map (Wt num den)))
  | [], done, 0, _, h => by simp at h
  | [], done, f + 1, e, _ => by
    subst e
    rw [m57_L0, brn_f (by simp)]; simp
  | p :: rest, done, 0, _, h => by simp at h
  | p :: rest, done, f + 1, e, h => by
    have ih := asked_L N L hL num den rest (done ++ [p]) f (by simp [e]) (by simp at h; omega)
    have hd : done.length < L.length := by rw [e]; simp
    have ht : (Int.toNat (done.length : Int)) = done.length := by omega
    rw [m57_L0, brn_t (by simpa using hd), grd_t ⟨by omega, by omega⟩, ht, grd_t (by rw [e]; exact cellsC_two done p rest)]
    have h2 : ((cellsC L).drop (done.length * 2)).take 2 = [.int .i64 p.1, .int .i64 p.2] := by rw [e]; exact cellsC_take done p rest
    rw [h2]
    simp only [getA2, at_ok, bnd', getI, if_true]
    rw [grd_t (by simp [iL]), wrapN (by omega)]
    have hs : (iL (done.map (Wt num den)) ++ List.replicate (p :: rest).length (PV.int .i64 0)).set done.length (.int .i64 (Wt num den p)) = iL ((done ++ [p]).map (Wt num den)) ++ List.replicate rest.length (.int .i64 0) := by
      rw [List.length_cons, List.replicate_succ]
      have := set_mid (iL (done.map (Wt num den))) (.int .i64 0) (.int .i64 (Wt num den p)) (List.replicate rest.length (PV.int .i64 0))
      rw [show (iL (done.map (Wt num den))).length = done.length by simp [iL]] at this
      rw [this]
      simp [iL]
    rw [hs]
    simpa using ih
def mx (m : Int) (X : List Int) : Int := X.foldl maxI m
theorem max_L (N : Nat) (X : List Int) (hX : X.length ≤ 40) : ∀ (rest done : List Int) (fuel : Nat) (m : Int), X = done ++ rest → rest.length < fuel →
    m79_L0 N X.length (iL X) fuel m (done.length : Int) = some (mx m rest)
  | [], done, 0, _, _, h => by simp at h
  | [], done, f + 1, m, e, _ => by
    subst e
    rw [m79_L0, brn_f (by simp)]; simp [mx]
  | p :: rest, done, 0, _, _, h => by simp at h
  | p :: rest, done, f + 1, m, e, h => by
    have ih := max_L N X hX rest (done ++ [p]) f (maxI m p) (by simp [e]) (by simp at h; omega)
    have hd : done.length < X.length := by rw [e]; simp
    have ht : (Int.toNat (done.length : Int)) = done.length := by omega
    have g0 : gp (iL X) done.length = .int .i64 p := by rw [e]; exact iL_gp done p rest
    rw [m79_L0, brn_t (by simpa using hd), grd_t ⟨by omega, by omega⟩, ht, grd_t (by rw [List.length_drop]; simp [iL]; omega), g0]
    simp only [getI, if_true]
    rw [wrapN (by omega)]
    simpa [mx] using ih
theorem max_ok (N : Nat) (x : Int) (X : List Int) (hX : (x :: X).length ≤ 40) (hN : 100 ≤ N) : m79 N (.lst false (x :: X).length (iL (x :: X))) = some (.int .i64 (mx x X)) := by
  simp only [m79, getL]
  rw [brn_f (by simp; omega), grd_t (by simp), grd_t (by simp [iL])]
  have g0 : gp (iL (x :: X)) 0 = .int .i64 x := iL_gp [] x X
  rw [g0]
  simp only [getI, if_true]
  have := max_L N (x :: X) hX X [x] N x rfl (by simp at hX; omega)
  rw [show m79_L0 N (x :: X).length (iL (x :: X)) N x 1 = some (mx x X) from this]
  rfl
theorem most_L (N : Nat) (L : List (Int × Int)) (hL : L.length ≤ 40) (num den : Int) : ∀ (rest done : List (Int × Int)) (fuel : Nat) (m : Int), L = done ++ rest → rest.length < fuel →
    m61_L0 N L.length (cellsC L) (.int .i64 num) (.int .i64 den) fuel m (done.length : Int) = some (mx m (rest.map (Wt num den)))
  | [], done, 0, _, _, h => by simp at h
  | [], done, f + 1, m, e, _ => by
    subst e
    rw [m61_L0, brn_f (by simp)]; simp [mx]
  | p :: rest, done, 0, _, _, h => by simp at h
  | p :: rest, done, f + 1, m, e, h => by
    have ih := most_L N L hL num den rest (done ++ [p]) f (maxI m (Wt num den p)) (by simp [e]) (by simp at h; omega)
    have hd : done.length < L.length := by rw [e]; simp
    have ht : (Int.toNat (done.length : Int)) = done.length := by omega
    rw [m61_L0, brn_t (by simpa using hd), grd_t ⟨by omega, by omega⟩, ht, grd_t (by rw [e]; exact cellsC_two done p rest)]
    have h2 : ((cellsC L).drop (done.length * 2)).take 2 = [.int .i64 p.1, .int .i64 p.2] := by rw [e]; exact cellsC_take done p rest
    rw [h2]
    simp only [getA2, worth_ok, bnd', getI, if_true]
    rw [wrapN (by omega)]
    simpa [mx] using ih
theorem most_ok (N : Nat) (p : Int × Int) (L : List (Int × Int)) (hL : (p :: L).length ≤ 40) (hN : 100 ≤ N) (num den : Int) :
    m61 N (.lst false (p :: L).length (cellsC (p :: L))) (.agg [.int .i64 num, .int .i64 den]) = some (.int .i64 (mx (Wt num den p) (L.map (Wt num den)))) := by
  simp only [m61, getL, getA2]
  rw [grd_t (by simp), grd_t (by rw [cellsC_len]; simp; omega)]
  have h2 : (cellsC (p :: L)).take 2 = [.int .i64 p.1, .int .i64 p.2] := rfl
  rw [h2]
  simp only [worth_ok, bnd', getI, if_true]
  have := most_L N (p :: L) hL num den L [p] N (Wt num den p) rfl (by simp at hL; omega)
  rw [show m61_L0 N (p :: L).length (cellsC (p :: L)) (.int .i64 num) (.int .i64 den) N (Wt num den p) 1 = some (mx (Wt num den p) (L.map (Wt num den))) from this]
/-! fractions in lowest terms -/
theorem gcd_ok (N : Nat) (x1 x2 : Int) : ∀ (k : Nat) (a b : Int), 0 ≤ b → b ≤ k → 0 ≤ a → (0 < b ∨ 0 < a) → ∃ g, 0 < g ∧ (∀ fu, k < fu → m80 N fu a b = some (.int .i64 g)) ∧ ∀ fu, k < fu → m60_L1 N x1 x2 fu a b = some g
  | k, a, b, hb, hk, ha, hab => by
    by_cases h0 : b = 0
    · subst h0
      refine ⟨a, by omega, fun fu hf => ?_, fun fu hf => ?_⟩
      · obtain ⟨m, rfl⟩ : ∃ m, fu = m + 1 := ⟨fu - 1, by omega⟩
        rw [m80, brn_t (by simp)]
      · obtain ⟨m, rfl⟩ : ∃ m, fu = m + 1 := ⟨fu - 1, by omega⟩
        rw [m60_L1, brn_f (by simp)]
    · have hbp : 0 < b := by omega
      have h1 : 0 ≤ a.tmod b := Int.tmod_nonneg b ha
      have h2 : a.tmod b < b := Int.tmod_lt_of_pos a hbp
      match k, hk with
      | 0, hk => omega
      | k + 1, hk =>
        obtain ⟨g, g1, g2, g3⟩ := gcd_ok N x1 x2 k b (a.tmod b) h1 (by omega) hb (.inr hbp)
        refine ⟨g, g1, fun fu hf => ?_, fun fu hf => ?_⟩
        · obtain ⟨m, rfl⟩ : ∃ m, fu = m + 1 := ⟨fu - 1, by omega⟩
          rw [m80, brn_f (by simpa using h0), grd_t h0, g2 m (by omega)]
          simp [bnd', getI]
        · obtain ⟨m, rfl⟩ : ∃ m, fu = m + 1 := ⟨fu - 1, by omega⟩
          rw [m60_L1, brn_t (by simpa using hbp), grd_t h0, g3 m (by omega)]
theorem maxI_nonneg (x : Int) (h1 : -9223372036854775807 ≤ x) (h2 : x ≤ 9223372036854775807) : 0 ≤ maxI x (IntKind.i64.wrap (0 - x)) := by
  rw [wrap64 (by omega) (by omega)]
  unfold maxI
  split <;> omega
theorem lowest_ok (N : Nat) (x den : Int) (hN : 2000 ≤ N) (h1 : -9223372036854775807 ≤ x) (h2 : x ≤ 9223372036854775807) (hd : 1 ≤ den) (hd2 : den ≤ 1000) :
    ∃ u v, m58 N x den = some (.agg [.int .i64 u, .int .i64 v]) ∧ m60 N x den = some (.agg [.int .i64 u, .int .i64 v]) := by
  obtain ⟨g, g1, g2, g3⟩ := gcd_ok N x den 1000 (maxI x (IntKind.i64.wrap (0 - x))) den (by omega) (by omega) (maxI_nonneg x h1 h2) (.inl (by omega))
  refine ⟨IntKind.i64.wrap (Int.tdiv x g), IntKind.i64.wrap (Int.tdiv den g), ?_, ?_⟩
  · unfold m58
    rw [brn_f (by simp; omega), g2 N (by omega)]
    simp only [bnd', getI, if_true]
    rw [grd_t (by omega)]
  · unfold m60
    rw [brn_f (by simp; omega), g3 N (by omega)]
    simp only [bnd']
    rw [grd_t (by omega)]

/-! both sides -/
def okP (num den : Int) : Prop := -1000 ≤ num ∧ num ≤ 1000 ∧ 1 ≤ den ∧ den ≤ 1000
instance (num den : Int) : Decidable (okP num den) := by unfold okP; infer_instance
def Prc (L : List (Int × Int)) (num den : Int) : Int := if Chk L ≠ 0 then Chk L else if okP num den then 0 else 1
theorem priced_ok (N : Nat) (L : List (Int × Int)) (hL : L.length ≤ 40) (hN : 100 ≤ N) (num den : Int) :
    m59 N (.lst false L.length (cellsC L)) (.agg [.int .i64 num, .int .i64 den]) = some (.int .i64 (Prc L num den)) := by
  simp only [m59, getL, getA2, checkr_ok N L hL hN, bnd', getI, if_true, Prc]
  by_cases h0 : Chk L = 0
  · rw [brn_t (by simp [h0])]
    simp only [in_ok, bnd', getB]
    by_cases h1 : -1000 ≤ num ∧ num ≤ 1000
    · rw [brn_t (by simpa using h1)]
      by_cases h2 : 1 ≤ den ∧ den ≤ 1000
      · rw [brn_t (by simpa using h2)]
        have : okP num den := ⟨h1.1, h1.2, h2.1, h2.2⟩
        simp [h0, this]
      · rw [brn_f (by simpa using h2)]
        have : ¬ okP num den := fun h => h2 ⟨h.2.2.1, h.2.2.2⟩
        simp [h0, this]
    · rw [brn_f (by simpa using h1)]
      have : ¬ okP num den := fun h => h1 ⟨h.1, h.2.1⟩
      simp [h0, this]
  · rw [brn_f (by simpa using h0)]
    simp [h0]
theorem asked_err (N : Nat) (L : List (Int × Int)) (hL : L.length ≤ 40) (hN : 100 ≤ N) (num den : Int) (h : Prc L num den ≠ 0) :
    m57 N (.lst false L.length (cellsC L)) (.agg [.int .i64 num, .int .i64 den]) = some (.tup [.lst false 0 [], .int .i64 0, .int .i64 (Prc L num den)]) := by
  simp only [m57, getL, getA2, check_ok N L hL hN, bnd', getI, if_true]
  by_cases h0 : Chk L = 0
  · rw [brn_f (by simp [h0])]
    simp only [within_ok N num 1000 (by decide), getB]
    have hp : ¬ okP num den := fun hp => h (by simp [Prc, h0, hp])
    have e1 : Prc L num den = 1 := by simp [Prc, h0, hp]
    by_cases h1 : -1000 ≤ num ∧ num ≤ 1000
    · rw [brn_t (by simpa using h1)]
      by_cases h2 : den < 1
      · rw [brn_t (by simpa using h2), e1]
      · rw [brn_f (by simpa using h2)]
        have h3 : den > 1000 := by
          rcases Int.lt_or_le 1000 den with h3 | h3
          · exact h3
          · exact absurd ⟨h1.1, h1.2, by omega, h3⟩ hp
        rw [brn_t (by simpa using h3), e1]
    · rw [brn_f (by simpa using h1), e1]
  · rw [brn_t (by simpa using h0)]
    have : Prc L num den = Chk L := by simp [Prc, h0]
    rw [this]
theorem asked_okk (N : Nat) (p : Int × Int) (L : List (Int × Int)) (hL : (p :: L).length ≤ 40) (hN : 100 ≤ N) (num den : Int) (h0 : Chk (p :: L) = 0) (hp : okP num den) :
    m57 N (.lst false (p :: L).length (cellsC (p :: L))) (.agg [.int .i64 num, .int .i64 den]) = some (.tup [.lst false (p :: L).length (iL ((p :: L).map (Wt num den))), .int .i64 (mx (Wt num den p) (L.map (Wt num den))), .int .i64 0]) := by
  simp only [m57, getL, getA2, check_ok N (p :: L) hL hN, bnd', getI, if_true]
  rw [brn_f (by simp [h0])]
  simp only [within_ok N num 1000 (by decide), getB]
  obtain ⟨p1, p2, p3, p4⟩ := hp
  rw [brn_t (by simp; omega), brn_f (by simp; omega), brn_f (by simp; omega), grd_t ⟨by omega, by omega, by omega⟩]
  have := asked_L N (p :: L) hL num den (p :: L) [] N rfl (by omega)
  simp only [List.map_nil, List.length_nil] at this
  rw [show m57_L0 N (p :: L).length (cellsC (p :: L)) num den N 0 (List.replicate (p :: L).length (.int .i64 0)) = some (iL ((p :: L).map (Wt num den))) from this]
  simp only [bnd']
  rw [grd_t (by simp [iL])]
  have hm := max_ok N (Wt num den p) (L.map (Wt num den)) (by simpa using hL) hN
  have e : (p :: L).length = (Wt num den p :: L.map (Wt num den)).length := by simp
  rw [List.map_cons, e, hm]
  simp
theorem Wt_bound {num den : Int} {p : Int × Int} (hp : okP num den) (h : okC p = true) : -200000 ≤ Wt num den p ∧ Wt num den p ≤ 200000 := by
  obtain ⟨p1, p2, p3, p4⟩ := hp
  have hc : -100 ≤ p.1 ∧ p.1 ≤ 100 ∧ -10 ≤ p.2 ∧ p.2 ≤ 10 := by simpa [okC] using h
  obtain ⟨c1, c2, c3, c4⟩ := hc
  have a1 : p.1 * den ≤ 100 * den := Int.mul_le_mul_of_nonneg_right c2 (by omega)
  have a2 : -100 * den ≤ p.1 * den := Int.mul_le_mul_of_nonneg_right c1 (by omega)
  have b : -10000 ≤ p.2 * num ∧ p.2 * num ≤ 10000 := by
    rcases Int.le_total 0 num with hn | hn
    · have b1 : p.2 * num ≤ 10 * num := Int.mul_le_mul_of_nonneg_right c4 hn
      have b2 : -10 * num ≤ p.2 * num := Int.mul_le_mul_of_nonneg_right c3 hn
      omega
    · have b1 : 10 * num ≤ p.2 * num := Int.mul_le_mul_of_nonpos_right c4 hn
      have b2 : p.2 * num ≤ -10 * num := Int.mul_le_mul_of_nonpos_right c3 hn
      omega
  unfold Wt
  rw [wrap64 (n := p.1 * den) (by omega) (by omega), wrap64 (n := p.2 * num) (by omega) (by omega), wrap64 (by omega) (by omega)]
  omega
theorem mx_bound {lo hi : Int} : ∀ (X : List Int) (m : Int), lo ≤ m → m ≤ hi → (∀ x ∈ X, lo ≤ x ∧ x ≤ hi) → lo ≤ mx m X ∧ mx m X ≤ hi
  | [], m, h1, h2, _ => ⟨h1, h2⟩
  | x :: X, m, h1, h2, h => by
    have hx := h x (by simp)
    have := mx_bound X (maxI m x) (by unfold maxI; split <;> omega) (by unfold maxI; split <;> omega) (fun y hy => h y (by simp [hy]))
    simpa [mx] using this
theorem Chk_zero {L : List (Int × Int)} (h : Chk L = 0) : ∃ p l, L = p :: l ∧ L.all okC = true := by
  cases L with
  | nil => simp [Chk] at h
  | cons p l =>
    refine ⟨p, l, rfl, ?_⟩
    unfold Chk at h
    by_cases h8 : 8 < (p :: l).length
    · rw [if_neg (by simp), if_pos h8] at h
      exact absurd h (by decide)
    · by_cases ha : (p :: l).all okC = true
      · exact ha
      · simp only [h8, ha, if_false] at h
        simp at h
theorem Prc_zero {L : List (Int × Int)} {num den : Int} (h : Prc L num den = 0) : Chk L = 0 ∧ okP num den := by
  unfold Prc at h
  by_cases h0 : Chk L = 0
  · simp only [h0, ne_eq, not_true_eq_false, if_false] at h
    by_cases hp : okP num den
    · exact ⟨h0, hp⟩
    · simp [hp] at h
  · simp [h0] at h

/-- what a best one is worth: both say the same -/
theorem worths (N : Nat) (L : List (Int × Int)) (hL : L.length ≤ 40) (hN : 2000 ≤ N) (num den : Int) :
    ∃ u v e, m17 N (.lst false L.length (cellsC L)) (.agg [.int .i64 num, .int .i64 den]) = some (.tup [.agg [.int .i64 u, .int .i64 v], .int .i64 e]) ∧
      m18 N (.lst false L.length (cellsC L)) (.agg [.int .i64 num, .int .i64 den]) = some (.tup [.agg [.int .i64 u, .int .i64 v], .int .i64 e]) := by
  by_cases h : Prc L num den = 0
  · obtain ⟨h0, hp⟩ := Prc_zero h
    obtain ⟨p, l, rfl, ha⟩ := Chk_zero h0
    have hb : ∀ q ∈ p :: l, -200000 ≤ Wt num den q ∧ Wt num den q ≤ 200000 := fun q hq => Wt_bound hp (List.all_eq_true.1 ha q hq)
    have hm := mx_bound (lo := -200000) (hi := 200000) (l.map (Wt num den)) (Wt num den p) (hb p (by simp)).1 (hb p (by simp)).2 (fun x hx => by
      obtain ⟨q, hq, rfl⟩ := List.mem_map.1 hx
      exact hb q (by simp [hq]))
    obtain ⟨u, v, e1, e2⟩ := lowest_ok N (mx (Wt num den p) (l.map (Wt num den))) den hN (by omega) (by omega) hp.2.2.1 hp.2.2.2
    refine ⟨u, v, 0, ?_, ?_⟩
    · simp only [m17, getL, getA2, asked_okk N p l hL (by omega) num den h0 hp, bnd', getT3, getI, if_true]
      rw [brn_f (by simp), e1]
    · simp only [m18, getL, getA2, priced_ok N (p :: l) hL (by omega) num den, bnd', getI, if_true, h]
      rw [brn_f (by simp), most_ok N p l hL (by omega) num den]
      simp only [getI, if_true]
      rw [e2]
  · refine ⟨0, 0, Prc L num den, ?_, ?_⟩
    · simp only [m17, getL, getA2, asked_err N L hL (by omega) num den h, bnd', getT3, getI, if_true]
      rw [brn_t (by simpa using h)]
    · simp only [m18, getL, getA2, priced_ok N L hL (by omega) num den, bnd', getI, if_true]
      rw [brn_t (by simpa using h)]

/-! the best ones -/
def bestF (m : Int) : Nat → List Int → List Int
  | _, [] => []
  | k, x :: X => if x = m then (k : Int) :: bestF m (k + 1) X else bestF m (k + 1) X
theorem best_L (N : Nat) (X : List Int) (hX : X.length ≤ 40) (m e0 : Int) : ∀ (rest done : List Int) (fuel : Nat) (acc : List Int), X = done ++ rest → rest.length < fuel → acc.length ≤ 100 - rest.length →
    m19_L0 N X.length (iL X) m e0 fuel acc.length (done.length : Int) (iL acc) = some ((acc ++ bestF m done.length rest).length, iL (acc ++ bestF m done.length rest))
  | [], done, 0, _, _, h, _ => by simp at h
  | [], done, f + 1, acc, e, _, _ => by
    subst e
    rw [m19_L0, brn_f (by simp)]; simp [bestF]
  | x :: rest, done, 0, _, _, h, _ => by simp at h
  | x :: rest, done, f + 1, acc, e, h, ha => by
    have hl : X.length = done.length + (rest.length + 1) := by rw [e]; simp
    have hd : done.length < X.length := by omega
    have ht : (Int.toNat (done.length : Int)) = done.length := by omega
    have g0 : gp (iL X) done.length = .int .i64 x := by rw [e]; exact iL_gp done x rest
    rw [m19_L0, brn_t (by simpa using hd), grd_t ⟨by omega, by omega⟩, ht, grd_t (by rw [List.length_drop]; simp [iL]; omega), g0]
    simp only [getI, if_true, List.length_cons] at *
    have ih1 := best_L N X hX m e0 rest (done ++ [x]) f (acc ++ [(done.length : Int)]) (by simp [e]) (by omega) (by simp; omega)
    have ih2 := best_L N X hX m e0 rest (done ++ [x]) f acc (by simp [e]) (by omega) (by omega)
    simp only [List.length_append, List.length_cons, List.length_nil, Nat.zero_add] at ih1 ih2
    by_cases hx : x = m
    · rw [brn_t (by simpa using hx), grd_t (by omega), grd_t (by simp [iL]), wrapN (by omega)]
      have e2 : iL (acc ++ [(done.length : Int)]) = iL acc ++ [.int .i64 (done.length : Int)] := by simp [iL]
      rw [e2] at ih1
      rw [ih1]
      simp [bestF, hx]
      omega
    · rw [brn_f (by simpa using hx), wrapN (by omega), ih2]
      simp [bestF, hx]
theorem bestr_L (N : Nat) (p0 : Int × Int) (L0 : List (Int × Int)) (hL : (p0 :: L0).length ≤ 40) (hN : 100 ≤ N) (num den : Int) : ∀ (rest done : List (Int × Int)) (fuel : Nat) (acc : List Int), p0 :: L0 = done ++ rest → rest.length < fuel → acc.length ≤ 100 - rest.length →
    m20_L0 N (p0 :: L0).length (cellsC (p0 :: L0)) (.int .i64 num) (.int .i64 den) fuel acc.length (done.length : Int) (iL acc) =
      some ((acc ++ bestF (mx (Wt num den p0) (L0.map (Wt num den))) done.length (rest.map (Wt num den))).length, iL (acc ++ bestF (mx (Wt num den p0) (L0.map (Wt num den))) done.length (rest.map (Wt num den))))
  | [], done, 0, _, _, h, _ => by simp at h
  | [], done, f + 1, acc, e, _, _ => by
    have : (p0 :: L0).length = done.length := by rw [e]; simp
    rw [m20_L0, brn_f (by rw [this]; simp)]; simp [bestF]
  | p :: rest, done, 0, _, _, h, _ => by simp at h
  | p :: rest, done, f + 1, acc, e, h, ha => by
    have hl : (p0 :: L0).length = done.length + (rest.length + 1) := by rw [e]; simp
    have hd : done.length < (p0 :: L0).length := by omega
    have ht : (Int.toNat (done.length : Int)) = done.length := by omega
    have h2 : ((cellsC (p0 :: L0)).drop (done.length * 2)).take 2 = [.int .i64 p.1, .int .i64 p.2] := by rw [e]; exact cellsC_take done p rest
    rw [m20_L0, brn_t (by rw [decide_eq_true_eq]; omega), grd_t ⟨by omega, by omega⟩, ht, grd_t (by rw [e]; exact cellsC_two done p rest), h2]
    simp only [getA2, worth_ok, most_ok N p0 L0 hL hN num den, bnd', getI, if_true]
    have h' : rest.length < f := by simp at h; omega
    have ha' : acc.length ≤ 100 - (rest.length + 1) := by simpa using ha
    have ih1 := bestr_L N p0 L0 hL hN num den rest (done ++ [p]) f (acc ++ [(done.length : Int)]) (by simp [e]) h' (by simp; omega)
    have ih2 := bestr_L N p0 L0 hL hN num den rest (done ++ [p]) f acc (by simp [e]) h' (by omega)
    simp only [List.length_append, List.length_cons, List.length_nil, Nat.zero_add] at ih1 ih2
    have hl2 : L0.length + 1 ≤ 40 := by simpa using hL
    have hdn : done.length ≤ 1000 := by omega
    by_cases hx : Wt num den p = mx (Wt num den p0) (L0.map (Wt num den))
    · rw [brn_t (by simpa using hx), grd_t (by omega), grd_t (by simp [iL]), wrapN hdn]
      have e2 : iL (acc ++ [(done.length : Int)]) = iL acc ++ [.int .i64 (done.length : Int)] := by simp [iL]
      rw [e2] at ih1
      simp only [List.length_cons] at ih1 ⊢
      rw [ih1]
      simp [bestF, hx]
      omega
    · rw [brn_f (by simpa using hx), wrapN hdn]
      simp only [List.length_cons] at ih2 ⊢
      rw [ih2]
      simp [bestF, hx]
/-- which are the best: both say the same -/
theorem bests (N : Nat) (L : List (Int × Int)) (hL : L.length ≤ 40) (hN : 2000 ≤ N) (num den : Int) :
    ∃ (X : List Int) (e : Int), m19 N (.lst false L.length (cellsC L)) (.agg [.int .i64 num, .int .i64 den]) = some (.tup [.lst false X.length (iL X), .int .i64 e]) ∧
      m20 N (.lst false L.length (cellsC L)) (.agg [.int .i64 num, .int .i64 den]) = some (.tup [.lst false X.length (iL X), .int .i64 e]) ∧ X.length ≤ 100 := by
  by_cases h : Prc L num den = 0
  · obtain ⟨h0, hp⟩ := Prc_zero h
    obtain ⟨p, l, rfl, ha⟩ := Chk_zero h0
    have hlen : ∀ (m : Int) (k : Nat) (X : List Int), (bestF m k X).length ≤ X.length := by
      intro m k X
      induction X generalizing k with
      | nil => simp [bestF]
      | cons x X ih => simp only [bestF]; split <;> simp <;> have := ih (k + 1) <;> omega
    have e1 := best_L N ((p :: l).map (Wt num den)) (by simpa using hL) (mx (Wt num den p) (l.map (Wt num den))) 0 ((p :: l).map (Wt num den)) [] N [] rfl (by simp at hL ⊢ <;> omega) (by simp at hL ⊢ <;> omega)
    have e2 := bestr_L N p l hL (by omega) num den (p :: l) [] N [] rfl (by omega) (by simp)
    simp only [List.nil_append, List.length_nil] at e1 e2
    refine ⟨bestF (mx (Wt num den p) (l.map (Wt num den))) 0 ((p :: l).map (Wt num den)), 0, ?_, ?_, ?_⟩
    · simp only [m19, getL, getA2, asked_okk N p l hL (by omega) num den h0 hp, bnd', getT3, getI, if_true]
      have e3 : (p :: l).length = ((p :: l).map (Wt num den)).length := by simp
      rw [e3]
      rw [show m19_L0 N ((p :: l).map (Wt num den)).length (iL ((p :: l).map (Wt num den))) (mx (Wt num den p) (l.map (Wt num den))) 0 N 0 0 [] = _ from e1]
      simp only []
      rw [grd_t (by simp [iL])]
    · simp only [m20, getL, getA2, priced_ok N (p :: l) hL (by omega) num den, bnd', getI, if_true, h]
      rw [brn_f (by simp)]
      rw [show m20_L0 N (p :: l).length (cellsC (p :: l)) (.int .i64 num) (.int .i64 den) N 0 0 [] = _ from e2]
      simp only []
      rw [grd_t (by simp [iL])]
    · have := hlen (mx (Wt num den p) (l.map (Wt num den))) 0 ((p :: l).map (Wt num den))
      simp only [List.length_map] at this
      omega
  · refine ⟨[], Prc L num den, ?_, ?_, by simp⟩
    · simp only [m19, getL, getA2, asked_err N L hL (by omega) num den h, bnd', getT3, getI, if_true]
      have e1 := best_L N [] (by simp) 0 (Prc L num den) [] [] N [] rfl (by simp; omega) (by simp)
      simp only [List.nil_append, List.length_nil, bestF] at e1
      rw [show m19_L0 N 0 [] 0 (Prc L num den) N 0 0 [] = some (0, []) from e1]
      simp [grd, iL]
    · simp only [m20, getL, getA2, priced_ok N L hL (by omega) num den, bnd', getI, if_true]
      rw [brn_t (by simpa using h)]
      rfl
theorem same_L (N : Nat) (X : List Int) (hX : X.length ≤ 100) : ∀ (rest done : List Int) (fuel : Nat), X = done ++ rest → rest.length < fuel →
    m21_L0 N X.length (iL X) X.length (iL X) fuel (done.length : Int) = some (.inr ())
  | [], done, 0, _, h => by simp at h
  | [], done, f + 1, e, _ => by
    subst e
    rw [m21_L0, brn_f (by simp)]
  | x :: rest, done, 0, _, h => by simp at h
  | x :: rest, done, f + 1, e, h => by
    have ih := same_L N X hX rest (done ++ [x]) f (by simp [e]) (by simp at h; omega)
    have hd : done.length < X.length := by rw [e]; simp
    have ht : (Int.toNat (done.length : Int)) = done.length := by omega
    have g0 : gp (iL X) done.length = .int .i64 x := by rw [e]; exact iL_gp done x rest
    have hl : 0 < ((iL X).drop done.length).length := by rw [List.length_drop]; simp [iL]; omega
    rw [m21_L0, brn_t (by simpa using hd), grd_t ⟨by omega, by omega⟩, ht, grd_t hl, g0]
    simp only [getI, if_true]
    rw [grd_t (by omega), grd_t hl]
    rw [brn_f (by simp), wrapN (by omega)]
    simpa using ih
theorem same_ok (N : Nat) (X : List Int) (hX : X.length ≤ 100) (hN : 2000 ≤ N) : m21 N (.lst false X.length (iL X)) (.lst false X.length (iL X)) = some (.bool true) := by
  simp only [m21, getL]
  rw [brn_f (by simp)]
  have := same_L N X hX X [] N rfl (by omega)
  rw [show m21_L0 N X.length (iL X) X.length (iL X) N 0 = _ from this]
  rfl

/-- the law -/
theorem law (L : List (Int × Int)) (num den : Int) : m3 2000 (.lst false L.length (cellsC L)) (.agg [.int .i64 num, .int .i64 den]) = some (.bool true) := by
  simp only [m3, getL, getA2]
  by_cases h : 40 < L.length
  · rw [brn_t (by simp; omega)]
    simp [m15, bnd', getB]
  · have hL : L.length ≤ 40 := by omega
    rw [brn_f (by simp; omega), inner_ok 2000 L hL (by omega)]
    obtain ⟨u, v, e, w1, w2⟩ := worths 2000 L hL (by omega) num den
    obtain ⟨X, e', b1, b2, hX⟩ := bests 2000 L hL (by omega) num den
    simp only [bnd', w1, w2, b1, b2, getT2, getI, if_true]
    rw [brn_t (by simp), brn_t (by simp), same_ok 2000 X hX (by omega)]
    simp only [getB]
    rw [brn_t rfl, brn_t (by simp), check_ok 2000 L hL (by omega), checkr_ok 2000 L hL (by omega)]
    simp only [getI, if_true]
    rw [brn_t (by simp)]
    simp [m15]
end Go.Proofs.Ytgnphlpoofaojaa
