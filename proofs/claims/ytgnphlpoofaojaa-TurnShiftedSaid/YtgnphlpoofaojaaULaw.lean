/-
  TurnWorths: what the functions compute answers as the law says.
-/
import Derived.Test.YtgnphlpoofaojaaUWorths
namespace Go.Proofs.Ytgnphlpoofaojaa
open Go.V

def cellsC (l : List (Int × Int)) : List PV := l.flatMap fun p => [.int .i64 p.1, .int .i64 p.2]
theorem cellsC_len : ∀ (l : List (Int × Int)), (cellsC l).length = l.length * 2
  | [] => rfl
  | p :: l => by
    have := cellsC_len l
    simp only [cellsC, List.flatMap_cons, List.length_append, List.length_cons, List.length_nil] at this ⊢
    omega
theorem cellsC_app (a b : List (Int × Int)) : cellsC (a ++ b) = cellsC a ++ cellsC b := by simp [cellsC]
theorem cellsC_drop (a b : List (Int × Int)) : (cellsC (a ++ b)).drop (a.length * 2) = cellsC b := by
  rw [cellsC_app, ← cellsC_len, List.drop_left]
theorem cellsC_take (a : List (Int × Int)) (p : Int × Int) (b : List (Int × Int)) : ((cellsC (a ++ p :: b)).drop (a.length * 2)).take 2 = [.int .i64 p.1, .int .i64 p.2] := by
  rw [cellsC_drop]; rfl
theorem cellsC_two (a : List (Int × Int)) (p : Int × Int) (b : List (Int × Int)) : 2 ≤ ((cellsC (a ++ p :: b)).drop (a.length * 2)).length := by
  rw [cellsC_drop, cellsC_len]; simp; omega
theorem wrapN {n : Nat} (h : n ≤ 1000) : IntKind.i64.wrap ((n : Int) + 1) = ((n + 1 : Nat) : Int) := by
  rw [wrap64 (by omega) (by omega)]; omega
theorem brn_t {α : Type} {b : Bool} {x y : Option α} (h : b = true) : brn b x y = x := by subst h; rfl
theorem brn_f {α : Type} {b : Bool} {x y : Option α} (h : b = false) : brn b x y = y := by subst h; rfl
theorem grd_t {α : Type} {p : Prop} [Decidable p] {k : Option α} (h : p) : grd p k = k := by simp [grd, h]

def okC (p : Int × Int) : Bool := decide (-100 ≤ p.1 ∧ p.1 ≤ 100 ∧ -10 ≤ p.2 ∧ p.2 ≤ 10)
theorem within_ok (N : Nat) (x k : Int) (hk : IntKind.i64.wrap (0 - k) = -k) : m63 N x k = some (.bool (decide (-k ≤ x ∧ x ≤ k))) := by
  unfold m63
  rw [hk]
  by_cases h : -k ≤ x
  · rw [brn_t (by simpa using h)]; simp [h]
  · rw [brn_f (by simpa using h)]; simp [h]
theorem cellsC_gp0 (a : List (Int × Int)) (p : Int × Int) (b : List (Int × Int)) : gp (cellsC (a ++ p :: b)) (a.length * 2) = .int .i64 p.1 := by
  have := gp_drop (l := cellsC (a ++ p :: b)) (k := a.length * 2) (i := 0)
  rw [cellsC_drop] at this
  rw [Nat.add_zero] at this
  rw [← this]; rfl
theorem cellsC_gp1 (a : List (Int × Int)) (p : Int × Int) (b : List (Int × Int)) : gp (cellsC (a ++ p :: b)) (a.length * 2 + 1) = .int .i64 p.2 := by
  have := gp_drop (l := cellsC (a ++ p :: b)) (k := a.length * 2) (i := 1)
  rw [cellsC_drop] at this
  rw [← this]; rfl

theorem chk_L (N : Nat) (L : List (Int × Int)) (hL : L.length ≤ 40) : ∀ (rest done : List (Int × Int)) (fuel : Nat), L = done ++ rest → rest.length < fuel →
    m22_L0 N L.length (cellsC L) fuel (done.length : Int) = some (if rest.all okC then .inr () else .inl (.int .i64 1))
  | [], done, 0, _, h => by simp at h
  | [], done, f + 1, e, _ => by
    subst e
    rw [m22_L0, brn_f (by simp)]; simp
  | p :: rest, done, 0, _, h => by simp at h
  | p :: rest, done, f + 1, e, h => by
    have ih := chk_L N L hL rest (done ++ [p]) f (by simp [e]) (by simp at h; omega)
    have hd : done.length < L.length := by rw [e]; simp
    have ht : (Int.toNat (done.length : Int)) = done.length := by omega
    rw [m22_L0, brn_t (by simpa using hd), grd_t ⟨by omega, by omega⟩, ht, grd_t (by rw [e]; exact cellsC_two done p rest)]
    have h2 : ((cellsC L).drop (done.length * 2)).take 2 = [.int .i64 p.1, .int .i64 p.2] := by rw [e]; exact cellsC_take done p rest
    rw [h2]
    simp only [getA2, getI, if_true, within_ok N p.1 100 (by decide), within_ok N p.2 10 (by decide), bnd', getB]
    have ih2 : m22_L0 N L.length (cellsC L) f (IntKind.i64.wrap ((done.length : Int) + 1)) = some (if rest.all okC then .inr () else .inl (.int .i64 1)) := by
      rw [wrapN (by omega)]; simpa using ih
    by_cases h1 : -100 ≤ p.1 ∧ p.1 ≤ 100
    · rw [brn_t (by simpa using h1)]
      by_cases h3 : -10 ≤ p.2 ∧ p.2 ≤ 10
      · rw [brn_t (by simpa using h3), ih2]
        have : okC p = true := by simp [okC]; omega
        rw [List.all_cons, this, Bool.true_and]
      · rw [brn_f (by simpa using h3)]
        have : okC p = false := by simp [okC]; omega
        simp [this]
    · rw [brn_f (by simpa using h1)]
      have : okC p = false := by simp [okC]; omega
      simp [this]
def Chk (L : List (Int × Int)) : Int := if L.length = 0 then 4 else if 8 < L.length then 3 else if L.all okC then 0 else 1
theorem check_ok (N : Nat) (L : List (Int × Int)) (hL : L.length ≤ 40) (hN : 100 ≤ N) : m22 N (.lst false L.length (cellsC L)) = some (.int .i64 (Chk L)) := by
  simp only [m22, getL, Chk]
  by_cases h0 : L.length = 0
  · rw [brn_t (by simp [h0])]; simp [h0]
  · rw [brn_f (by simpa using h0)]
    by_cases h8 : 8 < L.length
    · rw [brn_t (by simp; omega)]; simp [h0, h8]
    · rw [brn_f (by simp; omega)]
      have := chk_L N L hL L [] N rfl (by omega)
      simp only [List.length_nil] at this
      rw [show m22_L0 N L.length (cellsC L) N 0 = _ from this]
      simp only [bnd', h0, h8, if_false]
      by_cases ha : L.all okC = true
      · simp [ha]
      · simp [ha]
def Wt (num den : Int) (p : Int × Int) : Int := IntKind.i64.wrap (IntKind.i64.wrap (p.1 * den) + IntKind.i64.wrap (p.2 * num))
theorem at_ok (N : Nat) (p : Int × Int) (num den : Int) : m78 N (.agg [.int .i64 p.1, .int .i64 p.2]) (.agg [.int .i64 num, .int .i64 den]) = some (.int .i64 (Wt num den p)) := by
  simp [m78, getA2, getI, Wt]
def iL (X : List Int) : List PV := X.map (PV.int .i64)
theorem set_mid {α : Type} (a : List α) (x v : α) (b : List α) : (a ++ x :: b).set a.length v = a ++ v :: b := by
  induction a with
  | nil => rfl
  | cons y a ih => simp [ih]
theorem iL_gp (a : List Int) (x : Int) (b : List Int) : gp (iL (a ++ x :: b)) a.length = .int .i64 x := by
  have := gp_drop (l := iL (a ++ x :: b)) (k := a.length) (i := 0)
  rw [Nat.add_zero] at this
  rw [← this]
  have : (iL (a ++ x :: b)).drop a.length = iL (x :: b) := by
    unfold iL; rw [List.map_append, show a.length = (a.map (PV.int .i64)).length by simp, List.drop_left]
  rw [this]; rfl
theorem asked_L (N : Nat) (L : List (Int × Int)) (hL : L.length ≤ 40) (num den : Int) : ∀ (rest done : List (Int × Int)) (fuel : Nat), L = done ++ rest → rest.length < fuel →
    m57_L0 N L.length (cellsC L) num den fuel (done.length : Int) (iL (done.map (Wt num den)) ++ List.replicate rest.length (.int .i64 0)) = some (iL (L.map (Wt num den)))
  | [], done, 0, _, h => by simp at h
  | [], done, f + 1, e, _ => by
    subst e
    rw [m57_L0, brn_f (by simp)]; simp
  | p :: rest, done, 0, _, h => by simp at h
  | p :: rest, done, f + 1, e, h => by
    have ih := asked_L N L hL num den rest (done ++ [p]) f (by simp [e]) (by simp at h; omega)
    have hd : done.length < L.length := by rw [e]; simp
    have ht : (Int.toNat (done.length : Int)) = done.length := by omega
    rw [m57_L0, brn_t (by simpa using hd), grd_t ⟨by omega, by omega⟩, ht, grd_t (by rw [e]; exact cellsC_two done p rest)]
    have h2 : ((cellsC L).drop (done.length * 2)).take 2 = [.int .i64 p.1, .int .i64 p.2] := by rw [e]; exact cellsC_take done p rest
    rw [h2]
    simp only [getA2, at_ok, bnd', getI, if_true]
    rw [grd_t (by simp [iL]), wrapN (by omega)]
    have hs : (iL (done.map (Wt num den)) ++ List.replicate (p :: rest).length (PV.int .i64 0)).set done.length (.int .i64 (Wt num den p)) = iL ((done ++ [p]).map (Wt num den)) ++ List.replicate rest.length (.int .i64 0) := by
      rw [List.length_cons, List.replicate_succ]
      have := set_mid (iL (done.map (Wt num den))) (.int .i64 0) (.int .i64 (Wt num den p)) (List.replicate rest.length (PV.int .i64 0))
      rw [show (iL (done.map (Wt num den))).length = done.length by simp [iL]] at this
      rw [this]
      simp [iL]
    rw [hs]
    simpa using ih
def mx (m : Int) (X : List Int) : Int := X.foldl maxI m
theorem max_L (N : Nat) (X : List Int) (hX : X.length ≤ 40) : ∀ (rest done : List Int) (fuel : Nat) (m : Int), X = done ++ rest → rest.length < fuel →
    m79_L0 N X.length (iL X) fuel m (done.length : Int) = some (mx m rest)
  | [], done, 0, _, _, h => by simp at h
  | [], done, f + 1, m, e, _ => by
    subst e
    rw [m79_L0, brn_f (by simp)]; simp [mx]
  | p :: rest, done, 0, _, _, h => by simp at h
  | p :: rest, done, f + 1, m, e, h => by
    have ih := max_L N X hX rest (done ++ [p]) f (maxI m p) (by simp [e]) (by simp at h; omega)
    have hd : done.length < X.length := by rw [e]; simp
    have ht : (Int.toNat (done.length : Int)) = done.length := by omega
    have g0 : gp (iL X) done.length = .int .i64 p := by rw [e]; exact iL_gp done p rest
    rw [m79_L0, brn_t (by simpa using hd), grd_t ⟨by omega, by omega⟩, ht, grd_t (by rw [List.length_drop]; simp [iL]; omega), g0]
    simp only [getI, if_true]
    rw [wrapN (by omega)]
    simpa [mx] using ih
theorem max_ok (N : Nat) (x : Int) (X : List Int) (hX : (x :: X).length ≤ 40) (hN : 100 ≤ N) : m79 N (.lst false (x :: X).length (iL (x :: X))) = some (.int .i64 (mx x X)) := by
  simp only [m79, getL]
  rw [brn_f (by simp; omega), grd_t (by simp), grd_t (by simp [iL])]
  have g0 : gp (iL (x :: X)) 0 = .int .i64 x := iL_gp [] x X
  rw [g0]
  simp only [getI, if_true]
  have := max_L N (x :: X) hX X [x] N x rfl (by simp at hX; omega)
  rw [show m79_L0 N (x :: X).length (iL (x :: X)) N x 1 = some (mx x X) from this]
  rfl
def okP (num den : Int) : Prop := -1000 ≤ num ∧ num ≤ 1000 ∧ 1 ≤ den ∧ den ≤ 1000
instance (num den : Int) : Decidable (okP num den) := by unfold okP; infer_instance
theorem asked_okk (N : Nat) (p : Int × Int) (L : List (Int × Int)) (hL : (p :: L).length ≤ 40) (hN : 100 ≤ N) (num den : Int) (h0 : Chk (p :: L) = 0) (hp : okP num den) :
    m57 N (.lst false (p :: L).length (cellsC (p :: L))) (.agg [.int .i64 num, .int .i64 den]) = some (.tup [.lst false (p :: L).length (iL ((p :: L).map (Wt num den))), .int .i64 (mx (Wt num den p) (L.map (Wt num den))), .int .i64 0]) := by
  simp only [m57, getL, getA2, check_ok N (p :: L) hL hN, bnd', getI, if_true]
  rw [brn_f (by simp [h0])]
  simp only [within_ok N num 1000 (by decide), getB]
  obtain ⟨p1, p2, p3, p4⟩ := hp
  rw [brn_t (by simp; omega), brn_f (by simp; omega), brn_f (by simp; omega), grd_t ⟨by omega, by omega, by omega⟩]
  have := asked_L N (p :: L) hL num den (p :: L) [] N rfl (by omega)
  simp only [List.map_nil, List.length_nil] at this
  rw [show m57_L0 N (p :: L).length (cellsC (p :: L)) num den N 0 (List.replicate (p :: L).length (.int .i64 0)) = some (iL ((p :: L).map (Wt num den))) from this]
  simp only [bnd']
  rw [grd_t (by simp [iL])]
  have hm := max_ok N (Wt num den p) (L.map (Wt num den)) (by simpa using hL) hN
  have e : (p :: L).length = (Wt num den p :: L.map (Wt num den)).length := by simp
  rw [List.map_cons, e, hm]
  simp
theorem Wt_bound {num den : Int} {p : Int × Int} (hp : okP num den) (h : okC p = true) : -200000 ≤ Wt num den p ∧ Wt num den p ≤ 200000 := by
  obtain ⟨p1, p2, p3, p4⟩ := hp
  have hc : -100 ≤ p.1 ∧ p.1 ≤ 100 ∧ -10 ≤ p.2 ∧ p.2 ≤ 10 := by simpa [okC] using h
  obtain ⟨c1, c2, c3, c4⟩ := hc
  have a1 : p.1 * den ≤ 100 * den := Int.mul_le_mul_of_nonneg_right c2 (by omega)
  have a2 : -100 * den ≤ p.1 * den := Int.mul_le_mul_of_nonneg_right c1 (by omega)
  have b : -10000 ≤ p.2 * num ∧ p.2 * num ≤ 10000 := by
    rcases Int.le_total 0 num with hn | hn
    · have b1 : p.2 * num ≤ 10 * num := Int.mul_le_mul_of_nonneg_right c4 hn
      have b2 : -10 * num ≤ p.2 * num := Int.mul_le_mul_of_nonneg_right c3 hn
      omega
    · have b1 : 10 * num ≤ p.2 * num := Int.mul_le_mul_of_nonpos_right c4 hn
      have b2 : p.2 * num ≤ -10 * num := Int.mul_le_mul_of_nonpos_right c3 hn
      omega
  unfold Wt
  rw [wrap64 (n := p.1 * den) (by omega) (by omega), wrap64 (n := p.2 * num) (by omega) (by omega), wrap64 (by omega) (by omega)]
  omega
theorem mx_bound {lo hi : Int} : ∀ (X : List Int) (m : Int), lo ≤ m → m ≤ hi → (∀ x ∈ X, lo ≤ x ∧ x ≤ hi) → lo ≤ mx m X ∧ mx m X ≤ hi
  | [], m, h1, h2, _ => ⟨h1, h2⟩
  | x :: X, m, h1, h2, h => by
    have hx := h x (by simp)
    have := mx_bound X (maxI m x) (by unfold maxI; split <;> omega) (by unfold maxI; split <;> omega) (fun y hy => h y (by simp [hy]))
    simpa [mx] using this
theorem Chk_zero {L : List (Int × Int)} (h : Chk L = 0) : ∃ p l, L = p :: l ∧ L.all okC = true := by
  cases L with
  | nil => simp [Chk] at h
  | cons p l =>
    refine ⟨p, l, rfl, ?_⟩
    unfold Chk at h
    by_cases h8 : 8 < (p :: l).length
    · rw [if_neg (by simp), if_pos h8] at h
      exact absurd h (by decide)
    · by_cases ha : (p :: l).all okC = true
      · exact ha
      · simp only [h8, ha, if_false] at h
        simp at h
theorem same_L (N : Nat) (X : List Int) (hX : X.length ≤ 100) : ∀ (rest done : List Int) (fuel : Nat), X = done ++ rest → rest.length < fuel →
    m21_L0 N X.length (iL X) X.length (iL X) fuel (done.length : Int) = some (.inr ())
  | [], done, 0, _, h => by simp at h
  | [], done, f + 1, e, _ => by
    subst e
    rw [m21_L0, brn_f (by simp)]
  | x :: rest, done, 0, _, h => by simp at h
  | x :: rest, done, f + 1, e, h => by
    have ih := same_L N X hX rest (done ++ [x]) f (by simp [e]) (by simp at h; omega)
    have hd : done.length < X.length := by rw [e]; simp
    have ht : (Int.toNat (done.length : Int)) = done.length := by omega
    have g0 : gp (iL X) done.length = .int .i64 x := by rw [e]; exact iL_gp done x rest
    have hl : 0 < ((iL X).drop done.length).length := by rw [List.length_drop]; simp [iL]; omega
    rw [m21_L0, brn_t (by simpa using hd), grd_t ⟨by omega, by omega⟩, ht, grd_t hl, g0]
    simp only [getI, if_true]
    rw [grd_t (by omega), grd_t hl]
    rw [brn_f (by simp), wrapN (by omega)]
    simpa using ih
theorem same_ok (N : Nat) (X : List Int) (hX : X.length ≤ 100) (hN : 2000 ≤ N) : m21 N (.lst false X.length (iL X)) (.lst false X.length (iL X)) = some (.bool true) := by
  simp only [m21, getL]
  rw [brn_f (by simp)]
  have := same_L N X hX X [] N rfl (by omega)
  rw [show m21_L0 N X.length (iL X) X.length (iL X) N 0 = _ from this]
  rfl

end Go.Proofs.Ytgnphlpoofaojaa
