/-
  Contracts that are needed, and turns: what the functions compute.
-/
import Derived.Test.YtgnphlpoofaojaaXHullm
import Derived.Test.YtgnphlpoofaojaaXNeeds
namespace Go.Proofs.Ytgnphlpoofaojaa
open Go.V

def nL (l : List Nat) : List PV := l.map fun (k : Nat) => PV.int .i64 (k : Int)
theorem nL_len (l : List Nat) : (nL l).length = l.length := by simp [nL]
theorem nL_app (a b : List Nat) : nL (a ++ b) = nL a ++ nL b := by simp [nL]
theorem nL_gp (a : List Nat) (x : Nat) (b : List Nat) : gp (nL (a ++ x :: b)) a.length = .int .i64 (x : Int) := by
  have := gp_drop (l := nL (a ++ x :: b)) (k := a.length) (i := 0)
  rw [Nat.add_zero] at this
  rw [← this]
  have : (nL (a ++ x :: b)).drop a.length = nL (x :: b) := by
    rw [nL_app, ← nL_len a, List.drop_left]
  rw [this]; rfl
theorem nL_set (a : List Nat) (x y : Nat) (b : List Nat) : (nL (a ++ x :: b)).set a.length (.int .i64 (y : Int)) = nL (a ++ y :: b) := by
  rw [nL_app, nL_app]
  have := set_mid (nL a) (.int .i64 (x : Int)) (.int .i64 (y : Int)) (nL b)
  rw [nL_len] at this
  exact this
theorem ctL_at {L : List (Int × Int)} {k : Nat} (h : k < L.length) : L[k]? = some (ctL L k) := by
  unfold ctL; rw [List.getD_eq_getElem?_getD, List.getElem?_eq_getElem h]; rfl
theorem gpc1 {L : List (Int × Int)} {k : Nat} (h : k < L.length) : gp (cellsC L) (k * 2 + 1) = .int .i64 (ctL L k).2 := by
  have e : L = L.take k ++ ctL L k :: L.drop (k + 1) := by
    have h1 := List.getElem?_eq_some_iff.1 (ctL_at h)
    have := List.drop_eq_getElem_cons h
    rw [h1.2] at this
    rw [← this, List.take_append_drop]
  have := cellsC_gp1 (L.take k) (ctL L k) (L.drop (k + 1))
  rw [List.length_take, Nat.min_eq_left (by omega)] at this
  rw [← e] at this
  exact this
def cmpV (a b : Int × Int) : Int := if a.2 - b.2 ≠ 0 then a.2 - b.2 else -a.1 - -b.1
theorem cmpV_lt {f : Nat → Int × Int} {i j : Nat} : cmpV (f i) (f j) < 0 ↔ cmpLt f i j = true := by
  unfold cmpV cmpLt
  rw [decide_eq_true_eq]
  split <;> omega
theorem cmp_ok (N : Nat) (L : List (Int × Int)) (hb : ∀ q ∈ L, bdC q) (i j : Nat) (hi : i < L.length) (hj : j < L.length) : m84 N (i : Int) (j : Int) (.lst false L.length (cellsC L)) = some (.int .i64 (cmpV (ctL L i) (ctL L j))) := by
  have hcl : (cellsC L).length = L.length * 2 := cellsC_len L
  have ti : (Int.toNat (i : Int)) = i := by omega
  have tj : (Int.toNat (j : Int)) = j := by omega
  have bi := hb _ (ctL_mem hi)
  have bj := hb _ (ctL_mem hj)
  unfold bdC at bi bj
  simp only [m84, getL, ti, tj]
  rw [grd_t ⟨by omega, by omega⟩, grd_t (by simp only [List.length_drop]; omega), cellsC_at (ctL_at hi)]
  simp only [getA2]
  rw [grd_t ⟨by omega, by omega⟩, grd_t (by simp only [List.length_drop]; omega), cellsC_at (ctL_at hj)]
  simp only [m85, m81, m82, getA2, getI, if_true, bnd']
  have w1 : IntKind.i64.wrap ((ctL L i).2 - (ctL L j).2) = (ctL L i).2 - (ctL L j).2 := wrap64 (by omega) (by omega)
  have w2 : IntKind.i64.wrap (0 - (ctL L i).1) = -(ctL L i).1 := by rw [wrap64 (by omega) (by omega)]; omega
  have w3 : IntKind.i64.wrap (0 - (ctL L j).1) = -(ctL L j).1 := by rw [wrap64 (by omega) (by omega)]; omega
  have w4 : IntKind.i64.wrap (-(ctL L i).1 - -(ctL L j).1) = -(ctL L i).1 - -(ctL L j).1 := wrap64 (by omega) (by omega)
  rw [w1, w2, w3, w4]
  unfold cmpV
  by_cases h : (ctL L i).2 - (ctL L j).2 ≠ 0
  · rw [brn_t (by simpa using h), if_pos h]
    simp only [if_true]
  · rw [brn_f (by simpa using h), if_neg h]
    simp only [if_true]
theorem ins_L (N : Nat) (L : List (Int × Int)) (hb : ∀ q ∈ L, bdC q) (hL : L.length ≤ 1000) (n : Nat) (hn : n ≤ 1000) (b i : Int) (x : Nat) (hx : x < L.length) : ∀ (R rest : List Nat) (fuel : Nat), (∀ p ∈ R, p < L.length) → n = R.length + 1 + rest.length → R.length < fuel →
    m89_L1 N n 0 b (.lst false L.length (cellsC L)) i fuel (R.length : Int) (nL (R.reverse ++ x :: rest)) = some (nL ((insS (ctL L) x R).reverse ++ rest))
  | [], rest, 0, _, _, h => by simp at h
  | [], rest, f + 1, _, _, _ => by
    rw [m89_L1, brn_f (by simp)]; rfl
  | p :: R, rest, 0, _, _, h => by simp at h
  | p :: R, rest, f + 1, hR, hnn, hf => by
    have hp := hR p (by simp)
    simp only [List.length_cons] at hnn hf
    have w1 : IntKind.i64.wrap (((p :: R).length : Int) - 1) = ((R.length : Nat) : Int) := by rw [List.length_cons, wrap64 (by omega) (by omega)]; omega
    have t1 : (Int.toNat ((p :: R).length : Int)) = R.length + 1 := by simp
    have t2 : (Int.toNat ((R.length : Nat) : Int)) = R.length := by omega
    have hlen : (nL ((p :: R).reverse ++ x :: rest)).length = n := by rw [nL_len]; simp; omega
    have gx : gp (nL ((p :: R).reverse ++ x :: rest)) (R.length + 1) = .int .i64 (x : Int) := by
      have := nL_gp ((p :: R).reverse) x rest
      rw [List.length_reverse, List.length_cons] at this
      exact this
    have ep : (p :: R).reverse ++ x :: rest = R.reverse ++ p :: x :: rest := by simp
    have gpp : gp (nL ((p :: R).reverse ++ x :: rest)) R.length = .int .i64 (p : Int) := by
      rw [ep]
      have := nL_gp R.reverse p (x :: rest)
      rw [List.length_reverse] at this
      exact this
    rw [m89_L1, brn_t (by simp), w1, t1, t2, grd_t ⟨by simp; omega, by simp; omega⟩, grd_t (by omega), gx]
    simp only [getI, if_true]
    rw [grd_t ⟨by omega, by omega⟩, grd_t (by omega), gpp]
    simp only [if_true]
    rw [cmp_ok N L hb x p hx hp]
    simp only [bnd', if_true]
    by_cases hc : cmpV (ctL L x) (ctL L p) < 0
    · have hc' := cmpV_lt.1 hc
      rw [brn_t (by simpa using hc), grd_t (by omega), grd_t (by omega)]
      have es : ((nL ((p :: R).reverse ++ x :: rest)).set (R.length + 1) (.int .i64 (p : Int))).set R.length (.int .i64 (x : Int)) = nL (R.reverse ++ x :: p :: rest) := by
        have s1 := nL_set ((p :: R).reverse) x p rest
        rw [List.length_reverse, List.length_cons] at s1
        rw [s1]
        have e2 : (p :: R).reverse ++ p :: rest = R.reverse ++ p :: p :: rest := by simp
        rw [e2]
        have s2 := nL_set R.reverse p x (p :: rest)
        rw [List.length_reverse] at s2
        exact s2
      rw [es]
      have ih := ins_L N L hb hL n hn b i x hx R (p :: rest) f (fun z hz => hR z (by simp [hz])) (by simp; omega) (by omega)
      rw [ih]
      simp [insS, hc']
    · have hc' : ¬ cmpLt (ctL L) x p = true := fun h => hc (cmpV_lt.2 h)
      rw [brn_f (by simpa using hc)]
      simp [insS, hc']
theorem srt_len (f : Nat → Int × Int) : ∀ n, (srtF f n).length = n
  | 0 => rfl
  | n + 1 => by
    have h : ∀ (x : Nat) (R : List Nat), (insS f x R).length = R.length + 1 := by
      intro x R
      induction R with
      | nil => rfl
      | cons p R ih => simp only [insS]; split <;> simp [ih]
    rw [srtF, h, srt_len f n]
theorem sort_L (N : Nat) (L : List (Int × Int)) (hb : ∀ q ∈ L, bdC q) (hL : L.length ≤ 1000) (hN : 2000 ≤ N) : ∀ (r i fuel : Nat), L.length - i = r → i ≤ L.length → r < fuel →
    m89_L0 N L.length 0 (L.length : Int) (.lst false L.length (cellsC L)) fuel (i : Int) (nL ((srtF (ctL L) i).reverse ++ List.range' i (L.length - i))) = some (nL (srtF (ctL L) L.length).reverse)
  | r, i, 0, _, _, h => by omega
  | r, i, f + 1, hr, hi, hf => by
    rw [m89_L0]
    by_cases hd : i < L.length
    · rw [brn_t (by simpa using hd)]
      have e1 : List.range' i (L.length - i) = i :: List.range' (i + 1) (L.length - (i + 1)) := by
        rw [show L.length - i = (L.length - (i + 1)) + 1 by omega, List.range'_succ]
      have hmem := (srtF_sp (ctL L) i).2
      have h1 := ins_L N L hb hL L.length hL (L.length : Int) (i : Int) i hd (srtF (ctL L) i) (List.range' (i + 1) (L.length - (i + 1))) N (fun p hp => by have := (hmem p).1 hp; omega) (by rw [srt_len]; simp; omega) (by rw [srt_len]; omega)
      rw [srt_len] at h1
      rw [e1, h1]
      have hw : IntKind.i64.wrap ((i : Int) + 1) = ((i + 1 : Nat) : Int) := by rw [wrap64 (by omega) (by omega)]; omega
      simp only [bnd', hw]
      exact sort_L N L hb hL hN (r - 1) (i + 1) f (by omega) (by omega) (by omega)
    · have : i = L.length := by omega
      subst this
      rw [brn_f (by simp)]
      simp
theorem sort_ok (N : Nat) (L : List (Int × Int)) (hb : ∀ q ∈ L, bdC q) (h1 : 1 ≤ L.length) (hL : L.length < 20) (hN : 2000 ≤ N) : m83 N L.length (.lst false L.length (cellsC L)) (nL (List.range' 0 L.length)) = some (.tup [], nL (srtF (ctL L) L.length).reverse) := by
  have h2 := sort_L N L hb (by omega) hN (L.length - 1) 1 N (by omega) (by omega) (by omega)
  have e1 : (srtF (ctL L) 1).reverse ++ List.range' 1 (L.length - 1) = List.range' 0 L.length := by
    rw [show L.length = (L.length - 1) + 1 by omega, List.range'_succ]; rfl
  rw [e1] at h2
  have hA : m89 N L.length 0 (L.length : Int) (.lst false L.length (cellsC L)) (nL (List.range' 0 L.length)) = some (.tup [], nL (srtF (ctL L) L.length).reverse) := by
    simp only [m89]
    rw [show IntKind.i64.wrap ((0 : Int) + 1) = ((1 : Nat) : Int) by decide, h2]
    rfl
  obtain ⟨g, rfl⟩ : ∃ g, N = g + 1 := ⟨N - 1, by omega⟩
  simp only [m83, m88]
  rw [m88_L0, brn_f (by simp; omega)]
  simp only [bnd']
  rw [hA]
  simp only [getT0]
  rw [m88_L1, brn_f (by simp; omega)]
theorem fill_L (N : Nat) (n : Nat) (c : List PV) (hn : n ≤ 1000) : ∀ (r i fuel : Nat), n - i = r → i ≤ n → r < fuel →
    m65_L0 N n c fuel (i : Int) (nL (List.range' 0 i) ++ List.replicate (n - i) (.int .i64 0)) = some (nL (List.range' 0 n))
  | r, i, 0, _, _, h => by omega
  | r, i, f + 1, hr, hi, hf => by
    rw [m65_L0]
    have hli : (nL (List.range' 0 i)).length = i := by rw [nL_len]; simp
    by_cases hd : i < n
    · have ti : (Int.toNat (i : Int)) = i := by omega
      have hw : IntKind.i64.wrap ((i : Int) + 1) = ((i + 1 : Nat) : Int) := by rw [wrap64 (by omega) (by omega)]; omega
      rw [brn_t (by simpa using hd), ti, grd_t ⟨by omega, by omega⟩, grd_t (by rw [List.length_append, hli]; simp; omega), hw]
      have e1 : List.replicate (n - i) (PV.int .i64 0) = .int .i64 0 :: List.replicate (n - (i + 1)) (.int .i64 0) := by
        rw [show n - i = (n - (i + 1)) + 1 by omega, List.replicate_succ]
      have e2 : (nL (List.range' 0 i) ++ List.replicate (n - i) (PV.int .i64 0)).set i (.int .i64 (i : Int)) = nL (List.range' 0 (i + 1)) ++ List.replicate (n - (i + 1)) (.int .i64 0) := by
        rw [e1]
        have := set_mid (nL (List.range' 0 i)) (.int .i64 0) (.int .i64 (i : Int)) (List.replicate (n - (i + 1)) (PV.int .i64 0))
        rw [hli] at this
        rw [this]
        have : List.range' 0 (i + 1) = List.range' 0 i ++ [i] := by rw [List.range'_concat]; simp
        rw [this, nL_app]; simp [nL]
      rw [e2]
      exact fill_L N n c hn (r - 1) (i + 1) f (by omega) (by omega) (by omega)
    · have : i = n := by omega
      subst this
      rw [brn_f (by simp)]
      simp
theorem popI_len (f : Nat → Int × Int) (k : Nat) (T : List Nat) : (popI f k T).length ≤ T.length := by
  obtain ⟨u, h⟩ := popI_sub f k T
  have := congrArg List.length h
  simp at this; omega
theorem pop_L (N : Nat) (L : List (Int × Int)) (hb : ∀ q ∈ L, bdC q) (hL : L.length ≤ 1000) (c2 : List PV) (x : Int) (k : Nat) (hk : k < L.length) (T : List Nat) (hT : ∀ t ∈ T, t < L.length) (hTl : T.length ≤ 1000) : ∀ (T' u : List Nat) (fuel : Nat), T = u ++ T' → T'.length < fuel →
    m65_L2 N L.length (cellsC L) c2 T.length x (nL T.reverse) (k : Int) fuel (T'.length : Int) = some (((popI (ctL L) k T').length : Nat) : Int) ∧
    m65_L3 N L.length (cellsC L) c2 T.length x (nL T.reverse) (k : Int) fuel (T'.length : Int) = some (((popI (ctL L) k T').length : Nat) : Int)
  | [], u, 0, _, h => by simp at h
  | [], u, f + 1, _, _ => by
    rw [m65_L2, m65_L3, brn_f (by simp), brn_f (by simp)]; exact ⟨rfl, rfl⟩
  | [b], u, 0, _, h => by simp at h
  | [b], u, f + 1, _, _ => by
    rw [m65_L2, m65_L3, brn_f (by simp), brn_f (by simp)]; exact ⟨rfl, rfl⟩
  | b :: a :: T', u, 0, _, h => by simp at h
  | b :: a :: T', u, f + 1, e, hf => by
    have ha := hT a (by rw [e]; simp)
    have hbb := hT b (by rw [e]; simp)
    have hcl : (cellsC L).length = L.length * 2 := cellsC_len L
    have tk : (Int.toNat (k : Int)) = k := by omega
    have ta : (Int.toNat (a : Int)) = a := by omega
    have tb : (Int.toNat (b : Int)) = b := by omega
    have hTe : T.length = u.length + (T'.length + 2) := by rw [e]; simp
    have w1 : IntKind.i64.wrap (((b :: a :: T').length : Int) - 2) = ((T'.length : Nat) : Int) := by simp only [List.length_cons]; rw [wrap64 (by omega) (by omega)]; omega
    have w2 : IntKind.i64.wrap (((b :: a :: T').length : Int) - 1) = ((T'.length + 1 : Nat) : Int) := by simp only [List.length_cons]; rw [wrap64 (by omega) (by omega)]; omega
    have t1 : (Int.toNat ((T'.length : Nat) : Int)) = T'.length := by omega
    have t2 : (Int.toNat ((T'.length + 1 : Nat) : Int)) = T'.length + 1 := by omega
    have hlen : (nL T.reverse).length = T.length := by rw [nL_len]; simp
    have er : T.reverse = T'.reverse ++ a :: b :: u.reverse := by rw [e]; simp
    have ga : gp (nL T.reverse) T'.length = .int .i64 (a : Int) := by
      rw [er]
      have := nL_gp T'.reverse a (b :: u.reverse)
      rw [List.length_reverse] at this; exact this
    have gb : gp (nL T.reverse) (T'.length + 1) = .int .i64 (b : Int) := by
      rw [er]
      have := nL_gp (T'.reverse ++ [a]) b u.reverse
      simp only [List.length_append, List.length_reverse, List.length_cons, List.length_nil, Nat.zero_add, List.append_assoc, List.singleton_append] at this
      exact this
    obtain ⟨i1, i2⟩ := pop_L N L hb hL c2 x k hk T hT hTl (a :: T') (u ++ [b]) f (by rw [e]; simp) (by simp at hf ⊢; omega)
    have hab := above_ok N (hb _ (ctL_mem ha)) (hb _ (ctL_mem hbb)) (hb _ (ctL_mem hk))
    have hl1 : (((a :: T').length : Nat) : Int) = ((T'.length + 1 : Nat) : Int) := by simp
    rw [hl1] at i1 i2
    constructor
    · rw [m65_L2, brn_t (by simp; omega), w1, w2, t1, t2, grd_t ⟨by omega, by omega⟩, grd_t (by omega), ga]
      simp only [getI, if_true]
      rw [ta, grd_t ⟨by omega, by omega⟩, grd_t (by simp only [List.length_drop]; omega), cellsC_at (ctL_at ha)]
      simp only [getA2]
      rw [grd_t ⟨by omega, by omega⟩, grd_t (by omega), gb]
      simp only [if_true]
      rw [tb, grd_t ⟨by omega, by omega⟩, grd_t (by simp only [List.length_drop]; omega), cellsC_at (ctL_at hbb)]
      simp only []
      rw [tk, grd_t (by simp only [List.length_drop]; omega), cellsC_at (ctL_at hk)]
      simp only [hab, bnd', getB]
      simp only [popI]
      by_cases hh : aboveG (ctL L a) (ctL L b) (ctL L k) = true
      · rw [brn_t hh, if_pos hh]
      · rw [brn_f (by simpa using hh), if_neg hh, i1]
    · rw [m65_L3, brn_t (by simp; omega), w1, w2, t1, t2, grd_t ⟨by omega, by omega⟩, grd_t (by omega), ga]
      simp only [getI, if_true]
      rw [ta, grd_t ⟨by omega, by omega⟩, grd_t (by simp only [List.length_drop]; omega), cellsC_at (ctL_at ha)]
      simp only [getA2]
      rw [grd_t ⟨by omega, by omega⟩, grd_t (by omega), gb]
      simp only [if_true]
      rw [tb, grd_t ⟨by omega, by omega⟩, grd_t (by simp only [List.length_drop]; omega), cellsC_at (ctL_at hbb)]
      simp only []
      rw [tk, grd_t ⟨by omega, by omega⟩, grd_t (by simp only [List.length_drop]; omega), cellsC_at (ctL_at hk)]
      simp only [hab, bnd', getB]
      simp only [popI]
      by_cases hh : aboveG (ctL L a) (ctL L b) (ctL L k) = true
      · rw [brn_t hh, if_pos hh]
      · rw [brn_f (by simpa using hh), if_neg hh, i2]
theorem chain_L (N : Nat) (L : List (Int × Int)) (hb : ∀ q ∈ L, bdC q) (hL : L.length ≤ 500) (hN : 2000 ≤ N) (S : List Nat) (hS : ∀ s ∈ S, s < L.length) (hSl : S.length = L.length) : ∀ (rest done T : List Nat) (fuel : Nat), S = done ++ rest → (∀ t ∈ T, t < L.length) → T.length ≤ done.length → rest.length < fuel →
    m65_L1 N L.length (cellsC L) (nL S) fuel T.length (done.length : Int) (nL T.reverse) = some ((rest.foldl (pushI (ctL L)) T).length, nL (rest.foldl (pushI (ctL L)) T).reverse)
  | [], done, T, 0, _, _, _, h => by simp at h
  | [], done, T, f + 1, e, _, _, _ => by
    have : S.length = done.length := by rw [e]; simp
    rw [m65_L1, brn_f (by simp; omega)]; rfl
  | k :: rest, done, T, 0, _, _, _, h => by simp at h
  | k :: rest, done, T, f + 1, e, hT, hTd, hf => by
    have hk := hS k (by rw [e]; simp)
    have hSe : S.length = done.length + (rest.length + 1) := by rw [e]; simp
    have td : (Int.toNat ((done.length : Nat) : Int)) = done.length := by omega
    have hw : IntKind.i64.wrap ((done.length : Int) + 1) = ((done.length + 1 : Nat) : Int) := by rw [wrap64 (by omega) (by omega)]; omega
    have gk : gp (nL S) done.length = .int .i64 (k : Int) := by rw [e]; exact nL_gp done k rest
    have hlS : (nL S).length = S.length := nL_len S
    have hcl : (cellsC L).length = L.length * 2 := cellsC_len L
    have hlT : (nL T.reverse).length = T.length := by rw [nL_len]; simp
    have hdl : (done ++ [k]).length = done.length + 1 := by simp
    rw [m65_L1, brn_t (by simp; omega), td, grd_t ⟨by omega, by omega⟩, grd_t (by omega), gk]
    simp only [getI, if_true]
    obtain ⟨u, hu⟩ := popI_sub (ctL L) k T
    have hpl := popI_len (ctL L) k T
    have tp : Int.toNat (((popI (ctL L) k T).length : Nat) : Int) = (popI (ctL L) k T).length := by omega
    have etk : (nL T.reverse).take (popI (ctL L) k T).length ++ [.int .i64 (k : Int)] = nL (k :: popI (ctL L) k T).reverse := by
      have : T.reverse = (popI (ctL L) k T).reverse ++ u.reverse := by
        conv => lhs; rw [hu]
        simp
      have hl : (nL (popI (ctL L) k T).reverse).length = (popI (ctL L) k T).length := by rw [nL_len]; simp
      rw [this, nL_app, ← hl, List.take_left, List.reverse_cons, nL_app]
      rfl
    have hTp : ∀ t ∈ k :: popI (ctL L) k T, t < L.length := fun t ht => by
      rcases List.mem_cons.1 ht with rfl | ht
      · exact hk
      · exact hT t (by rw [hu]; simp [ht])
    have tkk : (Int.toNat (k : Int)) = k := by omega
    have ih2 := chain_L N L hb hL hN S hS hSl rest (done ++ [k]) (k :: popI (ctL L) k T) f (by simp [e]) hTp (by simp; omega) (by simp at hf; omega)
    rw [hdl, List.length_cons] at ih2
    match T, hT, hTd, hlT, hpl, hu, tp, etk, hTp, ih2 with
    | [], hT, hTd, hlT, hpl, hu, tp, etk, hTp, ih2 =>
      rw [brn_f (by simp)]
      have hp := (pop_L N L hb (by omega) (nL S) (done.length : Int) k hk [] (by simp) (by simp) [] [] N rfl (by simp; omega)).2
      rw [show ((([] : List Nat).length : Nat) : Int) = ((0 : Nat) : Int) from rfl] at hp
      rw [show m65_L3 N L.length (cellsC L) (nL S) ([] : List Nat).length (done.length : Int) (nL ([] : List Nat).reverse) (k : Int) N (([] : List Nat).length : Int) = _ from hp]
      simp only [bnd']
      rw [tp, grd_t ⟨by omega, by simp [popI]⟩, brn_f (by simp [popI]), grd_t ⟨by simp [popI], by unfold cutG; simp [popI]⟩, etk, hw, ih2]
      rfl
    | b :: T, hT, hTd, hlT, hpl, hu, tp, etk, hTp, ih2 =>
      have hbl := hT b (by simp)
      have tb : (Int.toNat (b : Int)) = b := by omega
      have w1 : IntKind.i64.wrap (((b :: T).length : Int) - 1) = ((T.length : Nat) : Int) := by rw [List.length_cons, wrap64 (by omega) (by simp only [List.length_cons] at hTd; omega)]; omega
      have t1 : (Int.toNat ((T.length : Nat) : Int)) = T.length := by omega
      have gb : gp (nL (b :: T).reverse) T.length = .int .i64 (b : Int) := by
        have := nL_gp T.reverse b []
        rw [List.length_reverse] at this
        simpa using this
      have hlT' : (nL (b :: T).reverse).length = T.length + 1 := by simpa using hlT
      simp only [List.length_cons] at hTd
      rw [brn_t (by simp), w1, t1, grd_t ⟨by omega, by simp only [List.length_cons]; omega⟩, grd_t (by omega), gb]
      simp only [if_true]
      rw [tb, grd_t ⟨by omega, by omega⟩, grd_t (by simp only [List.length_drop]; omega), gpc1 hbl]
      simp only [if_true]
      rw [tkk, grd_t ⟨by omega, by omega⟩, grd_t (by simp only [List.length_drop]; omega), gpc1 hk]
      simp only [if_true]
      by_cases hr : (ctL L b).2 = (ctL L k).2
      · rw [brn_t (by simpa using hr), hw]
        have ih1 := chain_L N L hb hL hN S hS hSl rest (done ++ [k]) (b :: T) f (by simp [e]) hT (by simp; omega) (by simp at hf; omega)
        rw [hdl] at ih1
        rw [ih1]
        simp [pushI, hr]
      · rw [brn_f (by simpa using hr)]
        have hp := (pop_L N L hb (by omega) (nL S) (done.length : Int) k hk (b :: T) hT (by simp; omega) (b :: T) [] N rfl (by simp; omega)).1
        rw [show m65_L2 N L.length (cellsC L) (nL S) (b :: T).length (done.length : Int) (nL (b :: T).reverse) (k : Int) N ((b :: T).length : Int) = _ from hp]
        simp only [bnd']
        simp only [List.length_cons] at hpl
        rw [tp, grd_t ⟨by omega, by simp only [List.length_cons]; omega⟩]
        by_cases hroom : (popI (ctL L) k (b :: T)).length + 1 ≤ (b :: T).length - 0
        · simp only [List.length_cons] at hroom
          rw [brn_t (by simpa using hroom), grd_t ⟨by unfold cutG; omega, by omega⟩, etk, hw, ih2]
          simp [pushI, hr]
        · rw [brn_f (by simpa using hroom), grd_t ⟨by omega, by unfold cutG; omega⟩, etk, hw, ih2]
          simp [pushI, hr]
theorem hull_ok (N : Nat) (L : List (Int × Int)) (hb : ∀ q ∈ L, bdC q) (h1 : 1 ≤ L.length) (hL : L.length < 20) (hN : 2000 ≤ N) : m65 N (.lst false L.length (cellsC L)) = some (.lst false (hullF L).length (nL (hullF L))) := by
  have hf := fill_L N L.length (cellsC L) (by omega) L.length 0 N (by omega) (by omega) (by omega)
  obtain ⟨s1, s2⟩ := srtF_sp (ctL L) L.length
  have hc := chain_L N L hb (by omega) hN (srtF (ctL L) L.length).reverse (fun s hs => (s2 s).1 (List.mem_reverse.1 hs)) (by simp [srt_len]) (srtF (ctL L) L.length).reverse [] [] N rfl (by simp) (by simp) (by simp [srt_len]; omega)
  simp only [m65, getL]
  rw [grd_t ⟨by omega, by omega, by omega⟩]
  rw [show m65_L0 N L.length (cellsC L) N 0 (List.replicate L.length (.int .i64 0)) = some (nL (List.range' 0 L.length)) from by simpa [nL] using hf]
  simp only [bnd', sort_ok N L hb h1 hL hN, getT0]
  rw [show m65_L1 N L.length (cellsC L) (nL (srtF (ctL L) L.length).reverse) N 0 0 [] = _ from hc]
  simp only []
  rw [grd_t (by rw [nL_len]; simp)]
  simp [hullF]
end Go.Proofs.Ytgnphlpoofaojaa
