/-
  TurnBest: what the functions compute answers as the law says.
-/
import Derived.Test.YtgnphlpoofaojaaRed
import Derived.Test.YtgnphlpoofaojaaBests
namespace Go.Proofs.Ytgnphlpoofaojaa
open Go.V

theorem gp_mid (a : List PV) (x : PV) (b : List PV) : gp (a ++ x :: b) a.length = x := by
  have := gp_drop (l := a ++ x :: b) (k := a.length) (i := 0)
  rw [Nat.add_zero] at this
  rw [← this, List.drop_left]; rfl

/-! a desk of contracts -/
def deskC (many : Int) (Z : List (Int × Int)) : List PV := .int .u8 many :: (Z.map (fun z => PV.int .i8 z.1) ++ Z.map (fun z => PV.int .i8 z.2))
def mkP (mf mr : Int) (z : Int × Int) : Int × Int := (z.1.tmod (mf + 1), z.2.tmod (mr + 1))
def mkL (mf mr : Int) (n : Nat) (Z : List (Int × Int)) : List (Int × Int) := (Z.take n).map (mkP mf mr)
def byteZ (Z : List (Int × Int)) : Prop := Z.length = 8 ∧ ∀ z ∈ Z, -128 ≤ z.1 ∧ z.1 ≤ 127 ∧ -128 ≤ z.2 ∧ z.2 ≤ 127
theorem deskC_len {many : Int} {Z : List (Int × Int)} (h : Z.length = 8) : (deskC many Z).length = 17 := by simp [deskC, h]
theorem desk_f (many : Int) (done : List (Int × Int)) (z : Int × Int) (rest : List (Int × Int)) : gp (deskC many (done ++ z :: rest)) (1 + done.length) = .int .i8 z.1 := by
  have := gp_mid (PV.int .u8 many :: done.map (fun z => PV.int .i8 z.1)) (.int .i8 z.1) (rest.map (fun z => PV.int .i8 z.1) ++ (done ++ z :: rest).map (fun z => PV.int .i8 z.2))
  simp only [List.length_cons, List.length_map] at this
  rw [Nat.add_comm, ← this]
  simp [deskC]
theorem desk_r (many : Int) (done : List (Int × Int)) (z : Int × Int) (rest : List (Int × Int)) (h : (done ++ z :: rest).length = 8) : gp (deskC many (done ++ z :: rest)) (9 + done.length) = .int .i8 z.2 := by
  have := gp_mid (PV.int .u8 many :: ((done ++ z :: rest).map (fun z => PV.int .i8 z.1) ++ done.map (fun z => PV.int .i8 z.2))) (.int .i8 z.2) (rest.map (fun z => PV.int .i8 z.2))
  simp only [List.length_cons, List.length_map, List.length_append] at this h
  rw [show 9 + done.length = done.length + (rest.length + 1) + done.length + 1 by omega, ← this]
  simp [deskC]
theorem made_L (N : Nat) (mf mr many : Int) (Z : List (Int × Int)) (hZ : byteZ Z) (K : Nat) (hK : IntKind.i64.wrap (1 + (Int.tmod (IntKind.i64.wrap many) 8)) = (K : Int)) (hK8 : K ≤ 8)
    (wf : IntKind.i64.wrap (mf + 1) = mf + 1) (wr : IntKind.i64.wrap (mr + 1) = mr + 1) (pf : 0 ≤ mf) (pr : 0 ≤ mr) : ∀ (rest done : List (Int × Int)) (fuel : Nat), Z = done ++ rest → done.length ≤ K → rest.length < fuel →
    m36_L0 N mf mr (deskC many Z) many fuel done.length (done.length : Int) (cellsC (done.map (mkP mf mr))) = some (K, cellsC (mkL mf mr K Z))
  | rest, done, 0, _, _, h => by simp at h
  | rest, done, f + 1, e, hk, h => by
    rw [m36_L0, hK]
    by_cases hd : done.length = K
    · rw [brn_f (by simp; omega)]
      have : Z.take K = done := by rw [e, ← hd, List.take_left]
      simp [mkL, this, hd]
    · rw [brn_t (by simp; omega)]
      match rest, e, h with
      | [], e, _ =>
        have := hZ.1
        rw [e] at this
        simp at this
        omega
      | z :: rest, e, h =>
        have hz := hZ.2 z (by rw [e]; simp)
        have hl := hZ.1
        have ht : (Int.toNat (done.length : Int)) = done.length := by omega
        have hlen : (deskC many Z).length = 17 := deskC_len hZ.1
        have gf : gp (deskC many Z) (1 + done.length) = .int .i8 z.1 := by rw [e]; exact desk_f _ _ _ _
        have gr : gp (deskC many Z) (9 + done.length) = .int .i8 z.2 := by rw [e]; exact desk_r _ _ _ _ (by rw [← e]; exact hl)
        have w1 : IntKind.i64.wrap z.1 = z.1 := wrap64 (by omega) (by omega)
        have w2 : IntKind.i64.wrap z.2 = z.2 := wrap64 (by omega) (by omega)
        rw [grd_t ⟨by omega, by omega⟩, ht, grd_t (by omega), gf]
        simp only [getI, if_true, wf, wr]
        rw [grd_t (by omega), grd_t (by omega), gr]
        simp only [if_true]
        rw [grd_t (by omega), grd_t (by omega), grd_t (by rw [cellsC_len]; simp), w1, w2, wrapN (by omega)]
        have ih := made_L N mf mr many Z hZ K hK hK8 wf wr pf pr rest (done ++ [z]) f (by simp [e]) (by simp; omega) (by simp at h; omega)
        have e2 : cellsC ((done ++ [z]).map (mkP mf mr)) = cellsC (done.map (mkP mf mr)) ++ [.int .i64 (z.1.tmod (mf + 1)), .int .i64 (z.2.tmod (mr + 1))] := by
          rw [List.map_append, cellsC_app]; rfl
        rw [e2] at ih
        simpa using ih
def howMany (many : Int) : Nat := (1 + many % 8).toNat
theorem made_ok (N : Nat) (hN : 100 ≤ N) (mf mr many : Int) (Z : List (Int × Int)) (hZ : byteZ Z) (h0 : 0 ≤ many) (h1 : many ≤ 255)
    (wf : IntKind.i64.wrap (mf + 1) = mf + 1) (wr : IntKind.i64.wrap (mr + 1) = mr + 1) (pf : 0 ≤ mf) (pr : 0 ≤ mr) :
    m36 N (.agg (deskC many Z)) mf mr = some (.lst false (howMany many) (cellsC (mkL mf mr (howMany many) Z))) := by
  have hlen : (deskC many Z).length = 17 := deskC_len hZ.1
  have hK : IntKind.i64.wrap (1 + (Int.tmod (IntKind.i64.wrap many) 8)) = ((howMany many : Nat) : Int) := by
    rw [wrap64 (n := many) (by omega) (by omega), Int.tmod_eq_emod_of_nonneg h0, wrap64 (by omega) (by omega)]
    unfold howMany; omega
  have hK8 : howMany many ≤ 8 := by unfold howMany; omega
  simp only [m36, getA]
  rw [grd_t (by omega), show gp (deskC many Z) 0 = .int .u8 many from rfl]
  simp only [getI, if_true]
  rw [grd_t (by omega)]
  have := made_L N mf mr many Z hZ (howMany many) hK hK8 wf wr pf pr Z [] N rfl (by simp) (by rw [hZ.1]; omega)
  simp only [List.length_nil, List.map_nil] at this
  rw [show m36_L0 N mf mr (deskC many Z) many N 0 0 [] = _ from this]
  simp only [bnd']
  rw [grd_t (by rw [cellsC_len]; simp [mkL, hZ.1]; omega)]
theorem tmod_bd (x m : Int) (hm : 0 ≤ m) : -m ≤ x.tmod (m + 1) ∧ x.tmod (m + 1) ≤ m := by
  have h1 := Int.tmod_lt_of_pos x (show 0 < m + 1 by omega)
  have h2 := Int.lt_tmod_of_pos x (show 0 < m + 1 by omega)
  omega
theorem mkL_len {mf mr : Int} {Z : List (Int × Int)} (hZ : byteZ Z) (many : Int) (h0 : 0 ≤ many) : (mkL mf mr (howMany many) Z).length = howMany many ∧ 1 ≤ howMany many ∧ howMany many ≤ 8 := by
  have : howMany many ≤ 8 := by unfold howMany; omega
  have : 1 ≤ howMany many := by unfold howMany; omega
  simp [mkL, hZ.1]; omega
theorem mkL_mem {mf mr : Int} {Z : List (Int × Int)} {n : Nat} (hf : 0 ≤ mf) (hr : 0 ≤ mr) {p : Int × Int} (h : p ∈ mkL mf mr n Z) : -mf ≤ p.1 ∧ p.1 ≤ mf ∧ -mr ≤ p.2 ∧ p.2 ≤ mr := by
  obtain ⟨z, _, rfl⟩ := List.mem_map.1 h
  have h1 := tmod_bd z.1 mf hf
  have h2 := tmod_bd z.2 mr hr
  exact ⟨h1.1, h1.2, h2.1, h2.2⟩
theorem Chk_of {L : List (Int × Int)} (h1 : 1 ≤ L.length) (h8 : L.length ≤ 8) (h : ∀ p ∈ L, okC p = true) : Chk L = 0 := by
  unfold Chk
  rw [if_neg (by omega), if_neg (by omega), if_pos (List.all_eq_true.2 h)]

/-! what contracts are worth -/
def Ct (n d : Int) (p : Int × Int) : Int := p.1 * d + p.2 * n
theorem Wt_eq {n d : Int} {p : Int × Int} (hp : okP n d) (h : okC p = true) : Wt n d p = Ct n d p := by
  obtain ⟨p1, p2, p3, p4⟩ := hp
  have hc : -100 ≤ p.1 ∧ p.1 ≤ 100 ∧ -10 ≤ p.2 ∧ p.2 ≤ 10 := by simpa [okC] using h
  obtain ⟨c1, c2, c3, c4⟩ := hc
  have a1 : p.1 * d ≤ 100 * d := Int.mul_le_mul_of_nonneg_right c2 (by omega)
  have a2 : -100 * d ≤ p.1 * d := Int.mul_le_mul_of_nonneg_right c1 (by omega)
  have b : -10000 ≤ p.2 * n ∧ p.2 * n ≤ 10000 := by
    rcases Int.le_total 0 n with hn | hn
    · have b1 : p.2 * n ≤ 10 * n := Int.mul_le_mul_of_nonneg_right c4 hn
      have b2 : -10 * n ≤ p.2 * n := Int.mul_le_mul_of_nonneg_right c3 hn
      omega
    · have b1 : 10 * n ≤ p.2 * n := Int.mul_le_mul_of_nonpos_right c4 hn
      have b2 : p.2 * n ≤ -10 * n := Int.mul_le_mul_of_nonpos_right c3 hn
      omega
  unfold Wt Ct
  rw [wrap64 (n := p.1 * d) (by omega) (by omega), wrap64 (n := p.2 * n) (by omega) (by omega), wrap64 (by omega) (by omega)]
theorem at41_ok (N : Nat) (p : Int × Int) (num den : Int) : m41 N (.agg [.int .i64 p.1, .int .i64 p.2]) (.agg [.int .i64 num, .int .i64 den]) = some (.int .i64 (Wt num den p)) := by
  simp [m41, getA2, getI, Wt]
theorem mosta_L (N : Nat) (L : List (Int × Int)) (hL : L.length ≤ 40) (num den : Int) : ∀ (rest done : List (Int × Int)) (fuel : Nat) (m : Int), L = done ++ rest → rest.length < fuel →
    m39_L0 N L.length (cellsC L) (.int .i64 num) (.int .i64 den) fuel m (done.length : Int) = some (mx m (rest.map (Wt num den)))
  | [], done, 0, _, _, h => by simp at h
  | [], done, f + 1, m, e, _ => by
    subst e
    rw [m39_L0, brn_f (by simp)]; simp [mx]
  | p :: rest, done, 0, _, _, h => by simp at h
  | p :: rest, done, f + 1, m, e, h => by
    have ih := mosta_L N L hL num den rest (done ++ [p]) f (maxI m (Wt num den p)) (by simp [e]) (by simp at h; omega)
    have hd : done.length < L.length := by rw [e]; simp
    have ht : (Int.toNat (done.length : Int)) = done.length := by omega
    rw [m39_L0, brn_t (by simpa using hd), grd_t ⟨by omega, by omega⟩, ht, grd_t (by rw [e]; exact cellsC_two done p rest)]
    have h2 : ((cellsC L).drop (done.length * 2)).take 2 = [.int .i64 p.1, .int .i64 p.2] := by rw [e]; exact cellsC_take done p rest
    rw [h2]
    simp only [getA2, at41_ok, bnd', getI, if_true]
    rw [wrapN (by omega)]
    simpa [mx] using ih
theorem maxI_self (m : Int) : maxI m m = m := by unfold maxI; split <;> rfl
theorem mosta_ok (N : Nat) (p : Int × Int) (L : List (Int × Int)) (hL : (p :: L).length ≤ 40) (hN : 100 ≤ N) (num den : Int) :
    m39 N (.lst false (p :: L).length (cellsC (p :: L))) (.agg [.int .i64 num, .int .i64 den]) = some (.int .i64 (mx (Wt num den p) (L.map (Wt num den)))) := by
  simp only [m39, getL, getA2]
  rw [grd_t (by simp), grd_t (by rw [cellsC_len]; simp; omega)]
  have h2 : (cellsC (p :: L)).take 2 = [.int .i64 p.1, .int .i64 p.2] := rfl
  rw [h2]
  simp only [at41_ok, bnd', getI, if_true]
  have := mosta_L N (p :: L) hL num den (p :: L) [] N (Wt num den p) rfl (by simp at hL ⊢; omega)
  rw [show m39_L0 N (p :: L).length (cellsC (p :: L)) (.int .i64 num) (.int .i64 den) N (Wt num den p) 0 = some (mx (Wt num den p) ((p :: L).map (Wt num den))) from this]
  simp [mx, maxI_self]

/-! proper -/
theorem proper_L (N : Nat) (u v : Int) (hv : v ≤ 1000) (hc : Int.gcd u v = 1) : ∀ (k : Nat) (d : Int) (fuel : Nat), 2 ≤ d → v + 1 - d ≤ k → k < fuel →
    m37_L0 N v u fuel d = some (.inr ())
  | k, d, 0, _, _, h => by omega
  | k, d, f + 1, h2, hk, hf => by
    rw [m37_L0]
    by_cases hd : d ≤ v
    · have hw : IntKind.i64.wrap (d + 1) = d + 1 := wrap64 (by omega) (by omega)
      rw [brn_t (by simpa using hd), grd_t (by omega), hw]
      match k, hk with
      | 0, hk => omega
      | k + 1, hk =>
        have ih := proper_L N u v hv hc k (d + 1) f (by omega) (by omega) (by omega)
        by_cases a : u.tmod d = 0
        · rw [brn_t (by simpa using a)]
          by_cases b : v.tmod d = 0
          · exfalso
            have d1 : d ∣ u := Int.dvd_of_tmod_eq_zero a
            have d2 : d ∣ v := Int.dvd_of_tmod_eq_zero b
            have d3 : d ∣ (Int.gcd u v : Int) := Int.dvd_coe_gcd d1 d2
            rw [hc] at d3
            have := Int.le_of_dvd (by decide) d3
            omega
          · rw [brn_f (by simpa using b), ih]
        · rw [brn_f (by simpa using a), ih]
    · rw [brn_f (by simpa using hd)]
theorem proper_ok (N : Nat) (hN : 2000 ≤ N) (p : Int × Int) (hr : Red p) (hv : p.2 ≤ 1000) (hu : -200000 ≤ p.1 ∧ p.1 ≤ 200000) : m37 N (frP p) = some (.bool true) := by
  obtain ⟨h1, h2⟩ := hr
  simp only [m37, frP, getA2, getI, if_true]
  rw [brn_f (by simp; omega), brn_f (by simp; omega), brn_f (by simp; omega), brn_f (by simp; omega), proper_L N p.1 p.2 hv h2 1000 2 N (by omega) (by omega) (by omega)]
  rfl
/-! worth and best, exactly -/
theorem worth_x (N : Nat) (hN : 2000 ≤ N) (p : Int × Int) (l : List (Int × Int)) (hl : (p :: l).length ≤ 8) (hc : ∀ q ∈ p :: l, okC q = true) (n d : Int) (hp : okP n d) :
    m17 N (.lst false (p :: l).length (cellsC (p :: l))) (.agg [.int .i64 n, .int .i64 d]) = some (.tup [frP (lowP (mx (Wt n d p) (l.map (Wt n d))) d), .int .i64 0]) := by
  have h0 : Chk (p :: l) = 0 := Chk_of (by simp) hl hc
  have hb : ∀ q ∈ p :: l, -200000 ≤ Wt n d q ∧ Wt n d q ≤ 200000 := fun q hq => Wt_bound hp (hc q hq)
  have hm := mx_bound (lo := -200000) (hi := 200000) (l.map (Wt n d)) (Wt n d p) (hb p (by simp)).1 (hb p (by simp)).2 (fun x hx => by
    obtain ⟨q, hq, rfl⟩ := List.mem_map.1 hx
    exact hb q (by simp [hq]))
  obtain ⟨p1, p2, p3, p4⟩ := hp
  have e := (low_m N (mx (Wt n d p) (l.map (Wt n d))) d ⟨by omega, by omega⟩ (by omega) ⟨by omega, by omega⟩ (by omega)).1
  simp only [m17, getL, getA2, asked_okk N p l (by omega) (by omega) n d h0 ⟨p1, p2, p3, p4⟩, bnd', getT3, getI, if_true]
  rw [brn_f (by simp), e]
  rfl
theorem best_x (N : Nat) (hN : 2000 ≤ N) (p : Int × Int) (l : List (Int × Int)) (hl : (p :: l).length ≤ 8) (hc : ∀ q ∈ p :: l, okC q = true) (n d : Int) (hp : okP n d) :
    m19 N (.lst false (p :: l).length (cellsC (p :: l))) (.agg [.int .i64 n, .int .i64 d]) =
      some (.tup [.lst false (bestF (mx (Wt n d p) (l.map (Wt n d))) 0 ((p :: l).map (Wt n d))).length (iL (bestF (mx (Wt n d p) (l.map (Wt n d))) 0 ((p :: l).map (Wt n d)))), .int .i64 0]) := by
  have h0 : Chk (p :: l) = 0 := Chk_of (by simp) hl hc
  have e1 := best_L N ((p :: l).map (Wt n d)) (by simp at hl ⊢; omega) (mx (Wt n d p) (l.map (Wt n d))) 0 ((p :: l).map (Wt n d)) [] N [] rfl (by simp at hl ⊢; omega) (by simp at hl ⊢ <;> omega)
  simp only [List.nil_append, List.length_nil] at e1
  simp only [m19, getL, getA2, asked_okk N p l (by omega) (by omega) n d h0 hp, bnd', getT3, getI, if_true]
  have e3 : (p :: l).length = ((p :: l).map (Wt n d)).length := by simp
  rw [e3]
  rw [show m19_L0 N ((p :: l).map (Wt n d)).length (iL ((p :: l).map (Wt n d))) (mx (Wt n d p) (l.map (Wt n d))) 0 N 0 0 [] = _ from e1]
  simp only []
  rw [grd_t (by simp [iL])]
theorem bestF_le (m : Int) : ∀ (X : List Int) (k : Nat), (bestF m k X).length ≤ X.length
  | [], k => by simp [bestF]
  | x :: X, k => by
    have := bestF_le m X (k + 1)
    simp only [bestF]; split <;> simp <;> omega

/-! the loop of the law -/
theorem want_L (N : Nat) (x752 : Int) (L : List (Int × Int)) (hL : L.length ≤ 40) (p766 p767 p771 p772 : PV) (x881 : Int) (c882 : List PV) (n d : Int) (p896 p897 : PV) (x899 : Int) (n906 : Nat) (c907 : List PV) (x909 M : Int)
    (hi : Int.toNat x881 < c882.length) : ∀ (rest done : List (Int × Int)) (fuel : Nat) (acc : List Int), L = done ++ rest → rest.length < fuel → acc.length ≤ 100 - rest.length →
    m8_L1 N x752 L.length (cellsC L) p766 p767 p771 p772 x881 c882 (.int .i64 n) (.int .i64 d) p896 p897 x899 n906 c907 x909 M fuel acc.length (done.length : Int) (iL acc) =
      some ((acc ++ bestF M done.length (rest.map (Wt n d))).length, iL (acc ++ bestF M done.length (rest.map (Wt n d))))
  | [], done, 0, _, _, h, _ => by simp at h
  | [], done, f + 1, acc, e, _, _ => by
    subst e
    rw [m8_L1, brn_f (by simp)]; simp [bestF]
  | x :: rest, done, 0, _, _, h, _ => by simp at h
  | p :: rest, done, f + 1, acc, e, h, ha => by
    have hl : L.length = done.length + (rest.length + 1) := by rw [e]; simp
    have hd : done.length < L.length := by omega
    have ht : (Int.toNat (done.length : Int)) = done.length := by omega
    have h2 : ((cellsC L).drop (done.length * 2)).take 2 = [.int .i64 p.1, .int .i64 p.2] := by rw [e]; exact cellsC_take done p rest
    have g0 : gp (List.set c882 (Int.toNat x881) (.int .i64 M)) (Int.toNat x881) = .int .i64 M := by
      have e1 : c882 = c882.take (Int.toNat x881) ++ c882[Int.toNat x881] :: c882.drop (Int.toNat x881 + 1) := by simp
      have := gp_mid (c882.take (Int.toNat x881)) (.int .i64 M) (c882.drop (Int.toNat x881 + 1))
      rw [List.set_eq_take_append_cons_drop, if_pos hi]
      rw [List.length_take, Nat.min_eq_left (by omega)] at this
      exact this
    rw [m8_L1, brn_t (by simpa using hd), grd_t ⟨by omega, by omega⟩, ht, grd_t (by rw [e]; exact cellsC_two done p rest), h2]
    simp only [getA2, at41_ok, bnd', getI, if_true]
    rw [grd_t hi, g0]
    simp only [if_true]
    have h' : rest.length < f := by simp at h; omega
    have ha' : acc.length ≤ 100 - (rest.length + 1) := by simpa using ha
    have ih1 := want_L N x752 L hL p766 p767 p771 p772 x881 c882 n d p896 p897 x899 n906 c907 x909 M hi rest (done ++ [p]) f (acc ++ [(done.length : Int)]) (by simp [e]) h' (by simp; omega)
    have ih2 := want_L N x752 L hL p766 p767 p771 p772 x881 c882 n d p896 p897 x899 n906 c907 x909 M hi rest (done ++ [p]) f acc (by simp [e]) h' (by omega)
    simp only [List.length_append, List.length_cons, List.length_nil, Nat.zero_add] at ih1 ih2
    have hdn : done.length ≤ 1000 := by omega
    by_cases hx : Wt n d p = M
    · rw [brn_t (by simpa using hx), grd_t (by omega), grd_t (by simp [iL]), wrapN hdn]
      have e2 : iL (acc ++ [(done.length : Int)]) = iL acc ++ [.int .i64 (done.length : Int)] := by simp [iL]
      rw [e2] at ih1
      rw [ih1]
      simp [bestF, hx]
      omega
    · rw [brn_f (by simpa using hx), wrapN hdn, ih2]
      simp [bestF, hx]
def Mx (n d : Int) : List (Int × Int) → Int
  | [] => 0
  | p :: l => mx (Wt n d p) (l.map (Wt n d))
theorem Mx_bd {n d : Int} (hp : okP n d) {L : List (Int × Int)} (hc : ∀ q ∈ L, okC q = true) : -200000 ≤ Mx n d L ∧ Mx n d L ≤ 200000 := by
  cases L with
  | nil => simp [Mx]
  | cons p l =>
    have hb : ∀ q ∈ p :: l, -200000 ≤ Wt n d q ∧ Wt n d q ≤ 200000 := fun q hq => Wt_bound hp (hc q hq)
    exact mx_bound (l.map (Wt n d)) (Wt n d p) (hb p (by simp)).1 (hb p (by simp)).2 (fun x hx => by
      obtain ⟨q, hq, rfl⟩ := List.mem_map.1 hx
      exact hb q (by simp [hq]))
theorem mul_sm {u a : Int} (h1 : -200000 ≤ u ∧ u ≤ 200000) (h2 : 0 ≤ a ∧ a ≤ 1000) : -200000000 ≤ u * a ∧ u * a ≤ 200000000 := by
  have a1 : u * a ≤ 200000 * a := Int.mul_le_mul_of_nonneg_right h1.2 h2.1
  have a2 : -200000 * a ≤ u * a := Int.mul_le_mul_of_nonneg_right h1.1 h2.1
  omega
/-- the fraction that is returned: bounds, and what it is worth -/
theorem low_n (M d : Int) (hM : -200000 ≤ M ∧ M ≤ 200000) (hd : 1 ≤ d ∧ d ≤ 1000) :
    Red (lowP M d) ∧ (lowP M d).2 ≤ 1000 ∧ (-200000 ≤ (lowP M d).1 ∧ (lowP M d).1 ≤ 200000) ∧ (lowP M d).1 * d = M * (lowP M d).2 := by
  obtain ⟨u, v, e, ⟨q1, q2, q3⟩, _⟩ := low_sp M d (by omega)
  obtain ⟨b1, b2⟩ := low_bd (x := M) (d := d) (by omega) e
  rw [e]
  exact ⟨⟨q1, q3⟩, by simp only; omega, ⟨by simp only; omega, by simp only; omega⟩, q2⟩
theorem set_len (c : List PV) (i : Nat) (v : PV) : (c.set i v).length = c.length := by simp
theorem step_ok (N : Nat) (hN : 2000 ≤ N) (x752 k : Int) (hk : IntKind.i64.wrap (1 + (Int.tmod (IntKind.i64.wrap x752) 30)) = k) (hk1 : 1 ≤ k ∧ k ≤ 30) (p : Int × Int) (l : List (Int × Int)) (hl : (p :: l).length ≤ 8) (hc : ∀ q ∈ p :: l, okC q = true)
    (p766 p767 p771 p772 : PV) (f i : Nat) (hi : i < 2) (c : List PV) (hcl : c.length = 2) (n : Int) (hn : -1000 ≤ n ∧ n ≤ 1000) (hs : ([p766, p767, p771, p772].drop (i * 2)).take 2 = [.int .i64 n, .int .i64 k]) :
    m8_L0 N x752 (p :: l).length (cellsC (p :: l)) p766 p767 p771 p772 (f + 1) (i : Int) c = m8_L0 N x752 (p :: l).length (cellsC (p :: l)) p766 p767 p771 p772 f ((i + 1 : Nat) : Int) (c.set i (.int .i64 (Mx n k (p :: l)))) := by
  have hp : okP n k := ⟨hn.1, hn.2, hk1.1, by omega⟩
  have hM := Mx_bd hp hc
  obtain ⟨r1, r2, r3, r4⟩ := low_n (Mx n k (p :: l)) k hM ⟨hk1.1, by omega⟩
  have ht : (Int.toNat (i : Int)) = i := by omega
  rw [m8_L0, brn_t (by simp; omega), grd_t ⟨by omega, by omega⟩, ht, grd_t (by omega), hs]
  simp only [getA2, worth_x N hN p l hl hc n k hp, best_x N hN p l hl hc n k hp, bnd', getT2, frP, getL, getI, if_true]
  rw [mosta_ok N p l (by omega) (by omega) n k]
  simp only [if_true]
  have hw := want_L N x752 (p :: l) (by omega) p766 p767 p771 p772 (i : Int) c n k (.int .i64 (lowP (Mx n k (p :: l)) k).1) (.int .i64 (lowP (Mx n k (p :: l)) k).2) 0
    (bestF (Mx n k (p :: l)) 0 ((p :: l).map (Wt n k))).length (iL (bestF (Mx n k (p :: l)) 0 ((p :: l).map (Wt n k)))) 0 (Mx n k (p :: l)) (by omega) (p :: l) [] N [] rfl (by omega) (by simp)
  simp only [List.nil_append, List.length_nil] at hw
  rw [grd_t (by omega)]
  have e5 : mx (Wt n k p) (l.map (Wt n k)) = Mx n k (p :: l) := rfl
  rw [e5]
  rw [show m8_L1 N x752 (p :: l).length (cellsC (p :: l)) p766 p767 p771 p772 (i : Int) c (.int .i64 n) (.int .i64 k) (.int .i64 (lowP (Mx n k (p :: l)) k).1) (.int .i64 (lowP (Mx n k (p :: l)) k).2) 0
    (bestF (Mx n k (p :: l)) 0 ((p :: l).map (Wt n k))).length (iL (bestF (Mx n k (p :: l)) 0 ((p :: l).map (Wt n k)))) 0 (Mx n k (p :: l)) N 0 0 [] = _ from hw]
  simp only []
  rw [grd_t (by simp [iL]), brn_f (by simp), brn_f (by simp)]
  have hpr := proper_ok N hN (lowP (Mx n k (p :: l)) k) r1 r2 r3
  simp only [frP] at hpr
  rw [hpr]
  simp only [getB]
  have g0 : gp (List.set c i (.int .i64 (Mx n k (p :: l)))) i = .int .i64 (Mx n k (p :: l)) := by
    have := gp_mid (c.take i) (.int .i64 (Mx n k (p :: l))) (c.drop (i + 1))
    rw [List.set_eq_take_append_cons_drop, if_pos (by omega)]
    rw [List.length_take, Nat.min_eq_left (by omega)] at this
    exact this
  rw [brn_t rfl, grd_t (by omega), g0]
  simp only [if_true, hk]
  have s1 := mul_sm r3 (a := k) ⟨by omega, by omega⟩
  have s2 := mul_sm hM (a := (lowP (Mx n k (p :: l)) k).2) ⟨by have := r1.1; omega, by omega⟩
  rw [wrap64 (n := (lowP (Mx n k (p :: l)) k).1 * k) (by omega) (by omega), wrap64 (n := Mx n k (p :: l) * (lowP (Mx n k (p :: l)) k).2) (by omega) (by omega)]
  rw [brn_f (by simpa using r4)]
  have hb := bestF_le (Mx n k (p :: l)) ((p :: l).map (Wt n k)) 0
  rw [List.length_map] at hb
  rw [same_ok N _ (by omega) hN]
  simp only []
  rw [brn_t rfl, wrapN (by omega)]
/-! the law -/
theorem Mx_le {n d : Int} {q : Int × Int} : ∀ {L : List (Int × Int)}, q ∈ L → Wt n d q ≤ Mx n d L
  | [], h => by simp at h
  | p :: l, h => by
    have hmx : ∀ (X : List Int) (m : Int), m ≤ mx m X ∧ ∀ x ∈ X, x ≤ mx m X := by
      intro X
      induction X with
      | nil => intro m; simp [mx]
      | cons x X ih =>
        intro m
        obtain ⟨h1, h2⟩ := ih (maxI m x)
        have e : mx m (x :: X) = mx (maxI m x) X := rfl
        have h3 : m ≤ maxI m x ∧ x ≤ maxI m x := by unfold maxI; split <;> omega
        rw [e]
        refine ⟨by omega, fun y hy => ?_⟩
        rcases List.mem_cons.1 hy with rfl | hy
        · omega
        · exact h2 y hy
    obtain ⟨h1, h2⟩ := hmx (l.map (Wt n d)) (Wt n d p)
    rcases List.mem_cons.1 h with rfl | h
    · exact h1
    · exact h2 _ (List.mem_map.2 ⟨q, h, rfl⟩)
theorem Mx_at {n d : Int} : ∀ {L : List (Int × Int)}, L ≠ [] → ∃ q ∈ L, Mx n d L = Wt n d q
  | [], h => by simp at h
  | p :: l, _ => by
    have hmx : ∀ (X : List Int) (m : Int), mx m X = m ∨ mx m X ∈ X := by
      intro X
      induction X with
      | nil => intro m; simp [mx]
      | cons x X ih =>
        intro m
        have e : mx m (x :: X) = mx (maxI m x) X := rfl
        rw [e]
        rcases ih (maxI m x) with h | h
        · rw [h]; unfold maxI; split
          · right; simp
          · left; rfl
        · right; simp [h]
    rcases hmx (l.map (Wt n d)) (Wt n d p) with h | h
    · exact ⟨p, by simp, h⟩
    · obtain ⟨q, hq, e⟩ := List.mem_map.1 h
      exact ⟨q, by simp [hq], e.symm⟩
theorem half_le {a b h k : Int} {L : List (Int × Int)} (hL : L ≠ []) (hc : ∀ q ∈ L, okC q = true) (ha : okP a k) (hb : okP b k) (hh : okP h k) (e : a + b = 2 * h) : 2 * Mx h k L ≤ Mx a k L + Mx b k L := by
  obtain ⟨q, hq, e1⟩ := Mx_at (n := h) (d := k) hL
  have h1 := Mx_le (n := a) (d := k) hq
  have h2 := Mx_le (n := b) (d := k) hq
  rw [Wt_eq ha (hc q hq)] at h1
  rw [Wt_eq hb (hc q hq)] at h2
  rw [e1, Wt_eq hh (hc q hq)]
  unfold Ct at *
  have : 2 * (q.1 * k + q.2 * h) = (q.1 * k + q.2 * a) + (q.1 * k + q.2 * b) := by grind
  omega
theorem law_best (many num other D : Int) (Z : List (Int × Int)) (hZ : byteZ Z) (m0 : 0 ≤ many) (m1 : many ≤ 255) (n0 : -32768 ≤ num) (n1 : num ≤ 32767) (o0 : -32768 ≤ other) (o1 : other ≤ 32767) (d0 : 0 ≤ D) (d1 : D ≤ 255) :
    m8 2000 (.agg (deskC many Z)) num other D = some (.bool true) := by
  have hlen : (deskC many Z).length = 17 := deskC_len hZ.1
  obtain ⟨l1, l2, l3⟩ := mkL_len (mf := 100) (mr := 10) hZ many m0
  have hcc : ∀ q ∈ mkL 100 10 (howMany many) Z, okC q = true := fun q hq => by
    have := mkL_mem (by decide) (by decide) hq
    simp [okC]; omega
  have hmk := made_ok 2000 (by decide) 100 10 many Z hZ m0 m1 (by decide) (by decide) (by decide) (by decide)
  have hk : IntKind.i64.wrap (1 + (Int.tmod (IntKind.i64.wrap D) 30)) = 1 + D % 30 := by
    rw [wrap64 (n := D) (by omega) (by omega), Int.tmod_eq_emod_of_nonneg d0, wrap64 (by omega) (by omega)]
  have hk1 : 1 ≤ 1 + D % 30 ∧ 1 + D % 30 ≤ 30 := by omega
  have wn : IntKind.i64.wrap num = num := wrap64 (by omega) (by omega)
  have wo : IntKind.i64.wrap other = other := wrap64 (by omega) (by omega)
  have hn := tmod_bd num 1000 (by decide)
  have ho := tmod_bd other 1000 (by decide)
  rw [show (1000 : Int) + 1 = 1001 by decide] at hn ho
  have hm : howMany many = (mkL 100 10 (howMany many) Z).length := l1.symm
  generalize hL : mkL 100 10 (howMany many) Z = L at *
  match L, l1, hcc, hL with
  | [], l1, _, _ => simp at l1; omega
  | p :: l, l1, hcc, hL =>
  have hl8 : (p :: l).length ≤ 8 := by omega
  generalize hA : num.tmod 1001 = A at *
  generalize hB : other.tmod 1001 = B at *
  generalize hK : 1 + D % 30 = k at *
  simp only [m8, getA]
  rw [grd_t (by omega), show (deskC many Z).take 17 = deskC many Z by rw [← hlen, List.take_length], hmk]
  simp only [bnd', getL, m40, getA2, hk, wn, wo, hA, hB]
  rw [grd_t (by omega), grd_t (by omega), hm]
  have s0 := step_ok 2000 (by decide) D k hk hk1 p l hl8 hcc (.int .i64 A) (.int .i64 k) (.int .i64 B) (.int .i64 k) 1999 0 (by decide) [.int .i64 0, .int .i64 0] rfl A hn rfl
  have s1 := step_ok 2000 (by decide) D k hk hk1 p l hl8 hcc (.int .i64 A) (.int .i64 k) (.int .i64 B) (.int .i64 k) 1998 1 (by decide) [.int .i64 (Mx A k (p :: l)), .int .i64 0] rfl B ho rfl
  have s2 : m8_L0 2000 D (p :: l).length (cellsC (p :: l)) (.int .i64 A) (.int .i64 k) (.int .i64 B) (.int .i64 k) 1998 ((1 + 1 : Nat) : Int) [.int .i64 (Mx A k (p :: l)), .int .i64 (Mx B k (p :: l))] = some (.inr [.int .i64 (Mx A k (p :: l)), .int .i64 (Mx B k (p :: l))]) := by
    rw [m8_L0, brn_f (by simp)]
  rw [show m8_L0 2000 D (p :: l).length (cellsC (p :: l)) (.int .i64 A) (.int .i64 k) (.int .i64 B) (.int .i64 k) 2000 0 [.int .i64 0, .int .i64 0] = _ from (s0.trans s1).trans s2]
  simp only [getI, if_true]
  rw [grd_t (by omega)]
  have wAB : IntKind.i64.wrap (A + B) = A + B := wrap64 (by omega) (by omega)
  have hq := Int.tmod_add_mul_tdiv (A + B) 2
  have hr1 := Int.tmod_lt_of_pos (A + B) (show (0 : Int) < 2 by decide)
  have hr2 := Int.lt_tmod_of_pos (A + B) (show (0 : Int) < 2 by decide)
  rw [wAB]
  generalize hH : (A + B).tdiv 2 = H at *
  generalize hR : (A + B).tmod 2 = R at *
  have hH1 : -1000 ≤ H ∧ H ≤ 1000 := by omega
  have wH : IntKind.i64.wrap H = H := wrap64 (by omega) (by omega)
  have okH : okP H k := ⟨hH1.1, hH1.2, hk1.1, by omega⟩
  have okA : okP A k := ⟨hn.1, hn.2, hk1.1, by omega⟩
  have okB : okP B k := ⟨ho.1, ho.2, hk1.1, by omega⟩
  have hM := Mx_bd okH hcc
  have hMA := Mx_bd okA hcc
  have hMB := Mx_bd okB hcc
  obtain ⟨r1, r2, r3, r4⟩ := low_n (Mx H k (p :: l)) k hM ⟨hk1.1, by omega⟩
  have hw := worth_x 2000 (by decide) p l hl8 hcc H k okH
  rw [show mx (Wt H k p) (l.map (Wt H k)) = Mx H k (p :: l) from rfl] at hw
  rw [wH, hw]
  simp only [getT2, frP, getA2, if_true]
  have hpr := proper_ok 2000 (by decide) (lowP (Mx H k (p :: l)) k) r1 r2 r3
  simp only [frP] at hpr
  have hworks : m15 2000 = some (.bool true) := by simp [m15]
  by_cases hodd : R = 0
  · rw [brn_f (by simp [hodd]), brn_t (by simp), hpr]
    simp only [getB]
    rw [brn_t rfl, grd_t (by simp), show gp [PV.int .i64 (Mx A k (p :: l)), .int .i64 (Mx B k (p :: l))] 0 = .int .i64 (Mx A k (p :: l)) from rfl, show gp [PV.int .i64 (Mx A k (p :: l)), .int .i64 (Mx B k (p :: l))] 1 = .int .i64 (Mx B k (p :: l)) from rfl]
    simp only [if_true]
    rw [grd_t (by simp)]
    have t1 : (2 * (lowP (Mx H k (p :: l)) k).1) * k = 2 * ((lowP (Mx H k (p :: l)) k).1 * k) := by grind
    have s1 := mul_sm r3 (a := k) ⟨by omega, by omega⟩
    have hv := r1.1
    have hh := half_le (by simp) hcc okA okB okH (by omega : A + B = 2 * H)
    have hle : (2 * Mx H k (p :: l)) * (lowP (Mx H k (p :: l)) k).2 ≤ (Mx A k (p :: l) + Mx B k (p :: l)) * (lowP (Mx H k (p :: l)) k).2 := Int.mul_le_mul_of_nonneg_right hh (by omega)
    have a1 : (Mx A k (p :: l) + Mx B k (p :: l)) * (lowP (Mx H k (p :: l)) k).2 ≤ 400000 * (lowP (Mx H k (p :: l)) k).2 := Int.mul_le_mul_of_nonneg_right (by omega) (by omega)
    have a2 : -400000 * (lowP (Mx H k (p :: l)) k).2 ≤ (Mx A k (p :: l) + Mx B k (p :: l)) * (lowP (Mx H k (p :: l)) k).2 := Int.mul_le_mul_of_nonneg_right (by omega) (by omega)
    have t2 : (2 * Mx H k (p :: l)) * (lowP (Mx H k (p :: l)) k).2 = 2 * (Mx H k (p :: l) * (lowP (Mx H k (p :: l)) k).2) := by grind
    rw [wrap64 (n := 2 * (lowP (Mx H k (p :: l)) k).1) (by omega) (by omega), wrap64 (n := 2 * (lowP (Mx H k (p :: l)) k).1 * k) (by omega) (by omega),
      wrap64 (n := Mx A k (p :: l) + Mx B k (p :: l)) (by omega) (by omega), wrap64 (n := (Mx A k (p :: l) + Mx B k (p :: l)) * (lowP (Mx H k (p :: l)) k).2) (by omega) (by omega)]
    rw [brn_t (by rw [decide_eq_true_eq]; omega), hworks]
  · rw [brn_t (by simpa using hodd), brn_t (by simp), hworks]
    rfl
end Go.Proofs.Ytgnphlpoofaojaa
