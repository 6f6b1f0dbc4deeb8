/-
  TurnBooks: what the functions compute answers as the law says.
-/
import Derived.Test.YtgnphlpoofaojaaTLawnn
import Derived.Test.YtgnphlpoofaojaaTBothm
import Derived.Test.YtgnphlpoofaojaaTBooks
namespace Go.Proofs.Ytgnphlpoofaojaa
open Go.V

theorem mxL_bd {q : Int × Int} (hq : bdP q) {L : List (Int × Int)} (hne : L ≠ []) (hb : ∀ c ∈ L, bdC c) : -1600000 ≤ mxL q L ∧ mxL q L ≤ 1600000 := by
  obtain ⟨⟨c, hc, e⟩, _⟩ := mxL_is hq hne hb
  have hcb := hb c hc
  unfold bdP at hq
  unfold bdC at hcb
  have h1 := mulQ (x := c.1) (y := q.2) (A := 200) (B := 4000) (by omega) (by omega)
  have h2 := mulQ (x := c.2) (y := q.1) (A := 20) (B := 40000) (by omega) (by omega)
  rw [← e]; unfold CtP; omega
def gV (L : List (Int × Int)) (r : Int) (p : Int × Int) : Int × Int := lowP (mxL p L - r * p.1) p.2
def bdV (v : Int × Int) : Prop := -3000000 ≤ v.1 ∧ v.1 ≤ 3000000 ∧ 1 ≤ v.2 ∧ v.2 ≤ 4000
theorem gV_bd {L : List (Int × Int)} (hne : L ≠ []) (hb : ∀ c ∈ L, bdC c) {r : Int} (hr : -10 ≤ r ∧ r ≤ 10) {p : Int × Int} (hp : bdP p) : bdV (gV L r p) ∧ (-400000 ≤ r * p.1 ∧ r * p.1 ≤ 400000) := by
  have h1 := mxL_bd hp hne hb
  have hp' := hp
  unfold bdP at hp'
  have h2 := mulQ (x := r) (y := p.1) (A := 10) (B := 40000) (by omega) (by omega)
  obtain ⟨u, v, e, ⟨q1, _, _⟩, _⟩ := low_sp (mxL p L - r * p.1) p.2 (by omega)
  obtain ⟨b1, b2⟩ := low_bd (by omega) e
  unfold gV bdV
  rw [e]
  simp only
  omega
theorem lessV (N : Nat) {a b : Int × Int} (ha : bdV a) (hb : bdV b) : m72 N (.agg [.int .i64 a.1, .int .i64 a.2]) (.agg [.int .i64 b.1, .int .i64 b.2]) = some (.bool (decide (lessP a b))) := by
  unfold bdV at ha hb
  have h1 := mulQ (x := a.1) (y := b.2) (A := 3000000) (B := 4000) (by omega) (by omega)
  have h2 := mulQ (x := b.1) (y := a.2) (A := 3000000) (B := 4000) (by omega) (by omega)
  simp only [m72, getA2, getI, if_true]
  rw [wrap64 (by omega) (by omega), wrap64 (by omega) (by omega)]
  rfl
def loF (m : Int) (l : List (Int × Int)) : Int := l.foldl (fun m c => minI m c.2) m
def hiF (m : Int) (l : List (Int × Int)) : Int := l.foldl (fun m c => maxI m c.2) m
theorem loF_le {r : Int} : ∀ (l : List (Int × Int)) (m : Int), loF m l ≤ r ↔ m ≤ r ∨ ∃ d ∈ l, d.2 ≤ r
  | [], m => by simp [loF]
  | c :: l, m => by
    have ih := loF_le (r := r) l (minI m c.2)
    have e : loF m (c :: l) = loF (minI m c.2) l := rfl
    have h : minI m c.2 ≤ r ↔ m ≤ r ∨ c.2 ≤ r := by unfold minI; split <;> omega
    rw [e, ih, h]
    simp only [List.mem_cons, exists_eq_or_imp, or_assoc]
theorem hiF_le {r : Int} : ∀ (l : List (Int × Int)) (m : Int), r ≤ hiF m l ↔ r ≤ m ∨ ∃ d ∈ l, r ≤ d.2
  | [], m => by simp [hiF]
  | c :: l, m => by
    have ih := hiF_le (r := r) l (maxI m c.2)
    have e : hiF m (c :: l) = hiF (maxI m c.2) l := rfl
    have h : r ≤ maxI m c.2 ↔ r ≤ m ∨ r ≤ c.2 := by unfold maxI; split <;> omega
    rw [e, ih, h]
    simp only [List.mem_cons, exists_eq_or_imp, or_assoc]
theorem rng_L (N : Nat) (r : Int) (L : List (Int × Int)) (hL : L.length ≤ 40) : ∀ (rest done : List (Int × Int)) (fuel : Nat) (a b : Int), L = done ++ rest → rest.length < fuel →
    m33_L0 N r L.length (cellsC L) fuel a b (done.length : Int) = some (loF a rest, hiF b rest)
  | [], done, 0, _, _, _, h => by simp at h
  | [], done, f + 1, a, b, e, _ => by
    have : L.length = done.length := by rw [e]; simp
    rw [m33_L0, brn_f (by simp; omega)]; rfl
  | c :: rest, done, 0, _, _, _, h => by simp at h
  | c :: rest, done, f + 1, a, b, e, hf => by
    have hLe : L.length = done.length + (rest.length + 1) := by rw [e]; simp
    have hcl : (cellsC L).length = L.length * 2 := cellsC_len L
    have td : (Int.toNat ((done.length : Nat) : Int)) = done.length := by omega
    have hw : IntKind.i64.wrap ((done.length : Int) + 1) = ((done.length + 1 : Nat) : Int) := by rw [wrap64 (by omega) (by omega)]; omega
    have g1 : gp (cellsC L) (done.length * 2 + 1) = .int .i64 c.2 := by rw [e]; exact cellsC_gp1 done c rest
    have ih := rng_L N r L hL rest (done ++ [c]) f (minI a c.2) (maxI b c.2) (by simp [e]) (by simp at hf; omega)
    simp only [List.length_append, List.length_cons, List.length_nil, Nat.zero_add] at ih
    rw [m33_L0, brn_t (by simp; omega), td, grd_t ⟨by omega, by omega⟩, grd_t (by simp only [List.length_drop]; omega), g1]
    simp only [getI, if_true]
    rw [hw, ih]; rfl
theorem fmin_L (N : Nat) (hN : 8000 ≤ N) (r : Int) (hr : -10 ≤ r ∧ r ≤ 10) (L : List (Int × Int)) (h1 : 1 ≤ L.length) (hL : L.length ≤ 40) (hb : ∀ c ∈ L, bdC c) (P : List (Int × Int)) (hP : ∀ p ∈ P, bdP p) (hPl : P.length ≤ 6000) : ∀ (rest done : List (Int × Int)) (fuel : Nat) (best : Int × Int), P = done ++ rest → (done = [] → rest ≠ []) → rest.length < fuel → (done ≠ [] → bdV best) →
    m33_L1 N r L.length (cellsC L) P.length (cellsC P) fuel (done.length : Int) best.1 best.2 =
      some (match done, rest with | [], p :: rest => ((minF (gV L r p) (rest.map (gV L r))).1, (minF (gV L r p) (rest.map (gV L r))).2) | _, _ => ((minF best (rest.map (gV L r))).1, (minF best (rest.map (gV L r))).2))
  | [], done, 0, _, _, _, h, _ => by simp at h
  | [], done, f + 1, best, e, hd, _, _ => by
    have : P.length = done.length := by rw [e]; simp
    rw [m33_L1, brn_f (by simp; omega)]
    cases done with
    | nil => exact absurd rfl (hd rfl)
    | cons d done => rfl
  | p :: rest, done, 0, _, _, _, h, _ => by simp at h
  | p :: rest, done, f + 1, best, e, _, hf, hbv => by
    have hPe : P.length = done.length + (rest.length + 1) := by rw [e]; simp
    have hcp : (cellsC P).length = P.length * 2 := cellsC_len P
    have td : (Int.toNat ((done.length : Nat) : Int)) = done.length := by omega
    have hw : IntKind.i64.wrap ((done.length : Int) + 1) = ((done.length + 1 : Nat) : Int) := by rw [wrap64 (by omega) (by omega)]; omega
    have g0 : gp (cellsC P) (done.length * 2) = .int .i64 p.1 := by rw [e]; exact cellsC_gp0 done p rest
    have g1 : gp (cellsC P) (done.length * 2 + 1) = .int .i64 p.2 := by rw [e]; exact cellsC_gp1 done p rest
    have g2 : ((cellsC P).drop (done.length * 2)).take 2 = [.int .i64 p.1, .int .i64 p.2] := by rw [e]; exact cellsC_take done p rest
    have bp := hP p (by rw [e]; simp)
    have hne : L ≠ [] := by intro h; rw [h] at h1; simp at h1
    obtain ⟨bv, b2⟩ := gV_bd hne hb hr bp
    have bm := mxL_bd bp hne hb
    have bp' := bp
    unfold bdP at bp'
    have hlow := (low_m N (mxL p L - r * p.1) p.2 ⟨by omega, by omega⟩ (by omega) ⟨by omega, by omega⟩ (by omega)).2
    have eg : lowP (mxL p L - r * p.1) p.2 = gV L r p := rfl
    rw [eg] at hlow
    rw [m33_L1, brn_t (by simp; omega), td, grd_t ⟨by omega, by omega⟩, grd_t (by simp only [List.length_drop]; omega), g2]
    simp only [getA2, mostQ_ok N (by omega) L h1 hL p, bnd', getI, if_true]
    rw [grd_t (by simp only [List.length_drop]; omega), g0]
    simp only [if_true]
    rw [grd_t (by simp only [List.length_drop]; omega), g1]
    simp only [if_true]
    rw [wrap64 (n := r * p.1) (by omega) (by omega), wrap64 (n := mxL p L - r * p.1) (by omega) (by omega), hlow]
    simp only [frP, if_true]
    cases done with
    | nil =>
      have ih := fmin_L N hN r hr L h1 hL hb P hP hPl rest [p] f (gV L r p) (by simpa using e) (by simp) (by simp at hf; omega) (fun _ => bv)
      rw [brn_t (by simp), hw]
      simp only [List.length_cons, List.length_nil, Nat.zero_add] at ih ⊢
      rw [ih]
    | cons d done =>
      have bb := hbv (by simp)
      have ih := fun best hbest => fmin_L N hN r hr L h1 hL hb P hP hPl rest (d :: done ++ [p]) f best (by simp [e]) (by simp) (by simp at hf; omega) (fun _ => hbest)
      rw [brn_f (by simp; omega), lessV N bv bb]
      simp only [getB]
      have hdl : (d :: done ++ [p]).length = (d :: done).length + 1 := by simp
      by_cases hl : lessP (gV L r p) best
      · rw [brn_t (by simpa using hl), hw, ← hdl, ih (gV L r p) bv]
        have : minF best ((p :: rest).map (gV L r)) = minF (gV L r p) (rest.map (gV L r)) := by simp [minF, hl]
        rw [this]; rfl
      · rw [brn_f (by simpa using hl), hw, ← hdl, ih best bb]
        have : minF best ((p :: rest).map (gV L r)) = minF best (rest.map (gV L r)) := by simp [minF, hl]
        rw [this]; rfl
def fairR (C : List (Int × Int)) (r : Int) : (Int × Int) × Int := match fairF r none C with | some v => (v, 0) | none => ((0, 0), 12)
theorem fair_L (N : Nat) (hN : 8000 ≤ N) (r : Int) (hr : -10 ≤ r ∧ r ≤ 10) (L : List (Int × Int)) (hb : ∀ c ∈ L, bdC c) (hL : L.length ≤ 1000) (H : List Nat) (hH : ∀ k ∈ H, k < L.length) (hHl : H.length ≤ 1000) : ∀ (rest done : List Nat) (fuel : Nat) (pv : Option (Int × Int)), H = done ++ rest → rest.length < fuel →
    (pv = none ∧ done = [] ∨ ∃ d' a, done = d' ++ [a] ∧ pv = some (ctL L a) ∧ (ctL L a).2 < r) →
    ∃ o, m32_L0 N r L.length (cellsC L) H.length (nL H) fuel (done.length : Int) = some o ∧
      (match fairF r pv (rest.map (ctL L)) with | some v => o = .inl (.tup [frP v, .int .i64 0]) | none => o = .inr () ∨ o = .inl (.tup [frP (0, 0), .int .i64 12]))
  | [], done, 0, _, _, h, _ => by simp at h
  | [], done, f + 1, pv, e, _, _ => by
    have : H.length = done.length := by rw [e]; simp
    rw [m32_L0, brn_f (by simp; omega)]
    exact ⟨_, rfl, .inl rfl⟩
  | k :: rest, done, 0, _, _, h, _ => by simp at h
  | k :: rest, done, f + 1, pv, e, hf, hpv => by
    have hHe : H.length = done.length + (rest.length + 1) := by rw [e]; simp
    have hk := hH k (by rw [e]; simp)
    have hcl : (cellsC L).length = L.length * 2 := cellsC_len L
    have hnl : (nL H).length = H.length := nL_len H
    have td : (Int.toNat ((done.length : Nat) : Int)) = done.length := by omega
    have tk : (Int.toNat (k : Int)) = k := by omega
    have hw : IntKind.i64.wrap ((done.length : Int) + 1) = ((done.length + 1 : Nat) : Int) := by rw [wrap64 (by omega) (by omega)]; omega
    have gk : gp (nL H) done.length = .int .i64 (k : Int) := by rw [e]; exact nL_gp done k _
    have bk := hb _ (ctL_mem hk)
    rw [m32_L0, brn_t (by simp; omega), td, grd_t ⟨by omega, by omega⟩, grd_t (by simp only [List.length_drop]; omega), gk]
    simp only [getI, if_true]
    rw [tk, grd_t ⟨by omega, by omega⟩, grd_t (by simp only [List.length_drop]; omega), cellsC_at (ctL_at hk)]
    simp only [getA2, if_true, List.map_cons, fairF]
    by_cases h1 : r = (ctL L k).2
    · rw [brn_t (by simpa using h1), if_pos h1]
      exact ⟨_, rfl, rfl⟩
    · rw [brn_f (by simpa using h1), if_neg h1]
      by_cases h2 : r < (ctL L k).2
      · rw [brn_t (by simpa using h2), if_pos h2]
        rcases hpv with ⟨rfl, rfl⟩ | ⟨d', a, rfl, rfl, ha⟩
        · rw [brn_f (by simp)]
          exact ⟨_, rfl, .inr rfl⟩
        · have hal := hH a (by rw [e]; simp)
          have ba := hb _ (ctL_mem hal)
          have w1 : IntKind.i64.wrap (((d' ++ [a]).length : Int) - 1) = ((d'.length : Nat) : Int) := by rw [List.length_append, List.length_cons, List.length_nil, wrap64 (by simp at hHe; omega) (by simp at hHe; omega)]; omega
          have t1 : (Int.toNat ((d'.length : Nat) : Int)) = d'.length := by omega
          have ta : (Int.toNat (a : Int)) = a := by omega
          have ga : gp (nL H) d'.length = .int .i64 (a : Int) := by
            rw [e, List.append_assoc]; exact nL_gp d' a _
          have hdl : (d' ++ [a]).length = d'.length + 1 := by simp
          rw [brn_t (by simp), w1, t1, grd_t ⟨by omega, by omega⟩, grd_t (by simp only [List.length_drop]; omega), ga]
          simp only [if_true]
          rw [ta, grd_t ⟨by omega, by omega⟩, grd_t (by simp only [List.length_drop]; omega), cellsC_at (ctL_at hal)]
          simp only [if_true]
          unfold bdC at ba bk
          have m1 := mulQ (x := (ctL L a).1) (y := (ctL L k).2 - r) (A := 200) (B := 40) (by omega) (by omega)
          have m2 := mulQ (x := (ctL L k).1) (y := r - (ctL L a).2) (A := 200) (B := 40) (by omega) (by omega)
          have hlow := (low_m N ((ctL L a).1 * ((ctL L k).2 - r) + (ctL L k).1 * (r - (ctL L a).2)) ((ctL L k).2 - (ctL L a).2) ⟨by omega, by omega⟩ (by omega) ⟨by omega, by omega⟩ (by omega)).1
          rw [wrap64 (n := (ctL L k).2 - r) (by omega) (by omega), wrap64 (n := r - (ctL L a).2) (by omega) (by omega), wrap64 (n := (ctL L k).2 - (ctL L a).2) (by omega) (by omega),
            wrap64 (n := (ctL L a).1 * ((ctL L k).2 - r)) (by omega) (by omega), wrap64 (n := (ctL L k).1 * (r - (ctL L a).2)) (by omega) (by omega), wrap64 (n := (ctL L a).1 * ((ctL L k).2 - r) + (ctL L k).1 * (r - (ctL L a).2)) (by omega) (by omega), hlow]
          simp only [bnd', frP, if_true]
          exact ⟨_, rfl, rfl⟩
      · rw [brn_f (by simpa using h2), if_neg h2, hw]
        have ih := fair_L N hN r hr L hb hL H hH hHl rest (done ++ [k]) f (some (ctL L k)) (by simp [e]) (by simp at hf; omega) (.inr ⟨done, k, rfl, rfl, by omega⟩)
        simp only [List.length_append, List.length_cons, List.length_nil, Nat.zero_add] at ih
        exact ih
/-- both sides' fair parts are one -/
theorem fairs (N : Nat) (hN : 8000 ≤ N) (L : List (Int × Int)) (hL : L.length ≤ 40) (r : Int) : ∃ (u v e : Int), m32 N (.lst false L.length (cellsC L)) r = some (.tup [.agg [.int .i64 u, .int .i64 v], .int .i64 e]) ∧ m33 N (.lst false L.length (cellsC L)) r = some (.tup [.agg [.int .i64 u, .int .i64 v], .int .i64 e]) := by
  by_cases h0 : Chk L = 0
  · obtain ⟨l1, l8, hb⟩ := Chk_len8 h0
    by_cases hr : -10 ≤ r ∧ r ≤ 10
    · have hch := hull_chain L
      have hlh := hull_lenle L
      obtain ⟨_, _, a3⟩ := hull_facts L
      have hne : L ≠ [] := by intro h; rw [h] at l1; simp at l1
      obtain ⟨o, o1, o2⟩ := fair_L N hN r hr L hb (by omega) (hullF L) a3 (by omega) (hullF L) [] N none rfl (by omega) (.inl ⟨rfl, rfl⟩)
      have o1' : m32_L0 N r L.length (cellsC L) (hullF L).length (nL (hullF L)) N 0 = some o := o1
      have e32 : ∀ u v e, fairR ((hullF L).map (ctL L)) r = ((u, v), e) → m32 N (.lst false L.length (cellsC L)) r = some (.tup [.agg [.int .i64 u, .int .i64 v], .int .i64 e]) := fun u v e hf => by
        simp only [m32, getL, check_ok N L hL (by omega), bnd', getI, if_true, within_ok N r 10 (by decide), getB]
        rw [brn_f (by simp [h0]), brn_t (by simpa using hr), hull_ok N L hb l1 (by omega) (by omega)]
        simp only []
        rw [o1']
        unfold fairR at hf
        cases hF : fairF r none ((hullF L).map (ctL L)) with
        | some w =>
          rw [hF] at o2 hf
          simp only at o2 hf
          obtain ⟨rfl, rfl⟩ := Prod.mk.inj hf
          rw [o2]; rfl
        | none =>
          rw [hF] at o2 hf
          simp only at o2 hf
          obtain ⟨h1, rfl⟩ := Prod.mk.inj hf
          obtain ⟨rfl, rfl⟩ := Prod.mk.inj h1
          rcases o2 with rfl | rfl <;> rfl
      -- the reference
      obtain ⟨c0, l, rfl⟩ : ∃ c0 l, L = c0 :: l := by
        cases L with
        | nil => exact absurd rfl hne
        | cons c l => exact ⟨c, l, rfl⟩
      have hrng := rng_L N r (c0 :: l) hL l [c0] N c0.2 c0.2 rfl (by simp at hL; omega)
      have hrng' : m33_L0 N r (c0 :: l).length (cellsC (c0 :: l)) N c0.2 c0.2 1 = some (loF c0.2 l, hiF c0.2 l) := hrng
      have hpr := pairs8 (c0 :: l).length l8
      have hcl : (cellsC (c0 :: l)).length = (c0 :: l).length * 2 := cellsC_len _
      obtain ⟨s1, s2, s3, s4⟩ := fairF_sp r ((hullF (c0 :: l)).map (ctL (c0 :: l))) hch.asc ((hullF (c0 :: l)).map (ctL (c0 :: l))) [] none rfl (.inl ⟨rfl, rfl⟩)
      have hin : (loF c0.2 l ≤ r ∧ r ≤ hiF c0.2 l) ↔ fairF r none ((hullF (c0 :: l)).map (ctL (c0 :: l))) ≠ none := by
        constructor
        · rintro ⟨h1, h2⟩
          have k1 : ∃ d ∈ c0 :: l, d.2 ≤ r := by
            rcases (loF_le l c0.2).1 h1 with h | ⟨d, hd, h⟩
            · exact ⟨c0, by simp, h⟩
            · exact ⟨d, by simp [hd], h⟩
          have k2 : ∃ d ∈ c0 :: l, r ≤ d.2 := by
            rcases (hiF_le l c0.2).1 h2 with h | ⟨d, hd, h⟩
            · exact ⟨c0, by simp, h⟩
            · exact ⟨d, by simp [hd], h⟩
          obtain ⟨d, hd, hdr⟩ := k1
          obtain ⟨d', hd', hdr'⟩ := k2
          obtain ⟨c, hc, hcd⟩ := (rate_ends hch hd).1
          obtain ⟨c', hc', hcd'⟩ := (rate_ends hch hd').2
          exact s2 (.inr ⟨c, hc, by omega⟩) ⟨c', hc', by omega⟩
        · intro hn
          constructor
          · rw [loF_le]
            apply Decidable.byContradiction
            intro hno
            refine hn (s4 rfl fun c hc => ?_)
            have hcL := hch.sub c hc
            rcases Int.lt_or_le r c.2 with h | h
            · exact h
            · exfalso
              refine hno ?_
              rcases List.mem_cons.1 hcL with rfl | hcl'
              · exact .inl h
              · exact .inr ⟨c, hcl', h⟩
          · rw [hiF_le]
            apply Decidable.byContradiction
            intro hno
            refine hn (s3 fun c hc => ?_)
            have hcL := hch.sub c hc
            rcases Int.lt_or_le c.2 r with h | h
            · exact h
            · exfalso
              refine hno ?_
              rcases List.mem_cons.1 hcL with rfl | hcl'
              · exact .inl h
              · exact .inr ⟨c, hcl', h⟩
      have hhead : ∀ k, m33 N (.lst false (c0 :: l).length (cellsC (c0 :: l))) r = k ↔ (if loF c0.2 l ≤ r ∧ r ≤ hiF c0.2 l then
          (bnd' (m71 N (.lst false (c0 :: l).length (cellsC (c0 :: l)))) fun p2902 => getL p2902 fun n2905 c2906 => bnd' (m33_L1 N r (c0 :: l).length (cellsC (c0 :: l)) n2905 c2906 N 0 0 0) fun o => match o with | (x2975, x2976) => some (.tup [(.agg [(.int .i64 x2975), (.int .i64 x2976)]), (.int .i64 0)]))
          else some (.tup [(.agg [(.int .i64 0), (.int .i64 0)]), (.int .i64 12)])) = k := fun k => by
        simp only [m33, getL, checkr_ok N (c0 :: l) hL (by omega), bnd', getI, if_true, in_ok, getB]
        rw [brn_t (by simp [h0]), brn_t (by simpa using hr), brn_f (by simp [h0]), grd_t (by simp), grd_t (by simp only [List.length_drop]; rw [hcl]; simp only [List.length_cons]; omega), show gp (cellsC (c0 :: l)) 1 = .int .i64 c0.2 from cellsC_gp1 [] c0 l]
        simp only [if_true]
        rw [hrng']
        simp only []
        by_cases hh : loF c0.2 l ≤ r ∧ r ≤ hiF c0.2 l
        · rw [brn_t (by simpa using hh), if_pos hh]
        · rw [brn_f (by simpa using hh), if_neg hh]
      cases hF : fairF r none ((hullF (c0 :: l)).map (ctL (c0 :: l))) with
      | none =>
        refine ⟨0, 0, 12, e32 0 0 12 (by unfold fairR; rw [hF]), (hhead _).2 ?_⟩
        rw [if_neg]
        intro hh; exact hin.1 hh hF
      | some v =>
        refine ⟨v.1, v.2, 0, e32 v.1 v.2 0 (by unfold fairR; rw [hF]), (hhead _).2 ?_⟩
        rw [if_pos (hin.2 (by rw [hF]; simp))]
        have hV := s1 v hF
        have hPb := prices_bd (eqs_bd hb)
        have hlen := prices_len (eqs (c0 :: l))
        have hql := eqs_len (c0 :: l)
        rw [prices_ok N (by omega) (c0 :: l) (by omega) (by omega) hb]
        simp only [bnd', getL]
        obtain ⟨p0, P, hP⟩ : ∃ p0 P, pricesQ (eqs (c0 :: l)) = p0 :: P := by
          cases hE : eqs (c0 :: l) with
          | nil => exact ⟨_, _, rfl⟩
          | cons a b => exact ⟨_, _, rfl⟩
        have hmin := fair_min hch hV (fun p => mxL p (c0 :: l)) (fun p hp => mxL_is (hPb p hp) hne hb) p0 P hP
        have hL1 := fmin_L N hN r hr (c0 :: l) l1 hL hb (pricesQ (eqs (c0 :: l))) hPb (by omega) (p0 :: P) [] N (0, 0) hP (by simp) (by rw [← hP]; omega) (by simp)
        simp only [List.length_nil] at hL1
        rw [show m33_L1 N r (c0 :: l).length (cellsC (c0 :: l)) (pricesQ (eqs (c0 :: l))).length (cellsC (pricesQ (eqs (c0 :: l)))) N 0 0 0 = _ from hL1]
        have hmin' : minF (gV (c0 :: l) r p0) (P.map (gV (c0 :: l) r)) = v := hmin
        rw [hmin']
    · refine ⟨0, 0, 1, ?_, ?_⟩
      · simp only [m32, getL, check_ok N L hL (by omega), bnd', getI, if_true, within_ok N r 10 (by decide), getB]
        rw [brn_f (by simp [h0]), brn_f (by simpa using hr)]
      · simp only [m33, getL, checkr_ok N L hL (by omega), bnd', getI, if_true, in_ok, getB]
        rw [brn_t (by simp [h0]), brn_f (by simpa using hr)]
  · refine ⟨0, 0, Chk L, ?_, ?_⟩
    · simp only [m32, getL, check_ok N L hL (by omega), bnd', getI, if_true]
      rw [brn_t (by simpa using h0)]
    · simp only [m33, getL, checkr_ok N L hL (by omega), bnd', getI, if_true]
      rw [brn_f (by simpa using h0), brn_t (by simpa using h0)]
theorem cmp_ok73 (N : Nat) {a b : Int × Int} (ha : bdQ a) (hb : bdQ b) : m73 N (.agg [.int .i64 a.1, .int .i64 a.2]) (.agg [.int .i64 b.1, .int .i64 b.2]) = some (.int .i64 (a.1 * b.2 - b.1 * a.2)) := by
  unfold bdQ at ha hb
  have h1 := mulQ (x := a.1) (y := b.2) (A := 400) (B := 40) (by omega) (by omega)
  have h2 := mulQ (x := b.1) (y := a.2) (A := 400) (B := 40) (by omega) (by omega)
  simp only [m73, getA2, getI, if_true]
  rw [wrap64 (n := a.1 * b.2) (by omega) (by omega), wrap64 (n := b.1 * a.2) (by omega) (by omega), wrap64 (by omega) (by omega)]
theorem turnsC_len : ∀ (C : List (Int × Int)), (turnsC C).length = C.length - 1
  | [] => rfl
  | [a] => rfl
  | a :: b :: C => by
    have := turnsC_len (b :: C)
    simp only [turnsC, List.length_cons] at this ⊢; omega
theorem turnsC_drop : ∀ (u C : List (Int × Int)), (turnsC (u ++ C)).drop u.length = turnsC C ∨ C = []
  | [], C => .inl rfl
  | [a], C => by
    cases C with
    | nil => exact .inr rfl
    | cons b C => exact .inl rfl
  | a :: b :: u, C => by
    rcases turnsC_drop (b :: u) C with h | h
    · exact .inl (by simpa [turnsC] using h)
    · exact .inr h
theorem turn_at {C u : List (Int × Int)} {a b : Int × Int} {v : List (Int × Int)} (e : C = u ++ a :: b :: v) : ((cellsC (turnsC C)).drop (u.length * 2)).take 2 = [.int .i64 (crossP a b).1, .int .i64 (crossP a b).2] := by
  rw [cellsC_dropN, e]
  rcases turnsC_drop u (a :: b :: v) with h | h
  · rw [h]; rfl
  · cases h
theorem merge_L (N : Nat) (hN : 8000 ≤ N) (L K : List (Int × Int)) (hb : ∀ c ∈ L, bdC c) (kb : ∀ c ∈ K, bdC c) (hbo : ∀ c ∈ L, okC c = true) (kbo : ∀ c ∈ K, okC c = true) (hL : L.length ≤ 1000) (hK : K.length ≤ 1000)
    (A B : List Nat) (hA : ∀ k ∈ A, k < L.length) (hB : ∀ k ∈ B, k < K.length) (hAl : A.length ≤ 1000) (hBl : B.length ≤ 1000) (aA : Asc (A.map (ctL L))) (aB : Asc (B.map (ctL K))) :
    ∀ (n : Nat) (da : List Nat) (a : Nat) (As db : List Nat) (b : Nat) (Bs : List Nat) (fuel : Nat) (acc : List (Int × Int)), As.length + Bs.length = n → A = da ++ a :: As → B = db ++ b :: Bs → n < fuel → acc.length ≤ da.length + db.length →
    m34_L1 N L.length (cellsC L) K.length (cellsC K) A.length (nL A) B.length (nL B) (turnsC (A.map (ctL L))).length (cellsC (turnsC (A.map (ctL L)))) (turnsC (B.map (ctL K))).length (cellsC (turnsC (B.map (ctL K)))) fuel acc.length (da.length : Int) (db.length : Int) (cellsC acc) =
      some (.tup [.lst false (acc ++ mergeC ((a :: As).map (ctL L)) ((b :: Bs).map (ctL K))).length (cellsC (acc ++ mergeC ((a :: As).map (ctL L)) ((b :: Bs).map (ctL K)))), .int .i64 0])
  | n, da, a, As, db, b, Bs, 0, acc, _, _, _, h, _ => by omega
  | n, da, a, As, db, b, Bs, f + 1, acc, hn, eA, eB, hf, hacc => by
    have hAe : A.length = da.length + (As.length + 1) := by rw [eA]; simp
    have hBe : B.length = db.length + (Bs.length + 1) := by rw [eB]; simp
    have hal := hA a (by rw [eA]; simp)
    have hbl := hB b (by rw [eB]; simp)
    have hcl : (cellsC L).length = L.length * 2 := cellsC_len L
    have hck : (cellsC K).length = K.length * 2 := cellsC_len K
    have hnA : (nL A).length = A.length := nL_len A
    have hnB : (nL B).length = B.length := nL_len B
    have hac : (cellsC acc).length = acc.length * 2 := cellsC_len acc
    have hpl : (turnsC (A.map (ctL L))).length = A.length - 1 := by rw [turnsC_len]; simp
    have hql : (turnsC (B.map (ctL K))).length = B.length - 1 := by rw [turnsC_len]; simp
    have hcp : (cellsC (turnsC (A.map (ctL L)))).length = (turnsC (A.map (ctL L))).length * 2 := cellsC_len _
    have hcq : (cellsC (turnsC (B.map (ctL K)))).length = (turnsC (B.map (ctL K))).length * 2 := cellsC_len _
    have tda : (Int.toNat ((da.length : Nat) : Int)) = da.length := by omega
    have tdb : (Int.toNat ((db.length : Nat) : Int)) = db.length := by omega
    have ta : (Int.toNat (a : Int)) = a := by omega
    have tb : (Int.toNat (b : Int)) = b := by omega
    have hwa : IntKind.i64.wrap ((da.length : Int) + 1) = ((da.length + 1 : Nat) : Int) := by rw [wrap64 (by omega) (by omega)]; omega
    have hwb : IntKind.i64.wrap ((db.length : Int) + 1) = ((db.length + 1 : Nat) : Int) := by rw [wrap64 (by omega) (by omega)]; omega
    have ga : gp (nL A) da.length = .int .i64 (a : Int) := by rw [eA]; exact nL_gp da a _
    have gb : gp (nL B) db.length = .int .i64 (b : Int) := by rw [eB]; exact nL_gp db b _
    have ba := hb _ (ctL_mem hal)
    have bb := kb _ (ctL_mem hbl)
    have ba' := ba
    have bb' := bb
    unfold bdC at ba' bb'
    have w1 : IntKind.i64.wrap ((ctL L a).1 + (ctL K b).1) = (addP (ctL L a) (ctL K b)).1 := by rw [wrap64 (by omega) (by omega)]; rfl
    have w2 : IntKind.i64.wrap ((ctL L a).2 + (ctL K b).2) = (addP (ctL L a) (ctL K b)).2 := by rw [wrap64 (by omega) (by omega)]; rfl
    have e3 : cellsC acc ++ [.int .i64 (addP (ctL L a) (ctL K b)).1, .int .i64 (addP (ctL L a) (ctL K b)).2] = cellsC (acc ++ [addP (ctL L a) (ctL K b)]) := by rw [cellsC_app]; rfl
    have hal1 : (acc ++ [addP (ctL L a) (ctL K b)]).length = acc.length + 1 := by simp
    rw [m34_L1, tda, tdb, grd_t ⟨by omega, by omega⟩, grd_t (by simp only [List.length_drop]; omega), ga]
    simp only [getI, if_true]
    rw [ta, grd_t ⟨by omega, by omega⟩, grd_t (by simp only [List.length_drop]; omega), cellsC_at (ctL_at hal)]
    simp only [getA2]
    rw [grd_t ⟨by omega, by omega⟩, grd_t (by simp only [List.length_drop]; omega), gb]
    simp only [if_true]
    rw [tb, grd_t ⟨by omega, by omega⟩, grd_t (by simp only [List.length_drop]; omega), cellsC_at (ctL_at hbl)]
    simp only [if_true]
    rw [grd_t (by omega), grd_t (by omega), w1, w2, e3]
    cases As with
    | nil =>
      simp only [List.length_nil, Nat.zero_add] at hAe hn
      rw [brn_t (by simp; omega)]
      cases Bs with
      | nil =>
        simp only [List.length_nil, Nat.zero_add] at hBe
        rw [brn_t (by simp; omega), grd_t (by rw [cellsC_len, hal1])]
        simp [mergeC]
      | cons b1 Bs =>
        simp only [List.length_cons] at hBe hn
        have ih := merge_L N hN L K hb kb hbo kbo hL hK A B hA hB hAl hBl aA aB (n - 1) da a [] (db ++ [b]) b1 Bs f (acc ++ [addP (ctL L a) (ctL K b)]) (by simp; omega) eA (by rw [eB]; simp) (by omega) (by simp; omega)
        simp only [List.length_append, List.length_cons, List.length_nil, Nat.zero_add] at ih
        rw [brn_f (by simp; omega), hwb, ih]
        simp [mergeC]
        omega
    | cons a1 As =>
      simp only [List.length_cons] at hAe hn
      rw [brn_f (by simp; omega)]
      cases Bs with
      | nil =>
        simp only [List.length_nil, Nat.zero_add] at hBe
        have ih := merge_L N hN L K hb kb hbo kbo hL hK A B hA hB hAl hBl aA aB (n - 1) (da ++ [a]) a1 As db b [] f (acc ++ [addP (ctL L a) (ctL K b)]) (by simp at hn ⊢; omega) (by rw [eA]; simp) eB (by omega) (by simp; omega)
        simp only [List.length_append, List.length_cons, List.length_nil, Nat.zero_add] at ih
        rw [brn_t (by simp; omega), hwa, ih]
        simp [mergeC]
        omega
      | cons b1 Bs =>
        simp only [List.length_cons] at hBe hn
        have ha1 := hA a1 (by rw [eA]; simp)
        have hb1 := hB b1 (by rw [eB]; simp)
        have eAm : A.map (ctL L) = da.map (ctL L) ++ ctL L a :: ctL L a1 :: As.map (ctL L) := by rw [eA]; simp
        have eBm : B.map (ctL K) = db.map (ctL K) ++ ctL K b :: ctL K b1 :: Bs.map (ctL K) := by rw [eB]; simp
        have h01 : (ctL L a).2 < (ctL L a1).2 := by
          rw [eAm] at aA
          exact (List.pairwise_cons.1 (List.pairwise_append.1 aA).2.1).1 _ (by simp)
        have k01 : (ctL K b).2 < (ctL K b1).2 := by
          rw [eBm] at aB
          exact (List.pairwise_cons.1 (List.pairwise_append.1 aB).2.1).1 _ (by simp)
        have gp1 := turn_at eAm
        have gq1 := turn_at eBm
        rw [List.length_map] at gp1 gq1
        have bq1 := cross_bd ba (hb _ (ctL_mem ha1)) (by omega)
        have bq2 := cross_bd bb (kb _ (ctL_mem hb1)) (by omega)
        rw [brn_f (by simp; omega), grd_t (by omega), grd_t (by simp only [List.length_drop]; omega), gp1]
        simp only []
        rw [grd_t (by omega), grd_t (by simp only [List.length_drop]; omega), gq1]
        simp only [cmp_ok73 N bq1 bq2, bnd', if_true]
        have iha := merge_L N hN L K hb kb hbo kbo hL hK A B hA hB hAl hBl aA aB (n - 1) (da ++ [a]) a1 As db b (b1 :: Bs) f (acc ++ [addP (ctL L a) (ctL K b)]) (by simp at hn ⊢; omega) (by rw [eA]; simp) eB (by omega) (by simp; omega)
        have ihb := merge_L N hN L K hb kb hbo kbo hL hK A B hA hB hAl hBl aA aB (n - 1) da a (a1 :: As) (db ++ [b]) b1 Bs f (acc ++ [addP (ctL L a) (ctL K b)]) (by simp at hn ⊢; omega) eA (by rw [eB]; simp) (by omega) (by simp; omega)
        have ihc := merge_L N hN L K hb kb hbo kbo hL hK A B hA hB hAl hBl aA aB (n - 2) (da ++ [a]) a1 As (db ++ [b]) b1 Bs f (acc ++ [addP (ctL L a) (ctL K b)]) (by omega) (by rw [eA]; simp) (by rw [eB]; simp) (by omega) (by simp; omega)
        simp only [List.length_append, List.length_cons, List.length_nil, Nat.zero_add, List.map_cons] at iha ihb ihc
        simp only [List.map_cons]
        rw [mergeC]
        generalize hq1 : crossP (ctL L a) (ctL L a1) = q1 at *
        generalize hq2 : crossP (ctL K b) (ctL K b1) = q2 at *
        by_cases c1 : lessP q1 q2
        · have c1' : q1.1 * q2.2 < q2.1 * q1.2 := c1
          rw [if_pos c1, brn_t (by simp; omega), brn_f (by simp; omega), hwa, iha]
          simp
          omega
        · have c1' : ¬ q1.1 * q2.2 < q2.1 * q1.2 := c1
          rw [if_neg c1]
          by_cases c2 : lessP q2 q1
          · have c2' : q2.1 * q1.2 < q1.1 * q2.2 := c2
            rw [if_pos c2, brn_f (by simp; omega), brn_t (by simp; omega), hwb, ihb]
            simp
            omega
          · have c2' : ¬ q2.1 * q1.2 < q1.1 * q2.2 := c2
            rw [if_neg c2, brn_t (by simp; omega), brn_t (by simp; omega), hwa, hwb, ihc]
            simp
            omega
theorem sums_L1 (N : Nat) (L K : List (Int × Int)) (hb : ∀ c ∈ L, bdC c) (kb : ∀ c ∈ K, bdC c) (hL : L.length ≤ 1000) (hK : K.length ≤ 1000) (A B : List Nat) (hA : ∀ k ∈ A, k < L.length) (hB : ∀ k ∈ B, k < K.length) (hAl : A.length ≤ 100) (hBl : B.length ≤ 100) (da : List Nat) (a : Nat) (As : List Nat) (eA : A = da ++ a :: As) : ∀ (rest done : List Nat) (fuel : Nat) (acc : List (Int × Int)), B = done ++ rest → rest.length < fuel → acc.length ≤ da.length * 100 + done.length →
    m35_L1 N L.length (cellsC L) K.length (cellsC K) A.length (nL A) B.length (nL B) (da.length : Int) fuel acc.length (done.length : Int) (cellsC acc) = some ((acc ++ rest.map (fun b => addP (ctL L a) (ctL K b))).length, cellsC (acc ++ rest.map (fun b => addP (ctL L a) (ctL K b))))
  | [], done, 0, _, _, h, _ => by simp at h
  | [], done, f + 1, acc, e, _, _ => by
    have : B.length = done.length := by rw [e]; simp
    rw [m35_L1, brn_f (by simp; omega)]; simp
  | b :: rest, done, 0, _, _, h, _ => by simp at h
  | b :: rest, done, f + 1, acc, e, hf, hacc => by
    have hAe : A.length = da.length + (As.length + 1) := by rw [eA]; simp
    have hBe : B.length = done.length + (rest.length + 1) := by rw [e]; simp
    have hal := hA a (by rw [eA]; simp)
    have hbl := hB b (by rw [e]; simp)
    have hcl : (cellsC L).length = L.length * 2 := cellsC_len L
    have hck : (cellsC K).length = K.length * 2 := cellsC_len K
    have hnA : (nL A).length = A.length := nL_len A
    have hnB : (nL B).length = B.length := nL_len B
    have hac : (cellsC acc).length = acc.length * 2 := cellsC_len acc
    have tda : (Int.toNat ((da.length : Nat) : Int)) = da.length := by omega
    have tdb : (Int.toNat ((done.length : Nat) : Int)) = done.length := by omega
    have ta : (Int.toNat (a : Int)) = a := by omega
    have tb : (Int.toNat (b : Int)) = b := by omega
    have hwb : IntKind.i64.wrap ((done.length : Int) + 1) = ((done.length + 1 : Nat) : Int) := by rw [wrap64 (by omega) (by omega)]; omega
    have ga : gp (nL A) da.length = .int .i64 (a : Int) := by rw [eA]; exact nL_gp da a _
    have gb : gp (nL B) done.length = .int .i64 (b : Int) := by rw [e]; exact nL_gp done b _
    have ba := hb _ (ctL_mem hal)
    have bb := kb _ (ctL_mem hbl)
    unfold bdC at ba bb
    have w1 : IntKind.i64.wrap ((ctL L a).1 + (ctL K b).1) = (addP (ctL L a) (ctL K b)).1 := by rw [wrap64 (by omega) (by omega)]; rfl
    have w2 : IntKind.i64.wrap ((ctL L a).2 + (ctL K b).2) = (addP (ctL L a) (ctL K b)).2 := by rw [wrap64 (by omega) (by omega)]; rfl
    have e3 : cellsC acc ++ [.int .i64 (addP (ctL L a) (ctL K b)).1, .int .i64 (addP (ctL L a) (ctL K b)).2] = cellsC (acc ++ [addP (ctL L a) (ctL K b)]) := by rw [cellsC_app]; rfl
    rw [m35_L1, brn_t (by simp; omega), tda, tdb, grd_t ⟨by omega, by omega⟩, grd_t (by simp only [List.length_drop]; omega), ga]
    simp only [getI, if_true]
    rw [ta, grd_t ⟨by omega, by omega⟩, grd_t (by simp only [List.length_drop]; omega), gpc0 hal]
    simp only [if_true]
    rw [grd_t ⟨by omega, by omega⟩, grd_t (by simp only [List.length_drop]; omega), gb]
    simp only [if_true]
    rw [tb, grd_t ⟨by omega, by omega⟩, grd_t (by simp only [List.length_drop]; omega), gpc0 hbl]
    simp only [if_true]
    rw [grd_t (by simp only [List.length_drop]; omega), gpc1 hal]
    simp only [if_true]
    rw [grd_t (by simp only [List.length_drop]; omega), gpc1 hbl]
    simp only [if_true]
    rw [grd_t (by omega), grd_t (by omega), w1, w2, e3, hwb]
    have ih := sums_L1 N L K hb kb hL hK A B hA hB hAl hBl da a As eA rest (done ++ [b]) f (acc ++ [addP (ctL L a) (ctL K b)]) (by simp [e]) (by simp at hf; omega) (by simp; omega)
    simp only [List.length_append, List.length_cons, List.length_nil, Nat.zero_add] at ih
    rw [ih]
    simp
    omega
def sumsF (L K : List (Int × Int)) (A B : List Nat) : List (Int × Int) := A.flatMap fun a => B.map fun b => addP (ctL L a) (ctL K b)
theorem sums_L0 (N : Nat) (hN : 8000 ≤ N) (L K : List (Int × Int)) (hb : ∀ c ∈ L, bdC c) (kb : ∀ c ∈ K, bdC c) (hL : L.length ≤ 1000) (hK : K.length ≤ 1000) (A B : List Nat) (hA : ∀ k ∈ A, k < L.length) (hB : ∀ k ∈ B, k < K.length) (hAl : A.length ≤ 100) (hBl : B.length ≤ 100) : ∀ (rest done : List Nat) (fuel : Nat) (acc : List (Int × Int)), A = done ++ rest → rest.length < fuel → acc.length ≤ done.length * 100 →
    m35_L0 N L.length (cellsC L) K.length (cellsC K) A.length (nL A) B.length (nL B) fuel acc.length (done.length : Int) (cellsC acc) = some ((acc ++ sumsF L K rest B).length, cellsC (acc ++ sumsF L K rest B))
  | [], done, 0, _, _, h, _ => by simp at h
  | [], done, f + 1, acc, e, _, _ => by
    have : A.length = done.length := by rw [e]; simp
    rw [m35_L0, brn_f (by simp; omega)]; simp [sumsF]
  | a :: rest, done, 0, _, _, h, _ => by simp at h
  | a :: rest, done, f + 1, acc, e, hf, hacc => by
    have hAe : A.length = done.length + (rest.length + 1) := by rw [e]; simp
    have hw : IntKind.i64.wrap ((done.length : Int) + 1) = ((done.length + 1 : Nat) : Int) := by rw [wrap64 (by omega) (by omega)]; omega
    have h1 := sums_L1 N L K hb kb hL hK A B hA hB hAl hBl done a rest e B [] N acc rfl (by omega) (by simp; omega)
    have ih := sums_L0 N hN L K hb kb hL hK A B hA hB hAl hBl rest (done ++ [a]) f (acc ++ B.map (fun b => addP (ctL L a) (ctL K b))) (by simp [e]) (by simp at hf; omega) (by simp; omega)
    simp only [List.length_append, List.length_cons, List.length_nil, Nat.zero_add, List.length_map] at ih
    rw [m35_L0, brn_t (by simp; omega)]
    rw [show m35_L1 N L.length (cellsC L) K.length (cellsC K) A.length (nL A) B.length (nL B) (done.length : Int) N acc.length 0 (cellsC acc) = _ from h1]
    simp only [bnd', hw, List.length_append, List.length_map]
    rw [ih]
    simp [sumsF, Nat.add_assoc]
theorem pick_L (N : Nat) (S : List (Int × Int)) (hS : S.length ≤ 1000) (H : List Nat) (hH : ∀ k ∈ H, k < S.length) (hHl : H.length ≤ 1000) : ∀ (rest done : List Nat) (fuel : Nat) (acc : List (Int × Int)), H = done ++ rest → rest.length < fuel → acc.length ≤ done.length →
    m35_L2 N S.length (cellsC S) H.length (nL H) fuel acc.length (done.length : Int) (cellsC acc) = some ((acc ++ rest.map (ctL S)).length, cellsC (acc ++ rest.map (ctL S)))
  | [], done, 0, _, _, h, _ => by simp at h
  | [], done, f + 1, acc, e, _, _ => by
    have : H.length = done.length := by rw [e]; simp
    rw [m35_L2, brn_f (by simp; omega)]; simp
  | k :: rest, done, 0, _, _, h, _ => by simp at h
  | k :: rest, done, f + 1, acc, e, hf, hacc => by
    have hHe : H.length = done.length + (rest.length + 1) := by rw [e]; simp
    have hk := hH k (by rw [e]; simp)
    have hcl : (cellsC S).length = S.length * 2 := cellsC_len S
    have hnl : (nL H).length = H.length := nL_len H
    have hac : (cellsC acc).length = acc.length * 2 := cellsC_len acc
    have td : (Int.toNat ((done.length : Nat) : Int)) = done.length := by omega
    have tk : (Int.toNat (k : Int)) = k := by omega
    have hw : IntKind.i64.wrap ((done.length : Int) + 1) = ((done.length + 1 : Nat) : Int) := by rw [wrap64 (by omega) (by omega)]; omega
    have gk : gp (nL H) done.length = .int .i64 (k : Int) := by rw [e]; exact nL_gp done k _
    have e3 : cellsC acc ++ [.int .i64 (ctL S k).1, .int .i64 (ctL S k).2] = cellsC (acc ++ [ctL S k]) := by rw [cellsC_app]; rfl
    have ih := pick_L N S hS H hH hHl rest (done ++ [k]) f (acc ++ [ctL S k]) (by simp [e]) (by simp at hf; omega) (by simp; omega)
    simp only [List.length_append, List.length_cons, List.length_nil, Nat.zero_add] at ih
    rw [m35_L2, brn_t (by simp; omega), td, grd_t ⟨by omega, by omega⟩, grd_t (by simp only [List.length_drop]; omega), gk]
    simp only [getI, if_true]
    rw [tk, grd_t ⟨by omega, by omega⟩, grd_t (by simp only [List.length_drop]; omega), cellsC_at (ctL_at hk)]
    simp only [getA2]
    rw [grd_t (by omega), grd_t (by omega), e3, hw, ih]
    simp
    omega
theorem GT_low (C : List (Int × Int)) (hb : ∀ c ∈ C, bdC c) (hA : Asc C) : GT (-1000, 1) C := by
  rintro x x1 T rfl
  have h01 : x.2 < x1.2 := (List.pairwise_cons.1 hA).1 x1 (by simp)
  have h := cross_bd (hb x (by simp)) (hb x1 (by simp)) (by omega)
  unfold bdQ at h
  unfold lessP
  simp only
  omega
/-- the sums that are needed are the merged ones -/
theorem sums_eq (L K : List (Int × Int)) (hb : ∀ c ∈ L, bdC c) (kb : ∀ c ∈ K, bdC c) (l1 : 1 ≤ L.length) (k1 : 1 ≤ K.length) :
    (hullF (sumsF L K (hullF L) (hullF K))).map (ctL (sumsF L K (hullF L) (hullF K))) = mergeC ((hullF L).map (ctL L)) ((hullF K).map (ctL K)) := by
  have hcL := hull_chain L
  have hcK := hull_chain K
  have neL : (hullF L).map (ctL L) ≠ [] := by
    intro h
    obtain ⟨c, hc, _⟩ := hcL.dom (0, 1) (by decide) (ctL L 0) (ctL_mem (by omega))
    rw [h] at hc; simp at hc
  have neK : (hullF K).map (ctL K) ≠ [] := by
    intro h
    obtain ⟨c, hc, _⟩ := hcK.dom (0, 1) (by decide) (ctL K 0) (ctL_mem (by omega))
    rw [h] at hc; simp at hc
  have hm := merge_sp _ ((hullF L).map (ctL L)) ((hullF K).map (ctL K)) (-1000, 1) rfl neL neK hcL.asc hcL.cha hcK.asc hcK.cha (GT_low _ (fun c hc => hb c (hcL.sub c hc)) hcL.asc) (GT_low _ (fun c hc => kb c (hcK.sub c hc)) hcK.asc)
  have hmem : ∀ z, z ∈ sumsF L K (hullF L) (hullF K) ↔ ∃ x ∈ (hullF L).map (ctL L), ∃ y ∈ (hullF K).map (ctL K), z = addP x y := fun z => by
    unfold sumsF
    rw [List.mem_flatMap]
    constructor
    · rintro ⟨a, ha, h⟩
      obtain ⟨b, hb, rfl⟩ := List.mem_map.1 h
      exact ⟨_, List.mem_map.2 ⟨a, ha, rfl⟩, _, List.mem_map.2 ⟨b, hb, rfl⟩, rfl⟩
    · rintro ⟨x, hx, y, hy, rfl⟩
      obtain ⟨a, ha, rfl⟩ := List.mem_map.1 hx
      obtain ⟨b, hb, rfl⟩ := List.mem_map.1 hy
      exact ⟨a, ha, List.mem_map.2 ⟨b, hb, rfl⟩⟩
  refine chain_uniq (hull_chain _) ⟨fun z hz => ?_, hm.asc, hm.cha, fun p hp d hd => ?_⟩
  · exact (hmem z).2 (hm.sub z hz)
  · obtain ⟨x, hx, y, hy, rfl⟩ := (hmem d).1 hd
    obtain ⟨z, hz, h⟩ := hm.dom p hp
    exact ⟨z, hz, by rw [Ct_add]; exact h x hx y hy⟩
theorem bothG (N : Nat) (hN : 8000 ≤ N) (L K : List (Int × Int)) (h0 : Chk L = 0) (h1 : Chk K = 0) : m34 N (.lst false L.length (cellsC L)) (.lst false K.length (cellsC K)) =
    some (.tup [.lst false (mergeC ((hullF L).map (ctL L)) ((hullF K).map (ctL K))).length (cellsC (mergeC ((hullF L).map (ctL L)) ((hullF K).map (ctL K)))), .int .i64 0]) := by
  obtain ⟨l1, l8, hb⟩ := Chk_len8 h0
  obtain ⟨k1, k8, kb⟩ := Chk_len8 h1
  obtain ⟨p, l, e1, hbo⟩ := Chk_zero h0
  obtain ⟨p', l', e2, kbo⟩ := Chk_zero h1
  obtain ⟨a1, _, a3⟩ := hull_facts L
  obtain ⟨b1, _, b3⟩ := hull_facts K
  have hl := hull_lenle L
  have hk := hull_lenle K
  have hloop : m34_L0 N L.length (cellsC L) K.length (cellsC K) N 0 = some (.inr ()) := by
    obtain ⟨f, rfl⟩ : ∃ f, N = f + 3 := ⟨N - 3, by omega⟩
    rw [m34_L0, brn_t (by simp), grd_t ⟨by omega, by omega⟩, grd_t (by decide), show gp [PV.lst false L.length (cellsC L), .lst false K.length (cellsC K)] (Int.toNat 0) = .lst false L.length (cellsC L) from rfl]
    simp only [getL, check_ok (f + 3) L (by omega) (by omega), bnd', getI, if_true]
    rw [brn_f (by simp [h0]), show IntKind.i64.wrap ((0 : Int) + 1) = 1 by decide, m34_L0, brn_t (by simp), grd_t ⟨by omega, by omega⟩, grd_t (by decide), show gp [PV.lst false L.length (cellsC L), .lst false K.length (cellsC K)] (Int.toNat 1) = .lst false K.length (cellsC K) from rfl]
    simp only [getL, check_ok (f + 3) K (by omega) (by omega), bnd', getI, if_true]
    rw [brn_f (by simp [h1]), show IntKind.i64.wrap ((1 : Int) + 1) = 2 by decide, m34_L0, brn_f (by simp)]
  simp only [m34, getL]
  rw [hloop]
  simp only [bnd', hull_ok N L hb l1 (by omega) (by omega), hull_ok N K kb k1 (by omega) (by omega), turns_ok N (by omega) L hb l1 (by omega), turns_ok N (by omega) K kb k1 (by omega)]
  obtain ⟨a, As, eA⟩ : ∃ a As, hullF L = a :: As := by
    cases hA : hullF L with
    | nil =>
      exfalso
      obtain ⟨c, hc, _⟩ := (hull_chain L).dom (0, 1) (by decide) (ctL L 0) (ctL_mem (by omega))
      rw [hA] at hc; simp at hc
    | cons a As => exact ⟨a, As, rfl⟩
  obtain ⟨b, Bs, eB⟩ : ∃ b Bs, hullF K = b :: Bs := by
    cases hB : hullF K with
    | nil =>
      exfalso
      obtain ⟨c, hc, _⟩ := (hull_chain K).dom (0, 1) (by decide) (ctL K 0) (ctL_mem (by omega))
      rw [hB] at hc; simp at hc
    | cons b Bs => exact ⟨b, Bs, rfl⟩
  have hm := merge_L N hN L K hb kb (by rw [e1] at *; exact List.all_eq_true.1 hbo) (by rw [e2] at *; exact List.all_eq_true.1 kbo) (by omega) (by omega) (hullF L) (hullF K) a3 b3 (by omega) (by omega) a1 b1 (As.length + Bs.length) [] a As [] b Bs N [] rfl (by rw [eA]; rfl) (by rw [eB]; rfl) (by rw [eA] at hl; rw [eB] at hk; simp at hl hk; omega) (by simp)
  simp only [List.length_nil, List.nil_append] at hm
  rw [show m34_L1 N L.length (cellsC L) K.length (cellsC K) (hullF L).length (nL (hullF L)) (hullF K).length (nL (hullF K)) (turnsC ((hullF L).map (ctL L))).length (cellsC (turnsC ((hullF L).map (ctL L)))) (turnsC ((hullF K).map (ctL K))).length (cellsC (turnsC ((hullF K).map (ctL K)))) N 0 0 0 [] = _ from hm]
  rw [← eA, ← eB]
theorem bothR (N : Nat) (hN : 8000 ≤ N) (L K : List (Int × Int)) (h0 : Chk L = 0) (h1 : Chk K = 0) : m35 N (.lst false L.length (cellsC L)) (.lst false K.length (cellsC K)) =
    some (.tup [.lst false (mergeC ((hullF L).map (ctL L)) ((hullF K).map (ctL K))).length (cellsC (mergeC ((hullF L).map (ctL L)) ((hullF K).map (ctL K)))), .int .i64 0]) := by
  obtain ⟨l1, l8, hb⟩ := Chk_len8 h0
  obtain ⟨k1, k8, kb⟩ := Chk_len8 h1
  obtain ⟨p, l, e1, hbo⟩ := Chk_zero h0
  obtain ⟨p', l', e2, kbo⟩ := Chk_zero h1
  obtain ⟨a1, _, a3⟩ := hull_facts L
  obtain ⟨b1, _, b3⟩ := hull_facts K
  have hl := hull_lenle L
  have hk := hull_lenle K
  have p1 := pairs8 _ l8
  have p2 := pairs8 _ k8
  have hs := sums_L0 N hN L K hb kb (by omega) (by omega) (hullF L) (hullF K) a3 b3 (by omega) (by omega) (hullF L) [] N [] rfl (by omega) (by simp)
  simp only [List.length_nil, List.nil_append] at hs
  have hSl : (sumsF L K (hullF L) (hullF K)).length ≤ 64 := by
    have : ∀ (A : List Nat), (sumsF L K A (hullF K)).length = A.length * (hullF K).length := by
      intro A
      induction A with
      | nil => simp [sumsF]
      | cons a A ih =>
        have e : sumsF L K (a :: A) (hullF K) = (hullF K).map (fun b => addP (ctL L a) (ctL K b)) ++ sumsF L K A (hullF K) := by simp [sumsF]
        rw [e, List.length_append, List.length_map, ih, List.length_cons, Nat.add_mul]; omega
    rw [this]
    have h2 : (hullF L).length * (hullF K).length ≤ 8 * 8 := Nat.mul_le_mul (by omega) (by omega)
    omega
  have hp64 : pairsN 0 (sumsF L K (hullF L) (hullF K)).length ≤ 2016 := by
    have : ∀ n, n ≤ 64 → pairsN 0 n ≤ 2016 := by decide
    exact this _ hSl
  have hSb : ∀ z ∈ sumsF L K (hullF L) (hullF K), bdC z := fun z hz => by
    unfold sumsF at hz
    obtain ⟨a, ha, h⟩ := List.mem_flatMap.1 hz
    obtain ⟨b, hb', rfl⟩ := List.mem_map.1 h
    have c1 : okC (ctL L a) = true := by have := ctL_mem (a3 a ha); rw [e1] at *; exact List.all_eq_true.1 hbo _ this
    have c2 : okC (ctL K b) = true := by have := ctL_mem (b3 b hb'); rw [e2] at *; exact List.all_eq_true.1 kbo _ this
    simp [okC] at c1 c2
    unfold bdC addP
    simp only
    omega
  have heq := sums_eq L K hb kb l1 k1
  simp only [m35, getL, checkr_ok N L (by omega) (by omega), checkr_ok N K (by omega) (by omega), bnd', getI, if_true]
  rw [brn_t (by simp [h0]), brn_f (by simp [h1]), all_ok N (by omega) L hb (by omega) ⟨by omega, by omega⟩]
  simp only []
  rw [all_ok N (by omega) K kb (by omega) ⟨by omega, by omega⟩]
  simp only []
  rw [show m35_L0 N L.length (cellsC L) K.length (cellsC K) (hullF L).length (nL (hullF L)) (hullF K).length (nL (hullF K)) N 0 0 [] = _ from hs]
  simp only []
  generalize sumsF L K (hullF L) (hullF K) = S at *
  obtain ⟨_, _, s3⟩ := hull_facts S
  have hsl := hull_lenle S
  rw [grd_t (by rw [cellsC_len]), all_ok N (by omega) S hSb (by omega) ⟨by omega, by omega⟩]
  simp only []
  have hpk := pick_L N S (by omega) (hullF S) s3 (by omega) (hullF S) [] N [] rfl (by omega) (by simp)
  simp only [List.length_nil, List.nil_append] at hpk
  rw [show m35_L2 N S.length (cellsC S) (hullF S).length (nL (hullF S)) N 0 0 [] = _ from hpk]
  simp only []
  rw [grd_t (by rw [cellsC_len]), heq]
theorem boths (N : Nat) (hN : 8000 ≤ N) (L K : List (Int × Int)) (hL : L.length ≤ 40) (hK : K.length ≤ 40) : ∃ (M : List (Int × Int)) (e : Int), M.length ≤ 1000 ∧ m34 N (.lst false L.length (cellsC L)) (.lst false K.length (cellsC K)) = some (.tup [.lst false M.length (cellsC M), .int .i64 e]) ∧
    m35 N (.lst false L.length (cellsC L)) (.lst false K.length (cellsC K)) = some (.tup [.lst false M.length (cellsC M), .int .i64 e]) := by
  obtain ⟨f, rfl⟩ : ∃ f, N = f + 3 := ⟨N - 3, by omega⟩
  by_cases h0 : Chk L = 0
  · by_cases h1 : Chk K = 0
    · refine ⟨_, 0, ?_, bothG (f + 3) hN L K h0 h1, bothR (f + 3) hN L K h0 h1⟩
      have hm : ∀ (n : Nat) (A B : List (Int × Int)), A.length + B.length = n → (mergeC A B).length ≤ n := by
        intro n
        induction n using Nat.strongRecOn with
        | _ n ih =>
          intro A B hn
          match A, B, hn with
          | [], B, _ => rw [mergeC.eq_def]; simp
          | A, [], _ => cases A with
            | nil => rw [mergeC.eq_def]; simp
            | cons a A => rw [mergeC.eq_def]; cases A <;> simp
          | [x], [y], hn => rw [mergeC]; simp at hn ⊢; omega
          | x :: x1 :: As, [y], hn =>
            rw [mergeC]
            have := ih (n - 1) (by simp at hn; omega) (x1 :: As) [y] (by simp at hn ⊢; omega)
            simp only [List.length_cons] at hn ⊢; omega
          | [x], y :: y1 :: Bs, hn =>
            rw [mergeC]
            have := ih (n - 1) (by simp at hn; omega) [x] (y1 :: Bs) (by simp at hn ⊢; omega)
            simp only [List.length_cons] at hn ⊢; omega
          | x :: x1 :: As, y :: y1 :: Bs, hn =>
            rw [mergeC]
            have i1 := ih (n - 1) (by simp at hn; omega) (x1 :: As) (y :: y1 :: Bs) (by simp at hn ⊢; omega)
            have i2 := ih (n - 1) (by simp at hn; omega) (x :: x1 :: As) (y1 :: Bs) (by simp at hn ⊢; omega)
            have i3 := ih (n - 2) (by simp at hn; omega) (x1 :: As) (y1 :: Bs) (by simp at hn ⊢; omega)
            simp only [List.length_cons] at hn
            split
            · simp only [List.length_cons]; omega
            · split
              · simp only [List.length_cons]; omega
              · simp only [List.length_cons]; omega
      have := hm _ ((hullF L).map (ctL L)) ((hullF K).map (ctL K)) rfl
      have hl := hull_lenle L
      have hk := hull_lenle K
      simp only [List.length_map] at this; omega
    · refine ⟨[], Chk K, by simp, ?_, ?_⟩
      · simp only [m34, getL]
        have hloop : m34_L0 (f + 3) L.length (cellsC L) K.length (cellsC K) (f + 3) 0 = some (.inl (.tup [.lst false 0 [], .int .i64 (Chk K)])) := by
          rw [m34_L0, brn_t (by simp), grd_t ⟨by omega, by omega⟩, grd_t (by decide), show gp [PV.lst false L.length (cellsC L), .lst false K.length (cellsC K)] (Int.toNat 0) = .lst false L.length (cellsC L) from rfl]
          simp only [getL, check_ok (f + 3) L (by omega) (by omega), bnd', getI, if_true]
          rw [brn_f (by simp [h0]), show IntKind.i64.wrap ((0 : Int) + 1) = 1 by decide, m34_L0, brn_t (by simp), grd_t ⟨by omega, by omega⟩, grd_t (by decide), show gp [PV.lst false L.length (cellsC L), .lst false K.length (cellsC K)] (Int.toNat 1) = .lst false K.length (cellsC K) from rfl]
          simp only [getL, check_ok (f + 3) K (by omega) (by omega), bnd', getI, if_true]
          rw [brn_t (by simpa using h1)]
        rw [hloop]; rfl
      · simp only [m35, getL, checkr_ok (f + 3) L (by omega) (by omega), checkr_ok (f + 3) K (by omega) (by omega), bnd', getI, if_true]
        rw [brn_t (by simp [h0]), brn_t (by simpa using h1)]
        rfl
  · refine ⟨[], Chk L, by simp, ?_, ?_⟩
    · simp only [m34, getL]
      have hloop : m34_L0 (f + 3) L.length (cellsC L) K.length (cellsC K) (f + 3) 0 = some (.inl (.tup [.lst false 0 [], .int .i64 (Chk L)])) := by
        rw [m34_L0, brn_t (by simp), grd_t ⟨by omega, by omega⟩, grd_t (by decide), show gp [PV.lst false L.length (cellsC L), .lst false K.length (cellsC K)] (Int.toNat 0) = .lst false L.length (cellsC L) from rfl]
        simp only [getL, check_ok (f + 3) L (by omega) (by omega), bnd', getI, if_true]
        rw [brn_t (by simpa using h0)]
      rw [hloop]; rfl
    · simp only [m35, getL, checkr_ok (f + 3) L (by omega) (by omega), bnd', getI, if_true]
      rw [brn_f (by simpa using h0), brn_t (by simpa using h0)]
      rfl
theorem eq6_L (N : Nat) (T : List (Int × Int)) (hT : T.length ≤ 1000) : ∀ (rest done : List (Int × Int)) (fuel : Nat), T = done ++ rest → rest.length < fuel →
    m6_L0 N T.length (cellsC T) T.length (cellsC T) fuel (done.length : Int) = some (.inr ())
  | [], done, 0, _, h => by simp at h
  | [], done, f + 1, e, _ => by
    have : T.length = done.length := by rw [e]; simp
    rw [m6_L0, brn_f (by simp; omega)]
  | p :: rest, done, 0, _, h => by simp at h
  | p :: rest, done, f + 1, e, hf => by
    have hTe : T.length = done.length + (rest.length + 1) := by rw [e]; simp
    have hct : (cellsC T).length = T.length * 2 := cellsC_len T
    have td : (Int.toNat ((done.length : Nat) : Int)) = done.length := by omega
    have hw : IntKind.i64.wrap ((done.length : Int) + 1) = ((done.length + 1 : Nat) : Int) := by rw [wrap64 (by omega) (by omega)]; omega
    have hp2 : ((cellsC T).drop (done.length * 2)).take 2 = [.int .i64 p.1, .int .i64 p.2] := by rw [e]; exact cellsC_take done p rest
    have ih := eq6_L N T hT rest (done ++ [p]) f (by simp [e]) (by simp at hf; omega)
    simp only [List.length_append, List.length_cons, List.length_nil, Nat.zero_add] at ih
    rw [m6_L0, brn_t (by simp; omega), td, grd_t ⟨by omega, by omega⟩, grd_t (by simp only [List.length_drop]; omega), hp2]
    simp only [getA2]
    rw [grd_t (by omega), grd_t (by simp only [List.length_drop]; omega)]
    simp only [getI, if_true]
    rw [brn_f (by simp), hw, ih]
theorem law_books (L K : List (Int × Int)) (r : Int) : m6 8000 (.lst false L.length (cellsC L)) (.lst false K.length (cellsC K)) r = some (.bool true) := by
  have hworks : m15 8000 = some (.bool true) := by simp [m15]
  simp only [m6, getL]
  by_cases h : 40 < L.length
  · rw [brn_t (by simp; omega), hworks]; rfl
  · rw [brn_f (by simp; omega)]
    by_cases h' : 40 < K.length
    · rw [brn_t (by simp; omega), hworks]; rfl
    · have hL : L.length ≤ 40 := by omega
      have hK : K.length ≤ 40 := by omega
      obtain ⟨u, v, e, f1, f2⟩ := fairs 8000 (by decide) L hL r
      obtain ⟨M, e', hM, b1, b2⟩ := boths 8000 (by decide) L K hL hK
      rw [brn_f (by simp; omega), inner_ok 8000 L hL (by omega)]
      simp only [bnd']
      rw [inner_ok 8000 K hK (by omega)]
      simp only [f1, f2, b1, b2, getT2, getA2, getI, if_true]
      have hq := eq6_L 8000 M hM M [] 8000 rfl (by omega)
      rw [brn_f (by simp), brn_f (by simp), brn_f (by simp), brn_f (by simp)]
      rw [show m6_L0 8000 M.length (cellsC M) M.length (cellsC M) 8000 0 = _ from hq]
      simp only [hworks, getB]
theorem con6 (x0 : PV) (h0 : PT tab 22 [x0]) (x1 : PV) (h1 : PT tab 22 [x1]) (x2 : PV) (h2 : PT tab 3 [x2]) : FnP Try.prog 6 [x0, x1, x2] (.bool true) := by
  obtain ⟨L, hL⟩ := contracts_of h0
  obtain ⟨K, hK⟩ := contracts_of h1
  obtain ⟨r, e, _⟩ := h2.int' tl3 rfl
  cases e
  exact FnP_le (c6 8000 _ _ _ _ (law_books L K r)) (.cons _ _ _ _ hL (.cons _ _ _ _ hK (PLes.refl _))) (.refl _)
end Go.Proofs.Ytgnphlpoofaojaa
