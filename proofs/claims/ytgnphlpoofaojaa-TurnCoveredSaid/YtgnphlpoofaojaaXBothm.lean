/-
  Fair parts, and two books together: the mathematics.
-/
import Derived.Test.YtgnphlpoofaojaaXHullm
namespace Go.Proofs.Ytgnphlpoofaojaa
open Go.V
def AloneC (S : List (Int × Int)) (z : Int × Int) : Prop := z ∈ S ∧ ∃ p : Int × Int, 0 < p.2 ∧ ∀ d ∈ S, d = z ∨ CtP p d < CtP p z
structure Chain (S C : List (Int × Int)) : Prop where
  sub : ∀ c ∈ C, c ∈ S
  asc : Asc C
  cha : ChA C
  dom : ∀ p : Int × Int, 0 < p.2 → ∀ d ∈ S, ∃ c ∈ C, CtP p d ≤ CtP p c
theorem Asc_rev {T : List (Int × Int)} (h : Asc T) : Dsc T.reverse := by
  unfold Asc Dsc at *
  exact List.pairwise_reverse.2 h
theorem ChA_rev : ∀ (T U : List (Int × Int)), ChA T → Chn U → (∀ b T', T = b :: T' → ∀ c U', U = c :: U' → (∀ d T'', T' = d :: T'' → aboveG c b d = true) ∧ (∀ d U'', U' = d :: U'' → aboveG d c b = true)) → Chn (T.reverse ++ U)
  | [], U, _, hU, _ => by simpa using hU
  | b :: T, U, hT, hU, hb => by
    rw [List.reverse_cons, List.append_assoc, List.singleton_append]
    refine ChA_rev T (b :: U) (ChA_tail hT) ?_ ?_
    · match U, hU, hb with
      | [], _, _ => trivial
      | [_], _, _ => trivial
      | c :: d :: U', hU, hb => exact ⟨(hb b T rfl c (d :: U') rfl).2 d U' rfl, hU⟩
    · rintro a T' rfl c U' e
      obtain ⟨rfl, rfl⟩ := List.cons.inj e
      refine ⟨fun z T'' e => ?_, fun d U'' e => ?_⟩
      · subst e; exact hT.1
      · subst e; exact (hb b (a :: T') rfl d U'' rfl).1 a T' rfl
theorem chain_alone {S C : List (Int × Int)} (h : Chain S C) (k : Int × Int) : k ∈ C ↔ AloneC S k := by
  constructor
  · intro hk
    refine ⟨h.sub k hk, ?_⟩
    have hd : Dsc C.reverse := Asc_rev h.asc
    have hc : Chn C.reverse := by simpa using ChA_rev C [] h.cha trivial (by simp)
    obtain ⟨post, pre, e⟩ := List.append_of_mem (List.mem_reverse.2 hk)
    rw [e] at hd hc
    obtain ⟨m1, m2, m3, m4, m5⟩ := chn_mid hd hc
    have hopn : ∀ x, Opn pre k post.reverse x → ∀ t ∈ C, t = k ∨ CtP x t < CtP x k := fun x ⟨o1, o2, o3⟩ t ht => by
      have ht := List.mem_reverse.2 ht
      rw [e] at ht
      rcases List.mem_append.1 ht with ht | ht
      · exact .inr (m5 x o1 o3 _ ht)
      · rcases List.mem_cons.1 ht with rfl | ht
        · exact .inl rfl
        · exact .inr (m4 x o1 o2 _ ht)
    have hle : ∀ x, Opn pre k post.reverse x → ∀ d ∈ S, CtP x d ≤ CtP x k := fun x o d hd => by
      obtain ⟨t, ht, h1⟩ := h.dom x o.1 d hd
      rcases hopn x o t ht with rfl | h2
      · exact h1
      · omega
    obtain ⟨x, hx⟩ := Opn_ex m1 m2 m3
    refine ⟨x, hx.1, fun d hdS => ?_⟩
    by_cases hfe : d = k
    · exact .inl hfe
    · refine .inr ?_
      have h1 := hle x hx d hdS
      rcases Int.lt_or_eq_of_le h1 with h2 | h2
      · exact h2
      · exfalso
        rcases Int.lt_trichotomy d.2 k.2 with hr | hr | hr
        · obtain ⟨y, hy, hl⟩ := Opn_dn m1 m2 hx
          have := hle y hy d hdS
          have q1 := (cross_lt hr hx.1)
          have q2 := (cross_lt hr hy.1)
          have n1 : ¬ lessP (crossP d k) x := fun hh => by have := q1.1.2 hh; omega
          have n2 : ¬ lessP y (crossP d k) := fun hh => by have := q2.2.2 hh; omega
          have hcp := (cross_sp (a := d) (b := k) (by omega)).1
          have n3 : ¬ lessP x (crossP d k) := fun hh => by have := q1.2.2 hh; omega
          unfold lessP at n1 n2 n3 hl
          have e1 : x.1 * (crossP d k).2 = (crossP d k).1 * x.2 := by omega
          generalize crossP d k = q at *
          have e2 := Int.mul_pos (a := x.1 * y.2 - y.1 * x.2) (b := q.2) (by omega) hcp
          have e3 : 0 ≤ (y.1 * q.2 - q.1 * y.2) * x.2 := Int.mul_nonneg (by omega) (by have := hx.1; omega)
          have e4 : (x.1 * y.2 - y.1 * x.2) * q.2 = -((y.1 * q.2 - q.1 * y.2) * x.2) := by clear e2 e3; grind
          omega
        · refine hfe (Prod.ext ?_ hr)
          have a1 := (CtP_same hx.1 hr).1
          have a2 := (CtP_same hx.1 hr.symm).1
          have : ¬ d.1 < k.1 := fun hh => by have := a1.2 hh; omega
          have : ¬ k.1 < d.1 := fun hh => by have := a2.2 hh; omega
          omega
        · obtain ⟨y, hy, hl⟩ := Opn_up m1 m2 hx
          have := hle y hy d hdS
          have q1 := (cross_lt hr hx.1)
          have q2 := (cross_lt hr hy.1)
          have n1 : ¬ lessP (crossP k d) x := fun hh => by have := q1.1.2 hh; omega
          have n2 : ¬ lessP (crossP k d) y := fun hh => by have := q2.1.2 hh; omega
          have hcp := (cross_sp (a := k) (b := d) (by omega)).1
          have n3 : ¬ lessP x (crossP k d) := fun hh => by have := q1.2.2 hh; omega
          unfold lessP at n1 n2 n3 hl
          have e1 : x.1 * (crossP k d).2 = (crossP k d).1 * x.2 := by omega
          generalize crossP k d = q at *
          have e2 := Int.mul_pos (a := y.1 * x.2 - x.1 * y.2) (b := q.2) (by omega) hcp
          have e3 : 0 ≤ (q.1 * y.2 - y.1 * q.2) * x.2 := Int.mul_nonneg (by omega) (by have := hx.1; omega)
          have e4 : (y.1 * x.2 - x.1 * y.2) * q.2 = -((q.1 * y.2 - y.1 * q.2) * x.2) := by clear e2 e3; grind
          omega
  · rintro ⟨hk, p, hp, hal⟩
    obtain ⟨t, ht, h1⟩ := h.dom p hp k hk
    rcases hal t (h.sub t ht) with rfl | h2
    · exact ht
    · omega
theorem hull_chain (L : List (Int × Int)) : Chain L ((hullF L).map (ctL L)) := by
  obtain ⟨h1, h2⟩ := hull_HInv L
  refine ⟨fun c hc => ?_, ?_, ?_, fun p hp d hd => ?_⟩
  · obtain ⟨k, hk, rfl⟩ := List.mem_map.1 hc
    exact ctL_mem ((h2 k).1 (h1.sub k (List.mem_reverse.2 hk)))
  · have := Dsc_rev h1.dsc
    rw [← List.map_reverse, List.reverse_reverse] at this
    exact this
  · have := Chn_rev _ [] h1.chn trivial (by simp)
    rw [← List.map_reverse, List.reverse_reverse, List.append_nil] at this
    exact this
  · obtain ⟨i, hi, rfl⟩ := mem_ctL hd
    obtain ⟨t, ht, h3⟩ := h1.dom p hp i ((h2 i).2 hi)
    exact ⟨ctL L t, List.mem_map.2 ⟨t, List.mem_reverse.1 ht, rfl⟩, h3⟩
/-- the first one is a best one, up to the price at which it turns -/
theorem first_le {x : Int × Int} {As : List (Int × Int)} {p : Int × Int} (hp : 0 < p.2) (hA : Asc (x :: As)) (hC : ChA (x :: As)) (h : ∀ x1 T, As = x1 :: T → ¬ lessP (crossP x x1) p) : ∀ t ∈ x :: As, CtP p t ≤ CtP p x := by
  intro t ht
  rcases List.mem_cons.1 ht with rfl | ht
  · omega
  · match As, hA, hC, h, ht with
    | x1 :: T, hA, hC, h, ht =>
      have hA' := List.pairwise_cons.1 hA
      have h01 : x.2 < x1.2 := hA'.1 x1 (by simp)
      have hn := h x1 T rfl
      have h1 : CtP p x1 ≤ CtP p x := by
        have := (cross_lt h01 hp).1
        rcases Int.lt_or_le (CtP p x) (CtP p x1) with hh | hh
        · exact absurd (this.1 hh) hn
        · exact hh
      rcases List.mem_cons.1 ht with rfl | ht
      · exact h1
      · have := chn_lo T x1 p hp hA'.2 (ChA_tail hC) (fun d T' e => by
          subst e
          have h12 : x1.2 < d.2 := (List.pairwise_cons.1 hA'.2).1 d (by simp)
          have h4 := (above_less h01 h12).1 hC.1
          have p1 := (cross_sp (a := x) (b := x1) (by omega)).1
          have p2 := (cross_sp (a := x1) (b := d) (by omega)).1
          generalize crossP x x1 = y at *
          generalize crossP x1 d = z at *
          unfold lessP at *
          have e1 := Int.mul_pos (a := z.1 * y.2 - y.1 * z.2) (b := p.2) (by omega) hp
          have e2 : 0 ≤ (y.1 * p.2 - p.1 * y.2) * z.2 := Int.mul_nonneg (by omega) (by omega)
          have e3 : (z.1 * p.2 - p.1 * z.2) * y.2 = (z.1 * y.2 - y.1 * z.2) * p.2 + (y.1 * p.2 - p.1 * y.2) * z.2 := by clear e1 e2; grind
          have e4 : 0 < (z.1 * p.2 - p.1 * z.2) * y.2 := by omega
          have := mul_pos_of p1 e4
          omega) t ht
        omega
theorem less_tot {a b c : Int × Int} (ha : 0 < a.2) (hb : 0 < b.2) (hc : 0 < c.2) (h1 : lessP a b) (h2 : ¬ lessP c b) : lessP a c := by
  unfold lessP at *
  have e1 := Int.mul_pos (a := b.1 * a.2 - a.1 * b.2) (b := c.2) (by omega) hc
  have e2 : 0 ≤ (c.1 * b.2 - b.1 * c.2) * a.2 := Int.mul_nonneg (by omega) (by omega)
  have e3 : (c.1 * a.2 - a.1 * c.2) * b.2 = (b.1 * a.2 - a.1 * b.2) * c.2 + (c.1 * b.2 - b.1 * c.2) * a.2 := by clear e1 e2; grind
  have e4 : 0 < (c.1 * a.2 - a.1 * c.2) * b.2 := by omega
  have := mul_pos_of hb e4
  omega
def fairF (r : Int) : Option (Int × Int) → List (Int × Int) → Option (Int × Int)
  | _, [] => none
  | pv, b :: T => if r = b.2 then some (b.1, 1) else if r < b.2 then (match pv with | some a => some (lowP (a.1 * (b.2 - r) + b.1 * (r - a.2)) (b.2 - a.2)) | none => none) else fairF r (some b) T
/-- how a fair part comes about -/
inductive FairV (r : Int) (C : List (Int × Int)) : Int × Int → Prop
  | at (b : Int × Int) (h : b ∈ C) (hr : r = b.2) : FairV r C (b.1, 1)
  | mid (u : List (Int × Int)) (a b : Int × Int) (v : List (Int × Int)) (h : C = u ++ a :: b :: v) (h1 : a.2 < r) (h2 : r < b.2) : FairV r C (lowP (a.1 * (b.2 - r) + b.1 * (r - a.2)) (b.2 - a.2))
theorem fairF_sp (r : Int) (C : List (Int × Int)) (hA : Asc C) : ∀ (T u : List (Int × Int)) (pv : Option (Int × Int)), C = u ++ T → (pv = none ∧ u = [] ∨ ∃ a u', pv = some a ∧ u = u' ++ [a] ∧ a.2 < r) →
    (∀ v, fairF r pv T = some v → FairV r C v) ∧ ((u ≠ [] ∨ ∃ c ∈ T, c.2 ≤ r) → (∃ c ∈ T, r ≤ c.2) → fairF r pv T ≠ none) ∧ ((∀ c ∈ T, c.2 < r) → fairF r pv T = none) ∧ (u = [] → (∀ c ∈ T, r < c.2) → fairF r pv T = none)
  | [], u, pv, _, _ => ⟨fun v h => (by cases h), fun _ ⟨c, hc, _⟩ => (by simp at hc), fun _ => rfl, fun _ _ => rfl⟩
  | b :: T, u, pv, e, hpv => by
    unfold fairF
    by_cases h1 : r = b.2
    · rw [if_pos h1]
      refine ⟨fun v hv => ?_, fun _ _ h => (by cases h), fun h => ?_, fun _ h => ?_⟩
      · cases hv; exact .at b (by rw [e]; simp) h1
      · have := h b (by simp); omega
      · have := h b (by simp); omega
    · rw [if_neg h1]
      by_cases h2 : r < b.2
      · rw [if_pos h2]
        rcases hpv with ⟨rfl, rfl⟩ | ⟨a, u', rfl, rfl, ha⟩
        · refine ⟨fun v hv => (by cases hv), fun h3 _ => ?_, fun _ => rfl, fun _ _ => rfl⟩
          exfalso
          rcases h3 with h3 | ⟨c, hc, hcr⟩
          · exact h3 rfl
          · rw [e] at hA
            rcases List.mem_cons.1 hc with rfl | hc
            · omega
            · have := (List.pairwise_cons.1 hA).1 c hc; omega
        · refine ⟨fun v hv => ?_, fun _ _ h => (by cases h), fun h => ?_, fun h _ => (by simp at h)⟩
          · cases hv; exact .mid u' a b T (by rw [e]; simp) ha h2
          · have := h b (by simp); omega
      · rw [if_neg h2]
        obtain ⟨i1, i2, i3, i4⟩ := fairF_sp r C hA T (u ++ [b]) (some b) (by rw [e]; simp) (.inr ⟨b, u, rfl, rfl, by omega⟩)
        refine ⟨i1, fun _ ⟨c, hc, hrc⟩ => ?_, fun h => i3 fun c hc => h c (by simp [hc]), fun _ h => ?_⟩
        · refine i2 (.inl (by simp)) ?_
          rcases List.mem_cons.1 hc with rfl | hc
          · omega
          · exact ⟨c, hc, hrc⟩
        · have := h b (by simp); omega

theorem rate_ends {L C : List (Int × Int)} (h : Chain L C) {d : Int × Int} (hd : d ∈ L) : (∃ c ∈ C, c.2 ≤ d.2) ∧ (∃ c ∈ C, d.2 ≤ c.2) := by
  have hQ := eqs_srt L
  obtain ⟨lo, _, l2, l3⟩ := prices_lo hQ
  obtain ⟨hi, _, g2, g3⟩ := prices_hi hQ
  constructor
  · obtain ⟨c, hc, h1⟩ := h.dom lo l2.1 d hd
    refine ⟨c, hc, ?_⟩
    rcases Int.lt_or_le d.2 c.2 with h2 | h2
    · have hm : crossP d c ∈ eqs L := (eqs_mem L _).2 ⟨d, hd, c, h.sub c hc, by omega, rfl⟩
      have := cross_below h2 (l3 _ hm); omega
    · exact h2
  · obtain ⟨c, hc, h1⟩ := h.dom hi g2.1 d hd
    refine ⟨c, hc, ?_⟩
    rcases Int.lt_or_le c.2 d.2 with h2 | h2
    · have hm : crossP c d ∈ eqs L := (eqs_mem L _).2 ⟨c, h.sub c hc, d, hd, by omega, rfl⟩
      have := cross_above h2 (g3 _ hm); omega
    · exact h2
end Go.Proofs.Ytgnphlpoofaojaa
