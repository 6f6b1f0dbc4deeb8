/-
  Fair parts, and two books together: the mathematics.
-/
import Derived.Test.YtgnphlpoofaojaaUHullm
namespace Go.Proofs.Ytgnphlpoofaojaa
open Go.V
def AloneC (S : List (Int × Int)) (z : Int × Int) : Prop := z ∈ S ∧ ∃ p : Int × Int, 0 < p.2 ∧ ∀ d ∈ S, d = z ∨ CtP p d < CtP p z
structure Chain (S C : List (Int × Int)) : Prop where
  sub : ∀ c ∈ C, c ∈ S
  asc : Asc C
  cha : ChA C
  dom : ∀ p : Int × Int, 0 < p.2 → ∀ d ∈ S, ∃ c ∈ C, CtP p d ≤ CtP p c
theorem Asc_rev {T : List (Int × Int)} (h : Asc T) : Dsc T.reverse := by
  unfold Asc Dsc at *
  exact List.pairwise_reverse.2 h
theorem ChA_rev : ∀ (T U : List (Int × Int)), ChA T → Chn U → (∀ b T', T = b :: T' → ∀ c U', U = c :: U' → (∀ d T'', T' = d :: T'' → aboveG c b d = true) ∧ (∀ d U'', U' = d :: U'' → aboveG d c b = true)) → Chn (T.reverse ++ U)
  | [], U, _, hU, _ => by simpa using hU
  | b :: T, U, hT, hU, hb => by
    rw [List.reverse_cons, List.append_assoc, List.singleton_append]
    refine ChA_rev T (b :: U) (ChA_tail hT) ?_ ?_
    · match U, hU, hb with
      | [], _, _ => trivial
      | [_], _, _ => trivial
      | c :: d :: U', hU, hb => exact ⟨(hb b T rfl c (d :: U') rfl).2 d U' rfl, hU⟩
    · rintro a T' rfl c U' e
      obtain ⟨rfl, rfl⟩ := List.cons.inj e
      refine ⟨fun z T'' e => ?_, fun d U'' e => ?_⟩
      · subst e; exact hT.1
      · subst e; exact (hb b (a :: T') rfl d U'' rfl).1 a T' rfl
theorem chain_alone {S C : List (Int × Int)} (h : Chain S C) (k : Int × Int) : k ∈ C ↔ AloneC S k := by
  constructor
  · intro hk
    refine ⟨h.sub k hk, ?_⟩
    have hd : Dsc C.reverse := Asc_rev h.asc
    have hc : Chn C.reverse := by simpa using ChA_rev C [] h.cha trivial (by simp)
    obtain ⟨post, pre, e⟩ := List.append_of_mem (List.mem_reverse.2 hk)
    rw [e] at hd hc
    obtain ⟨m1, m2, m3, m4, m5⟩ := chn_mid hd hc
    have hopn : ∀ x, Opn pre k post.reverse x → ∀ t ∈ C, t = k ∨ CtP x t < CtP x k := fun x ⟨o1, o2, o3⟩ t ht => by
      have ht := List.mem_reverse.2 ht
      rw [e] at ht
      rcases List.mem_append.1 ht with ht | ht
      · exact .inr (m5 x o1 o3 _ ht)
      · rcases List.mem_cons.1 ht with rfl | ht
        · exact .inl rfl
        · exact .inr (m4 x o1 o2 _ ht)
    have hle : ∀ x, Opn pre k post.reverse x → ∀ d ∈ S, CtP x d ≤ CtP x k := fun x o d hd => by
      obtain ⟨t, ht, h1⟩ := h.dom x o.1 d hd
      rcases hopn x o t ht with rfl | h2
      · exact h1
      · omega
    obtain ⟨x, hx⟩ := Opn_ex m1 m2 m3
    refine ⟨x, hx.1, fun d hdS => ?_⟩
    by_cases hfe : d = k
    · exact .inl hfe
    · refine .inr ?_
      have h1 := hle x hx d hdS
      rcases Int.lt_or_eq_of_le h1 with h2 | h2
      · exact h2
      · exfalso
        rcases Int.lt_trichotomy d.2 k.2 with hr | hr | hr
        · obtain ⟨y, hy, hl⟩ := Opn_dn m1 m2 hx
          have := hle y hy d hdS
          have q1 := (cross_lt hr hx.1)
          have q2 := (cross_lt hr hy.1)
          have n1 : ¬ lessP (crossP d k) x := fun hh => by have := q1.1.2 hh; omega
          have n2 : ¬ lessP y (crossP d k) := fun hh => by have := q2.2.2 hh; omega
          have hcp := (cross_sp (a := d) (b := k) (by omega)).1
          have n3 : ¬ lessP x (crossP d k) := fun hh => by have := q1.2.2 hh; omega
          unfold lessP at n1 n2 n3 hl
          have e1 : x.1 * (crossP d k).2 = (crossP d k).1 * x.2 := by omega
          generalize crossP d k = q at *
          have e2 := Int.mul_pos (a := x.1 * y.2 - y.1 * x.2) (b := q.2) (by omega) hcp
          have e3 : 0 ≤ (y.1 * q.2 - q.1 * y.2) * x.2 := Int.mul_nonneg (by omega) (by have := hx.1; omega)
          have e4 : (x.1 * y.2 - y.1 * x.2) * q.2 = -((y.1 * q.2 - q.1 * y.2) * x.2) := by clear e2 e3; grind
          omega
        · refine hfe (Prod.ext ?_ hr)
          have a1 := (CtP_same hx.1 hr).1
          have a2 := (CtP_same hx.1 hr.symm).1
          have : ¬ d.1 < k.1 := fun hh => by have := a1.2 hh; omega
          have : ¬ k.1 < d.1 := fun hh => by have := a2.2 hh; omega
          omega
        · obtain ⟨y, hy, hl⟩ := Opn_up m1 m2 hx
          have := hle y hy d hdS
          have q1 := (cross_lt hr hx.1)
          have q2 := (cross_lt hr hy.1)
          have n1 : ¬ lessP (crossP k d) x := fun hh => by have := q1.1.2 hh; omega
          have n2 : ¬ lessP (crossP k d) y := fun hh => by have := q2.1.2 hh; omega
          have hcp := (cross_sp (a := k) (b := d) (by omega)).1
          have n3 : ¬ lessP x (crossP k d) := fun hh => by have := q1.2.2 hh; omega
          unfold lessP at n1 n2 n3 hl
          have e1 : x.1 * (crossP k d).2 = (crossP k d).1 * x.2 := by omega
          generalize crossP k d = q at *
          have e2 := Int.mul_pos (a := y.1 * x.2 - x.1 * y.2) (b := q.2) (by omega) hcp
          have e3 : 0 ≤ (q.1 * y.2 - y.1 * q.2) * x.2 := Int.mul_nonneg (by omega) (by have := hx.1; omega)
          have e4 : (y.1 * x.2 - x.1 * y.2) * q.2 = -((q.1 * y.2 - y.1 * q.2) * x.2) := by clear e2 e3; grind
          omega
  · rintro ⟨hk, p, hp, hal⟩
    obtain ⟨t, ht, h1⟩ := h.dom p hp k hk
    rcases hal t (h.sub t ht) with rfl | h2
    · exact ht
    · omega
theorem chain_uniq {S C D : List (Int × Int)} (h1 : Chain S C) (h2 : Chain S D) : C = D :=
  srt_uniq (fun (a b : Int × Int) => a.2 < b.2) (fun a => by omega) (fun a b h => by omega) C D h1.asc h2.asc fun x => by rw [chain_alone h1, chain_alone h2]
theorem hull_chain (L : List (Int × Int)) : Chain L ((hullF L).map (ctL L)) := by
  obtain ⟨h1, h2⟩ := hull_HInv L
  refine ⟨fun c hc => ?_, ?_, ?_, fun p hp d hd => ?_⟩
  · obtain ⟨k, hk, rfl⟩ := List.mem_map.1 hc
    exact ctL_mem ((h2 k).1 (h1.sub k (List.mem_reverse.2 hk)))
  · have := Dsc_rev h1.dsc
    rw [← List.map_reverse, List.reverse_reverse] at this
    exact this
  · have := Chn_rev _ [] h1.chn trivial (by simp)
    rw [← List.map_reverse, List.reverse_reverse, List.append_nil] at this
    exact this
  · obtain ⟨i, hi, rfl⟩ := mem_ctL hd
    obtain ⟨t, ht, h3⟩ := h1.dom p hp i ((h2 i).2 hi)
    exact ⟨ctL L t, List.mem_map.2 ⟨t, List.mem_reverse.1 ht, rfl⟩, h3⟩
def addP (a b : Int × Int) : Int × Int := (a.1 + b.1, a.2 + b.2)
theorem Ct_add (p a b : Int × Int) : CtP p (addP a b) = CtP p a + CtP p b := by unfold CtP addP; simp only; grind
end Go.Proofs.Ytgnphlpoofaojaa
