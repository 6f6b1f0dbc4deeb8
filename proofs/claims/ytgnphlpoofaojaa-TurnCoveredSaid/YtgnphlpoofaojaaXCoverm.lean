/-
  Which contracts two others cover: the mathematics.
-/
import Derived.Test.YtgnphlpoofaojaaXBothm
namespace Go.Proofs.Ytgnphlpoofaojaa
open Go.V
theorem covG1_completeX {a b c lo hi q : Int × Int} (hlo : 0 < lo.2) (hhi : 0 < hi.2) (l : ∀ x : Int × Int, (x = a ∨ x = b) → c.2 < x.2 → CtP lo x < CtP lo c) (g : ∀ x : Int × Int, (x = a ∨ x = b) → x.2 < c.2 → CtP hi x < CtP hi c)
    (hab : a.2 ≤ b.2) (hq : a.2 ≠ b.2 → 0 < q.2 ∧ CtP q a = CtP q b) (h : covG1 a b c = false) : (CtP lo a < CtP lo c ∧ CtP lo b < CtP lo c) ∨ (CtP hi a < CtP hi c ∧ CtP hi b < CtP hi c) ∨ (a.2 ≠ b.2 ∧ CtP q a < CtP q c ∧ CtP q b < CtP q c) := by
  have same : ∀ (p x : Int × Int), 0 < p.2 → c.2 = x.2 → x.1 < c.1 → CtP p x < CtP p c := fun p x hp hx hl => (CtP_same hp hx.symm).1.2 hl
  unfold covG1 at h
  split at h
  · rename_i e
    rcases Int.lt_trichotomy c.2 a.2 with h1 | h1 | h1
    · exact .inl ⟨l a (.inl rfl) h1, l b (.inr rfl) (by omega)⟩
    · rw [Bool.and_eq_false_iff, decide_eq_false_iff_not, decide_eq_false_iff_not] at h
      rcases h with h | h
      · exact absurd h1 h
      · have : maxI a.1 b.1 < c.1 := by omega
        obtain ⟨h2, h3⟩ := maxI_lt.1 this
        exact .inl ⟨same lo a hlo h1 h2, same lo b hlo (by omega) h3⟩
    · exact .inr (.inl ⟨g a (.inl rfl) h1, g b (.inr rfl) (by omega)⟩)
  · rename_i ne
    split at h
    · rename_i h1
      rcases h1 with h1 | h1
      · exact .inl ⟨l a (.inl rfl) h1, l b (.inr rfl) (by omega)⟩
      · exact .inr (.inl ⟨g a (.inl rfl) (by omega), g b (.inr rfl) h1⟩)
    · split at h
      · rename_i e
        have hl : a.1 < c.1 := by have := of_decide_eq_false h; omega
        exact .inl ⟨same lo a hlo e hl, l b (.inr rfl) (by omega)⟩
      · split at h
        · rename_i e
          have hl : b.1 < c.1 := by have := of_decide_eq_false h; omega
          exact .inr (.inl ⟨g a (.inl rfl) (by omega), same hi b hhi e hl⟩)
        · rename_i n1 n2 n3
          simp only [aboveG, Bool.not_eq_false', decide_eq_true_eq] at h
          obtain ⟨s1, s3⟩ := hq ne
          refine .inr (.inr ⟨ne, ?_⟩)
          have e1 : 0 < ((c.1 - a.1) * (b.2 - c.2) - (b.1 - c.1) * (c.2 - a.2)) * q.2 := Int.mul_pos (by omega) s1
          have e2 : 0 < (CtP q c - CtP q a) * (b.2 - a.2) := by
            have : (CtP q c - CtP q a) * (b.2 - a.2) = ((c.1 - a.1) * (b.2 - c.2) - (b.1 - c.1) * (c.2 - a.2)) * q.2 := by unfold CtP at *; clear e1; grind
            omega
          have := mul_pos_of (by omega) e2
          omega
/-- the price at which two are worth the same, as it stands -/
def rawP (a b : Int × Int) : List (Int × Int) := if a.2 < b.2 then [(a.1 - b.1, b.2 - a.2)] else if b.2 < a.2 then [(b.1 - a.1, a.2 - b.2)] else []
def covX (c a b : Int × Int) : Bool := ([(-1000, 1), (1000, 1)] ++ rawP c a ++ rawP c b ++ rawP a b).all fun p => !decide (maxI (CtP p a) (CtP p b) < CtP p c)
def smC (p : Int × Int) : Prop := -12 ≤ p.1 ∧ p.1 ≤ 12 ∧ -3 ≤ p.2 ∧ p.2 ≤ 3
theorem rawP_pos {a b p : Int × Int} (h : p ∈ rawP a b) : 0 < p.2 := by
  unfold rawP at h
  split at h
  · simp at h; subst h; simp only; omega
  · split at h
    · simp at h; subst h; simp only; omega
    · simp at h
theorem covX_eq {a b c : Int × Int} (ha : smC a) (hb : smC b) (hc : smC c) : covX c a b = covG a b c := by
  unfold smC at ha hb hc
  have pos : ∀ p ∈ ([(-1000, 1), (1000, 1)] ++ rawP c a ++ rawP c b ++ rawP a b : List (Int × Int)), 0 < p.2 := fun p hp => by
    simp only [List.mem_append, List.mem_cons, List.not_mem_nil, or_false] at hp
    rcases hp with (((rfl | rfl) | h) | h) | h
    · decide
    · decide
    · exact rawP_pos h
    · exact rawP_pos h
    · exact rawP_pos h
  have key : ∀ gb : Bool, ((gb = true) → ∀ p : Int × Int, 0 < p.2 → ¬ (CtP p a < CtP p c ∧ CtP p b < CtP p c)) →
      ((gb = false) → ∃ p ∈ ([(-1000, 1), (1000, 1)] ++ rawP c a ++ rawP c b ++ rawP a b : List (Int × Int)), CtP p a < CtP p c ∧ CtP p b < CtP p c) → covX c a b = gb := by
    intro gb h1 h2
    cases gb with
    | true =>
      unfold covX
      rw [List.all_eq_true]
      intro p hp
      have := h1 rfl p (pos p hp)
      rw [Bool.not_eq_true', decide_eq_false_iff_not, maxI_lt]
      exact this
    | false =>
      obtain ⟨p, hp, h3⟩ := h2 rfl
      unfold covX
      rw [List.all_eq_false]
      refine ⟨p, hp, ?_⟩
      rw [Bool.not_eq_true', Bool.not_eq_false, decide_eq_true_eq, maxI_lt]
      exact h3
  unfold covG
  split
  · rename_i hlt
    refine key _ (fun h p hp hh => covG1_sound (by omega) hp h ⟨hh.2, hh.1⟩) (fun h => ?_)
    rcases covG1_completeX (lo := (-1000, 1)) (hi := (1000, 1)) (q := (b.1 - a.1, a.2 - b.2)) (by decide) (by decide) (fun x hx hr => by unfold CtP; rcases hx with rfl | rfl <;> simp only <;> omega) (fun x hx hr => by unfold CtP; rcases hx with rfl | rfl <;> simp only <;> omega)
      (by omega) (fun _ => ⟨by simp only; omega, by unfold CtP; simp only; grind⟩) h with h1 | h1 | ⟨_, h1⟩
    · exact ⟨(-1000, 1), by simp, h1.2, h1.1⟩
    · exact ⟨(1000, 1), by simp, h1.2, h1.1⟩
    · refine ⟨(b.1 - a.1, a.2 - b.2), ?_, h1.2, h1.1⟩
      have : rawP a b = [(b.1 - a.1, a.2 - b.2)] := by unfold rawP; rw [if_neg (by omega), if_pos hlt]
      rw [this]; simp
  · rename_i hge
    refine key _ (fun h p hp hh => covG1_sound (by omega) hp h hh) (fun h => ?_)
    rcases covG1_completeX (lo := (-1000, 1)) (hi := (1000, 1)) (q := (a.1 - b.1, b.2 - a.2)) (by decide) (by decide) (fun x hx hr => by unfold CtP; rcases hx with rfl | rfl <;> simp only <;> omega) (fun x hx hr => by unfold CtP; rcases hx with rfl | rfl <;> simp only <;> omega)
      (by omega) (fun _ => ⟨by simp only; omega, by unfold CtP; simp only; grind⟩) h with h1 | h1 | ⟨hne, h1⟩
    · exact ⟨(-1000, 1), by simp, h1⟩
    · exact ⟨(1000, 1), by simp, h1⟩
    · refine ⟨(a.1 - b.1, b.2 - a.2), ?_, h1⟩
      have : rawP a b = [(a.1 - b.1, b.2 - a.2)] := by unfold rawP; rw [if_pos (by omega)]
      rw [this]; simp
/-- a contract is covered by two others just if it has a like, or is not needed -/
theorem cov_sound {a b c p : Int × Int} (hp : 0 < p.2) (h : covG a b c = true) : ¬ (CtP p a < CtP p c ∧ CtP p b < CtP p c) := by
  unfold covG at h
  split at h
  · exact fun hh => covG1_sound (by omega) hp h ⟨hh.2, hh.1⟩
  · exact covG1_sound (by omega) hp h
theorem cov_self {a c : Int × Int} (h1 : c.2 = a.2) (h2 : c.1 ≤ a.1) : covG a a c = true := by
  unfold covG covG1
  rw [if_neg (by omega), if_pos rfl, Bool.and_eq_true, decide_eq_true_eq, decide_eq_true_eq]
  exact ⟨h1, le_maxI.2 (.inl h2)⟩
theorem cov_comm (a b c : Int × Int) : covG a b c = covG b a c := by
  rw [← cov_eq, ← cov_eq]
  have h : ∀ Q p, ((pricesQ Q).all fun p : Int × Int => !decide (maxI (CtP p a) (CtP p b) < CtP p c)) = true → p ∈ pricesQ Q → ¬ (CtP p a < CtP p c ∧ CtP p b < CtP p c) := fun Q p h hp => by
    have := List.all_eq_true.1 h p hp
    rw [Bool.not_eq_true', decide_eq_false_iff_not, maxI_lt] at this
    exact this
  rw [cov_eq, cov_eq]
  unfold covG
  rcases Int.lt_trichotomy a.2 b.2 with h1 | h1 | h1
  · rw [if_neg (by omega), if_pos h1]
  · rw [if_neg (by omega), if_neg (by omega)]
    unfold covG1
    rw [if_pos h1, if_pos h1.symm, h1]
    have : maxI a.1 b.1 = maxI b.1 a.1 := by unfold maxI; split <;> split <;> omega
    rw [this]
  · rw [if_pos h1, if_neg (by omega)]
theorem covered_iff (L : List (Int × Int)) (k : Nat) (hk : k < L.length) :
    (∃ i j, i < L.length ∧ j < L.length ∧ i ≠ k ∧ j ≠ k ∧ covG (ctL L i) (ctL L j) (ctL L k) = true) ↔ ((∃ i, i < L.length ∧ i ≠ k ∧ ctL L i = ctL L k) ∨ k ∉ hullF L) := by
  obtain ⟨h1, h2⟩ := hull_HInv L
  have hmem : k ∈ hullF L ↔ Alone (ctL L) L.length k := by rw [← List.mem_reverse, hull_mem h1 h2 k]
  constructor
  · rintro ⟨i, j, hi, hj, hik, hjk, hc⟩
    by_cases hkH : k ∈ hullF L
    · left
      obtain ⟨_, _, p, hp, ha⟩ := hmem.1 hkH
      have hn := cov_sound hp hc
      rcases ha i hi with e | e
      · exact ⟨i, hi, hik, e⟩
      · rcases ha j hj with e' | e'
        · exact ⟨j, hj, hjk, e'⟩
        · exact absurd ⟨e, e'⟩ hn
    · exact .inr hkH
  · rintro (⟨i, hi, hik, e⟩ | hkH)
    · exact ⟨i, i, hi, hi, hik, hik, cov_self (by rw [e]) (by rw [e]; omega)⟩
    · have hch := hull_chain L
      have hkL : ctL L k ∈ L := ctL_mem hk
      have hidx : ∀ c ∈ (hullF L).map (ctL L), ∃ i, i < L.length ∧ i ≠ k ∧ ctL L i = c := fun c hc => by
        obtain ⟨i, hi, rfl⟩ := List.mem_map.1 hc
        exact ⟨i, (h2 i).1 (h1.sub i (List.mem_reverse.2 hi)), fun e => hkH (by rw [← e]; exact hi), rfl⟩
      by_cases hs : ∃ c ∈ (hullF L).map (ctL L), c.2 = (ctL L k).2
      · obtain ⟨c, hc, hcr⟩ := hs
        obtain ⟨_, x, hx, ha⟩ := (chain_alone hch c).1 hc
        obtain ⟨i, hi, hik, rfl⟩ := hidx c hc
        refine ⟨i, i, hi, hi, hik, hik, cov_self hcr.symm ?_⟩
        rcases ha _ hkL with e | e
        · rw [e]; omega
        · have := (CtP_same hx hcr.symm).1.1 e; omega
      · have hF : fairF (ctL L k).2 none ((hullF L).map (ctL L)) ≠ none := by
          obtain ⟨s1, s2, s3, s4⟩ := fairF_sp (ctL L k).2 ((hullF L).map (ctL L)) hch.asc ((hullF L).map (ctL L)) [] none rfl (.inl ⟨rfl, rfl⟩)
          obtain ⟨c, hc, hcd⟩ := (rate_ends hch hkL).1
          obtain ⟨c', hc', hcd'⟩ := (rate_ends hch hkL).2
          exact s2 (.inr ⟨c, hc, by omega⟩) ⟨c', hc', by omega⟩
        cases hv : fairF (ctL L k).2 none ((hullF L).map (ctL L)) with
        | none => exact absurd hv hF
        | some v =>
          have hV := (fairF_sp (ctL L k).2 ((hullF L).map (ctL L)) hch.asc ((hullF L).map (ctL L)) [] none rfl (.inl ⟨rfl, rfl⟩)).1 v hv
          cases hV with
          | «at» b hb hr => exact absurd ⟨b, hb, hr.symm⟩ hs
          | mid u a b w e g1 g2 =>
            obtain ⟨i, hi, hik, ei⟩ := hidx a (by rw [e]; simp)
            obtain ⟨j, hj, hjk, ej⟩ := hidx b (by rw [e]; simp)
            refine ⟨i, j, hi, hj, hik, hjk, ?_⟩
            rw [ei, ej]
            rw [← cov_eq]
            unfold covR
            rw [List.all_eq_true]
            intro p hp
            have hp2 := (prices_red (eqs_srt _).2 p hp).1
            rw [Bool.not_eq_true', decide_eq_false_iff_not, maxI_lt]
            rintro ⟨n1, n2⟩
            -- at the price at which a and b are worth the same
            have hq2 := (cross_sp (a := a) (b := b) (by omega)).1
            have heq := cross_at (a := a) (b := b) (by omega)
            have hA := hch.asc
            have hC := hch.cha
            have sub : ∀ (u T : List (Int × Int)), Asc (u ++ T) → ChA (u ++ T) → Asc T ∧ ChA T := by
              intro u
              induction u with
              | nil => intro T a b; exact ⟨a, b⟩
              | cons z u ih => intro T a b; exact ih T (List.pairwise_cons.1 a).2 (ChA_tail b)
            have hd : Dsc ((hullF L).map (ctL L)).reverse := Asc_rev hA
            have hc : Chn ((hullF L).map (ctL L)).reverse := by simpa using ChA_rev _ [] hC trivial (by simp)
            have er : ((hullF L).map (ctL L)).reverse = (w.reverse ++ [b]) ++ a :: u.reverse := by rw [e]; simp
            rw [er] at hd hc
            obtain ⟨m1, m2, m3, m4, m5⟩ := chn_mid hd hc
            rw [e] at hA hC
            obtain ⟨s1, s2⟩ := sub u _ hA hC
            have hab : a.2 < b.2 := by omega
            have hlow : ∀ t ∈ u.reverse, CtP (crossP a b) t < CtP (crossP a b) a := m4 _ hq2 (fun z T e' => by
              have hzu : u = T.reverse ++ [z] := by rw [← List.reverse_reverse u, e']; simp
              rw [hzu, List.append_assoc] at hA hC
              obtain ⟨t1, t2⟩ := sub T.reverse _ hA hC
              have hza : z.2 < a.2 := (List.pairwise_cons.1 t1).1 a (by simp)
              exact (above_less hza hab).1 t2.1)
            have hhi := first_le (x := b) (As := w) hq2 (List.pairwise_cons.1 s1).2 (ChA_tail s2) (fun x1 T e' hl => by
              subst e'
              have hbx : b.2 < x1.2 := (List.pairwise_cons.1 (List.pairwise_cons.1 s1).2).1 x1 (by simp)
              exact less_asym ((above_less hab hbx).1 s2.1) hl)
            have hmax : ∀ t ∈ (hullF L).map (ctL L), CtP (crossP a b) t ≤ CtP (crossP a b) a := fun t ht => by
              rw [e] at ht
              rcases List.mem_append.1 ht with ht | ht
              · have := hlow t (by simpa using ht); omega
              · rcases List.mem_cons.1 ht with rfl | ht
                · omega
                · have := hhi t ht; omega
            obtain ⟨c', hc', hle⟩ := hch.dom _ hq2 _ hkL
            have hkq : CtP (crossP a b) (ctL L k) ≤ CtP (crossP a b) a := by have := hmax c' hc'; omega
            have hka : ¬ lessP (crossP a (ctL L k)) (crossP a b) := fun hh => by
              have := (cross_lt g1 hq2).1.2 hh; omega
            have hkb : ¬ lessP (crossP a b) (crossP (ctL L k) b) := fun hh => by
              have := (cross_lt g2 hq2).2.2 hh; omega
            have j1 := (cross_lt g1 hp2).1.1 n1
            have j2 := (cross_lt g2 hp2).2.1 n2
            have z1 := (cross_sp (a := a) (b := ctL L k) (by omega)).1
            have z2 := (cross_sp (a := ctL L k) (b := b) (by omega)).1
            have j3 : lessP (crossP a (ctL L k)) (crossP (ctL L k) b) := less_trans z1 hp2 z2 j1 j2
            exact hkb (by
              have : ¬ lessP (crossP a (ctL L k)) (crossP a b) := hka
              rcases Decidable.em (lessP (crossP a b) (crossP (ctL L k) b)) with hh | hh
              · exact hh
              · exfalso
                exact hka (less_tot z1 z2 hq2 j3 hh))
end Go.Proofs.Ytgnphlpoofaojaa
