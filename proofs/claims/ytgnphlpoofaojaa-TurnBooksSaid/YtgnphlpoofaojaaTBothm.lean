/-
  Fair parts, and two books together: the mathematics.
-/
import Derived.Test.YtgnphlpoofaojaaTHullm
namespace Go.Proofs.Ytgnphlpoofaojaa
open Go.V
def AloneC (S : List (Int × Int)) (z : Int × Int) : Prop := z ∈ S ∧ ∃ p : Int × Int, 0 < p.2 ∧ ∀ d ∈ S, d = z ∨ CtP p d < CtP p z
structure Chain (S C : List (Int × Int)) : Prop where
  sub : ∀ c ∈ C, c ∈ S
  asc : Asc C
  cha : ChA C
  dom : ∀ p : Int × Int, 0 < p.2 → ∀ d ∈ S, ∃ c ∈ C, CtP p d ≤ CtP p c
theorem Asc_rev {T : List (Int × Int)} (h : Asc T) : Dsc T.reverse := by
  unfold Asc Dsc at *
  exact List.pairwise_reverse.2 h
theorem ChA_rev : ∀ (T U : List (Int × Int)), ChA T → Chn U → (∀ b T', T = b :: T' → ∀ c U', U = c :: U' → (∀ d T'', T' = d :: T'' → aboveG c b d = true) ∧ (∀ d U'', U' = d :: U'' → aboveG d c b = true)) → Chn (T.reverse ++ U)
  | [], U, _, hU, _ => by simpa using hU
  | b :: T, U, hT, hU, hb => by
    rw [List.reverse_cons, List.append_assoc, List.singleton_append]
    refine ChA_rev T (b :: U) (ChA_tail hT) ?_ ?_
    · match U, hU, hb with
      | [], _, _ => trivial
      | [_], _, _ => trivial
      | c :: d :: U', hU, hb => exact ⟨(hb b T rfl c (d :: U') rfl).2 d U' rfl, hU⟩
    · rintro a T' rfl c U' e
      obtain ⟨rfl, rfl⟩ := List.cons.inj e
      refine ⟨fun z T'' e => ?_, fun d U'' e => ?_⟩
      · subst e; exact hT.1
      · subst e; exact (hb b (a :: T') rfl d U'' rfl).1 a T' rfl
theorem chain_alone {S C : List (Int × Int)} (h : Chain S C) (k : Int × Int) : k ∈ C ↔ AloneC S k := by
  constructor
  · intro hk
    refine ⟨h.sub k hk, ?_⟩
    have hd : Dsc C.reverse := Asc_rev h.asc
    have hc : Chn C.reverse := by simpa using ChA_rev C [] h.cha trivial (by simp)
    obtain ⟨post, pre, e⟩ := List.append_of_mem (List.mem_reverse.2 hk)
    rw [e] at hd hc
    obtain ⟨m1, m2, m3, m4, m5⟩ := chn_mid hd hc
    have hopn : ∀ x, Opn pre k post.reverse x → ∀ t ∈ C, t = k ∨ CtP x t < CtP x k := fun x ⟨o1, o2, o3⟩ t ht => by
      have ht := List.mem_reverse.2 ht
      rw [e] at ht
      rcases List.mem_append.1 ht with ht | ht
      · exact .inr (m5 x o1 o3 _ ht)
      · rcases List.mem_cons.1 ht with rfl | ht
        · exact .inl rfl
        · exact .inr (m4 x o1 o2 _ ht)
    have hle : ∀ x, Opn pre k post.reverse x → ∀ d ∈ S, CtP x d ≤ CtP x k := fun x o d hd => by
      obtain ⟨t, ht, h1⟩ := h.dom x o.1 d hd
      rcases hopn x o t ht with rfl | h2
      · exact h1
      · omega
    obtain ⟨x, hx⟩ := Opn_ex m1 m2 m3
    refine ⟨x, hx.1, fun d hdS => ?_⟩
    by_cases hfe : d = k
    · exact .inl hfe
    · refine .inr ?_
      have h1 := hle x hx d hdS
      rcases Int.lt_or_eq_of_le h1 with h2 | h2
      · exact h2
      · exfalso
        rcases Int.lt_trichotomy d.2 k.2 with hr | hr | hr
        · obtain ⟨y, hy, hl⟩ := Opn_dn m1 m2 hx
          have := hle y hy d hdS
          have q1 := (cross_lt hr hx.1)
          have q2 := (cross_lt hr hy.1)
          have n1 : ¬ lessP (crossP d k) x := fun hh => by have := q1.1.2 hh; omega
          have n2 : ¬ lessP y (crossP d k) := fun hh => by have := q2.2.2 hh; omega
          have hcp := (cross_sp (a := d) (b := k) (by omega)).1
          have n3 : ¬ lessP x (crossP d k) := fun hh => by have := q1.2.2 hh; omega
          unfold lessP at n1 n2 n3 hl
          have e1 : x.1 * (crossP d k).2 = (crossP d k).1 * x.2 := by omega
          generalize crossP d k = q at *
          have e2 := Int.mul_pos (a := x.1 * y.2 - y.1 * x.2) (b := q.2) (by omega) hcp
          have e3 : 0 ≤ (y.1 * q.2 - q.1 * y.2) * x.2 := Int.mul_nonneg (by omega) (by have := hx.1; omega)
          have e4 : (x.1 * y.2 - y.1 * x.2) * q.2 = -((y.1 * q.2 - q.1 * y.2) * x.2) := by clear e2 e3; grind
          omega
        · refine hfe (Prod.ext ?_ hr)
          have a1 := (CtP_same hx.1 hr).1
          have a2 := (CtP_same hx.1 hr.symm).1
          have : ¬ d.1 < k.1 := fun hh => by have := a1.2 hh; omega
          have : ¬ k.1 < d.1 := fun hh => by have := a2.2 hh; omega
          omega
        · obtain ⟨y, hy, hl⟩ := Opn_up m1 m2 hx
          have := hle y hy d hdS
          have q1 := (cross_lt hr hx.1)
          have q2 := (cross_lt hr hy.1)
          have n1 : ¬ lessP (crossP k d) x := fun hh => by have := q1.1.2 hh; omega
          have n2 : ¬ lessP (crossP k d) y := fun hh => by have := q2.1.2 hh; omega
          have hcp := (cross_sp (a := k) (b := d) (by omega)).1
          have n3 : ¬ lessP x (crossP k d) := fun hh => by have := q1.2.2 hh; omega
          unfold lessP at n1 n2 n3 hl
          have e1 : x.1 * (crossP k d).2 = (crossP k d).1 * x.2 := by omega
          generalize crossP k d = q at *
          have e2 := Int.mul_pos (a := y.1 * x.2 - x.1 * y.2) (b := q.2) (by omega) hcp
          have e3 : 0 ≤ (q.1 * y.2 - y.1 * q.2) * x.2 := Int.mul_nonneg (by omega) (by have := hx.1; omega)
          have e4 : (y.1 * x.2 - x.1 * y.2) * q.2 = -((q.1 * y.2 - y.1 * q.2) * x.2) := by clear e2 e3; grind
          omega
  · rintro ⟨hk, p, hp, hal⟩
    obtain ⟨t, ht, h1⟩ := h.dom p hp k hk
    rcases hal t (h.sub t ht) with rfl | h2
    · exact ht
    · omega
theorem chain_uniq {S C D : List (Int × Int)} (h1 : Chain S C) (h2 : Chain S D) : C = D :=
  srt_uniq (fun (a b : Int × Int) => a.2 < b.2) (fun a => by omega) (fun a b h => by omega) C D h1.asc h2.asc fun x => by rw [chain_alone h1, chain_alone h2]
theorem hull_chain (L : List (Int × Int)) : Chain L ((hullF L).map (ctL L)) := by
  obtain ⟨h1, h2⟩ := hull_HInv L
  refine ⟨fun c hc => ?_, ?_, ?_, fun p hp d hd => ?_⟩
  · obtain ⟨k, hk, rfl⟩ := List.mem_map.1 hc
    exact ctL_mem ((h2 k).1 (h1.sub k (List.mem_reverse.2 hk)))
  · have := Dsc_rev h1.dsc
    rw [← List.map_reverse, List.reverse_reverse] at this
    exact this
  · have := Chn_rev _ [] h1.chn trivial (by simp)
    rw [← List.map_reverse, List.reverse_reverse, List.append_nil] at this
    exact this
  · obtain ⟨i, hi, rfl⟩ := mem_ctL hd
    obtain ⟨t, ht, h3⟩ := h1.dom p hp i ((h2 i).2 hi)
    exact ⟨ctL L t, List.mem_map.2 ⟨t, List.mem_reverse.1 ht, rfl⟩, h3⟩
def addP (a b : Int × Int) : Int × Int := (a.1 + b.1, a.2 + b.2)
theorem Ct_add (p a b : Int × Int) : CtP p (addP a b) = CtP p a + CtP p b := by unfold CtP addP; simp only; grind
def mergeC : List (Int × Int) → List (Int × Int) → List (Int × Int)
  | x :: x1 :: As, y :: y1 :: Bs =>
    if lessP (crossP x x1) (crossP y y1) then addP x y :: mergeC (x1 :: As) (y :: y1 :: Bs)
    else if lessP (crossP y y1) (crossP x x1) then addP x y :: mergeC (x :: x1 :: As) (y1 :: Bs)
    else addP x y :: mergeC (x1 :: As) (y1 :: Bs)
  | x :: x1 :: As, [y] => addP x y :: mergeC (x1 :: As) [y]
  | [x], y :: y1 :: Bs => addP x y :: mergeC [x] (y1 :: Bs)
  | [x], [y] => [addP x y]
  | _, _ => []
termination_by a b => a.length + b.length
/-- the first one is a best one, up to the price at which it turns -/
theorem first_le {x : Int × Int} {As : List (Int × Int)} {p : Int × Int} (hp : 0 < p.2) (hA : Asc (x :: As)) (hC : ChA (x :: As)) (h : ∀ x1 T, As = x1 :: T → ¬ lessP (crossP x x1) p) : ∀ t ∈ x :: As, CtP p t ≤ CtP p x := by
  intro t ht
  rcases List.mem_cons.1 ht with rfl | ht
  · omega
  · match As, hA, hC, h, ht with
    | x1 :: T, hA, hC, h, ht =>
      have hA' := List.pairwise_cons.1 hA
      have h01 : x.2 < x1.2 := hA'.1 x1 (by simp)
      have hn := h x1 T rfl
      have h1 : CtP p x1 ≤ CtP p x := by
        have := (cross_lt h01 hp).1
        rcases Int.lt_or_le (CtP p x) (CtP p x1) with hh | hh
        · exact absurd (this.1 hh) hn
        · exact hh
      rcases List.mem_cons.1 ht with rfl | ht
      · exact h1
      · have := chn_lo T x1 p hp hA'.2 (ChA_tail hC) (fun d T' e => by
          subst e
          have h12 : x1.2 < d.2 := (List.pairwise_cons.1 hA'.2).1 d (by simp)
          have h4 := (above_less h01 h12).1 hC.1
          have p1 := (cross_sp (a := x) (b := x1) (by omega)).1
          have p2 := (cross_sp (a := x1) (b := d) (by omega)).1
          generalize crossP x x1 = y at *
          generalize crossP x1 d = z at *
          unfold lessP at *
          have e1 := Int.mul_pos (a := z.1 * y.2 - y.1 * z.2) (b := p.2) (by omega) hp
          have e2 : 0 ≤ (y.1 * p.2 - p.1 * y.2) * z.2 := Int.mul_nonneg (by omega) (by omega)
          have e3 : (z.1 * p.2 - p.1 * z.2) * y.2 = (z.1 * y.2 - y.1 * z.2) * p.2 + (y.1 * p.2 - p.1 * y.2) * z.2 := by clear e1 e2; grind
          have e4 : 0 < (z.1 * p.2 - p.1 * z.2) * y.2 := by omega
          have := mul_pos_of p1 e4
          omega) t ht
        omega
theorem next_gt {x x1 : Int × Int} {p : Int × Int} (h01 : x.2 < x1.2) (hp : 0 < p.2) (h : lessP (crossP x x1) p) : CtP p x < CtP p x1 := (cross_lt h01 hp).1.2 h
def GT (t : Int × Int) (A : List (Int × Int)) : Prop := ∀ x x1 T, A = x :: x1 :: T → lessP t (crossP x x1)
theorem GT_tail {x x1 : Int × Int} {T : List (Int × Int)} (hA : Asc (x :: x1 :: T)) (hC : ChA (x :: x1 :: T)) : GT (crossP x x1) (x1 :: T) := by
  rintro a b T' e
  obtain ⟨rfl, rfl⟩ := List.cons.inj e
  have h01 : x.2 < x1.2 := (List.pairwise_cons.1 hA).1 x1 (by simp)
  have h12 : x1.2 < b.2 := (List.pairwise_cons.1 (List.pairwise_cons.1 hA).2).1 b (by simp)
  exact (above_less h01 h12).1 hC.1
/-- where sums turn -/
theorem cross_add_l {x x1 y : Int × Int} (h : x.2 < x1.2) : crossP (addP x y) (addP x1 y) = crossP x x1 := by
  unfold crossP addP
  simp only
  congr 1 <;> omega
theorem cross_add_r {x y y1 : Int × Int} (h : y.2 < y1.2) : crossP (addP x y) (addP x y1) = crossP y y1 := by
  unfold crossP addP
  simp only
  congr 1 <;> omega
theorem cross_add_b {x x1 y y1 : Int × Int} (h1 : x.2 < x1.2) (h2 : y.2 < y1.2) (h : crossP x x1 = crossP y y1) : crossP (addP x y) (addP x1 y1) = crossP x x1 := by
  obtain ⟨s1, s2⟩ := cross_sp (a := x) (b := x1) (by omega)
  obtain ⟨t1, t2⟩ := cross_sp (a := y) (b := y1) (by omega)
  rw [← h] at t1 t2
  have hr : Red (crossP x x1) := low_red _ _ (by omega)
  have hr2 : Red (crossP (addP x y) (addP x1 y1)) := low_red _ _ (by unfold addP; simp only; omega)
  obtain ⟨u1, u2⟩ := cross_sp (a := addP x y) (b := addP x1 y1) (by unfold addP; simp only; omega)
  unfold addP at u2
  simp only at u2
  generalize crossP x x1 = q at *
  rw [show crossP (addP x y) (addP x1 y1) = crossP ((x.1 + y.1, x.2 + y.2)) ((x1.1 + y1.1, x1.2 + y1.2)) from rfl] at *
  generalize crossP ((x.1 + y.1, x.2 + y.2)) ((x1.1 + y1.1, x1.2 + y1.2)) = r at *
  have hk : (r.1 * q.2 - q.1 * r.2) * ((x1.2 - x.2) + (y1.2 - y.2)) = 0 := by grind
  have hz : r.1 * q.2 - q.1 * r.2 = 0 := by
    rcases Int.mul_eq_zero.1 hk with h | h
    · exact h
    · omega
  exact red_uniq hr2 hr (by unfold lessP; omega) (by unfold lessP; omega)
structure MInv (t : Int × Int) (A B M : List (Int × Int)) : Prop where
  hd : ∀ x As y Bs, A = x :: As → B = y :: Bs → ∃ M', M = addP x y :: M'
  asc : Asc M
  cha : ChA M
  gt : GT t M
  sub : ∀ z ∈ M, ∃ x ∈ A, ∃ y ∈ B, z = addP x y
  dom : ∀ p : Int × Int, 0 < p.2 → ∃ z ∈ M, ∀ x ∈ A, ∀ y ∈ B, CtP p x + CtP p y ≤ CtP p z
theorem merge_step {t c z z1 : Int × Int} {M' : List (Int × Int)} (ht : lessP t c) (hz : z.2 < z1.2) (hc : crossP z z1 = c) (hA : Asc (z1 :: M')) (hC : ChA (z1 :: M')) (hG : GT c (z1 :: M')) :
    Asc (z :: z1 :: M') ∧ ChA (z :: z1 :: M') ∧ GT t (z :: z1 :: M') := by
  refine ⟨?_, ?_, ?_⟩
  · refine List.pairwise_cons.2 ⟨fun w hw => ?_, hA⟩
    rcases List.mem_cons.1 hw with rfl | hw
    · exact hz
    · have := (List.pairwise_cons.1 hA).1 w hw; omega
  · match M', hA, hC, hG with
    | [], _, _, _ => trivial
    | z2 :: M', hA, hC, hG =>
      have h12 : z1.2 < z2.2 := (List.pairwise_cons.1 hA).1 z2 (by simp)
      exact ⟨(above_less hz h12).2 (by rw [hc]; exact hG z1 z2 M' rfl), hC⟩
  · rintro a b T e
    simp only [List.cons.injEq] at e
    obtain ⟨rfl, rfl, rfl⟩ := e
    rw [hc]; exact ht
theorem merge_sp : ∀ (n : Nat) (A B : List (Int × Int)) (t : Int × Int), A.length + B.length = n → A ≠ [] → B ≠ [] → Asc A → ChA A → Asc B → ChA B → GT t A → GT t B → MInv t A B (mergeC A B)
  | n, [], B, t, _, h, _, _, _, _, _, _, _ => absurd rfl h
  | n, A, [], t, _, _, h, _, _, _, _, _, _ => absurd rfl h
  | n, [x], [y], t, _, _, _, _, _, _, _, _, _ => by
    rw [mergeC]
    refine ⟨fun _ _ _ _ e1 e2 => ?_, by simp [Asc], trivial, by rintro a b T e; simp at e, fun z hz => ⟨x, by simp, y, by simp, by simpa using hz⟩, fun p _ => ⟨addP x y, by simp, fun x' hx' y' hy' => ?_⟩⟩
    · obtain ⟨rfl, rfl⟩ := List.cons.inj e1
      obtain ⟨rfl, rfl⟩ := List.cons.inj e2
      exact ⟨_, rfl⟩
    · simp at hx' hy'; subst hx'; subst hy'; rw [Ct_add]; omega
  | n, x :: x1 :: As, [y], t, hn, _, _, hA, cA, hB, cB, gA, gB => by
    have hA' := List.pairwise_cons.1 hA
    have h01 : x.2 < x1.2 := hA'.1 x1 (by simp)
    have gc := gA x x1 As rfl
    obtain ⟨i1, i2, i3, i4, i5, i6⟩ := merge_sp (n - 1) (x1 :: As) [y] (crossP x x1) (by simp at hn ⊢; omega) (by simp) (by simp) hA'.2 (ChA_tail cA) hB cB (GT_tail hA cA) (by rintro a b T e; simp at e)
    rw [mergeC]
    obtain ⟨M', e⟩ := i1 x1 As y [] rfl rfl
    rw [e] at i2 i3 i4 i5 i6 ⊢
    obtain ⟨s1, s2, s3⟩ := merge_step gc (by unfold addP; simp only; omega) (cross_add_l h01) i2 i3 i4
    refine ⟨fun _ _ _ _ e1 e2 => ?_, s1, s2, s3, fun z hz => ?_, fun p hp => ?_⟩
    · obtain ⟨rfl, _⟩ := List.cons.inj e1
      obtain ⟨rfl, _⟩ := List.cons.inj e2
      exact ⟨_, rfl⟩
    · rcases List.mem_cons.1 hz with rfl | hz
      · exact ⟨x, by simp, y, by simp, rfl⟩
      · obtain ⟨a, ha, b, hb, e⟩ := i5 z hz
        exact ⟨a, by simp [List.mem_cons.1 ha], b, hb, e⟩
    · by_cases hl : lessP (crossP x x1) p
      · obtain ⟨z, hz, h⟩ := i6 p hp
        have := next_gt h01 hp hl
        refine ⟨z, by simp [List.mem_cons.1 hz], fun x' hx' y' hy' => ?_⟩
        rcases List.mem_cons.1 hx' with rfl | hx'
        · have := h x1 (by simp) y' hy'; omega
        · exact h x' hx' y' hy'
      · refine ⟨addP x y, by simp, fun x' hx' y' hy' => ?_⟩
        have := first_le hp hA cA (fun a T e => by obtain ⟨rfl, rfl⟩ := List.cons.inj e; exact hl) x' hx'
        simp at hy'; subst hy'
        rw [Ct_add]; omega
  | n, [x], y :: y1 :: Bs, t, hn, _, _, hA, cA, hB, cB, gA, gB => by
    have hB' := List.pairwise_cons.1 hB
    have h01 : y.2 < y1.2 := hB'.1 y1 (by simp)
    have gc := gB y y1 Bs rfl
    obtain ⟨i1, i2, i3, i4, i5, i6⟩ := merge_sp (n - 1) [x] (y1 :: Bs) (crossP y y1) (by simp at hn ⊢; omega) (by simp) (by simp) hA cA hB'.2 (ChA_tail cB) (by rintro a b T e; simp at e) (GT_tail hB cB)
    rw [mergeC]
    obtain ⟨M', e⟩ := i1 x [] y1 Bs rfl rfl
    rw [e] at i2 i3 i4 i5 i6 ⊢
    obtain ⟨s1, s2, s3⟩ := merge_step gc (by unfold addP; simp only; omega) (cross_add_r h01) i2 i3 i4
    refine ⟨fun _ _ _ _ e1 e2 => ?_, s1, s2, s3, fun z hz => ?_, fun p hp => ?_⟩
    · obtain ⟨rfl, _⟩ := List.cons.inj e1
      obtain ⟨rfl, _⟩ := List.cons.inj e2
      exact ⟨_, rfl⟩
    · rcases List.mem_cons.1 hz with rfl | hz
      · exact ⟨x, by simp, y, by simp, rfl⟩
      · obtain ⟨a, ha, b, hb, e⟩ := i5 z hz
        exact ⟨a, ha, b, by simp [List.mem_cons.1 hb], e⟩
    · by_cases hl : lessP (crossP y y1) p
      · obtain ⟨z, hz, h⟩ := i6 p hp
        have := next_gt h01 hp hl
        refine ⟨z, by simp [List.mem_cons.1 hz], fun x' hx' y' hy' => ?_⟩
        rcases List.mem_cons.1 hy' with rfl | hy'
        · have := h x' hx' y1 (by simp); omega
        · exact h x' hx' y' hy'
      · refine ⟨addP x y, by simp, fun x' hx' y' hy' => ?_⟩
        have := first_le hp hB cB (fun a T e => by obtain ⟨rfl, rfl⟩ := List.cons.inj e; exact hl) y' hy'
        simp at hx'; subst hx'
        rw [Ct_add]; omega
  | n, x :: x1 :: As, y :: y1 :: Bs, t, hn, _, _, hA, cA, hB, cB, gA, gB => by
    have hA' := List.pairwise_cons.1 hA
    have hB' := List.pairwise_cons.1 hB
    have hx01 : x.2 < x1.2 := hA'.1 x1 (by simp)
    have hy01 : y.2 < y1.2 := hB'.1 y1 (by simp)
    have gcx := gA x x1 As rfl
    have gcy := gB y y1 Bs rfl
    have px := (cross_sp (a := x) (b := x1) (by omega)).1
    have py := (cross_sp (a := y) (b := y1) (by omega)).1
    have fx : ∀ p : Int × Int, 0 < p.2 → ¬ lessP (crossP x x1) p → ∀ x' ∈ x :: x1 :: As, CtP p x' ≤ CtP p x := fun p hp hl => first_le hp hA cA (fun a T e => by obtain ⟨rfl, rfl⟩ := List.cons.inj e; exact hl)
    have fy : ∀ p : Int × Int, 0 < p.2 → ¬ lessP (crossP y y1) p → ∀ y' ∈ y :: y1 :: Bs, CtP p y' ≤ CtP p y := fun p hp hl => first_le hp hB cB (fun a T e => by obtain ⟨rfl, rfl⟩ := List.cons.inj e; exact hl)
    rw [mergeC]
    by_cases c1 : lessP (crossP x x1) (crossP y y1)
    · rw [if_pos c1]
      obtain ⟨i1, i2, i3, i4, i5, i6⟩ := merge_sp (n - 1) (x1 :: As) (y :: y1 :: Bs) (crossP x x1) (by simp at hn ⊢; omega) (by simp) (by simp) hA'.2 (ChA_tail cA) hB cB (GT_tail hA cA) (by
        rintro a b T e
        simp only [List.cons.injEq] at e
        obtain ⟨rfl, rfl, rfl⟩ := e
        exact c1)
      obtain ⟨M', e⟩ := i1 x1 As y (y1 :: Bs) rfl rfl
      rw [e] at i2 i3 i4 i5 i6 ⊢
      obtain ⟨s1, s2, s3⟩ := merge_step gcx (by unfold addP; simp only; omega) (cross_add_l hx01) i2 i3 i4
      refine ⟨fun _ _ _ _ e1 e2 => ?_, s1, s2, s3, fun z hz => ?_, fun p hp => ?_⟩
      · obtain ⟨rfl, _⟩ := List.cons.inj e1
        obtain ⟨rfl, _⟩ := List.cons.inj e2
        exact ⟨_, rfl⟩
      · rcases List.mem_cons.1 hz with rfl | hz
        · exact ⟨x, by simp, y, by simp, rfl⟩
        · obtain ⟨a, ha, b, hb, e⟩ := i5 z hz
          exact ⟨a, by simp [List.mem_cons.1 ha], b, hb, e⟩
      · by_cases hl : lessP (crossP x x1) p
        · obtain ⟨z, hz, h⟩ := i6 p hp
          have := next_gt hx01 hp hl
          refine ⟨z, by simp [List.mem_cons.1 hz], fun x' hx' y' hy' => ?_⟩
          rcases List.mem_cons.1 hx' with rfl | hx'
          · have := h x1 (by simp) y' hy'; omega
          · exact h x' hx' y' hy'
        · have hly : ¬ lessP (crossP y y1) p := fun hh => hl (less_trans px py hp c1 hh)
          refine ⟨addP x y, by simp, fun x' hx' y' hy' => ?_⟩
          have := fx p hp hl x' hx'
          have := fy p hp hly y' hy'
          rw [Ct_add]; omega
    · rw [if_neg c1]
      by_cases c2 : lessP (crossP y y1) (crossP x x1)
      · rw [if_pos c2]
        obtain ⟨i1, i2, i3, i4, i5, i6⟩ := merge_sp (n - 1) (x :: x1 :: As) (y1 :: Bs) (crossP y y1) (by simp at hn ⊢; omega) (by simp) (by simp) hA cA hB'.2 (ChA_tail cB) (by
          rintro a b T e
          simp only [List.cons.injEq] at e
          obtain ⟨rfl, rfl, rfl⟩ := e
          exact c2) (GT_tail hB cB)
        obtain ⟨M', e⟩ := i1 x (x1 :: As) y1 Bs rfl rfl
        rw [e] at i2 i3 i4 i5 i6 ⊢
        obtain ⟨s1, s2, s3⟩ := merge_step gcy (by unfold addP; simp only; omega) (cross_add_r hy01) i2 i3 i4
        refine ⟨fun _ _ _ _ e1 e2 => ?_, s1, s2, s3, fun z hz => ?_, fun p hp => ?_⟩
        · obtain ⟨rfl, _⟩ := List.cons.inj e1
          obtain ⟨rfl, _⟩ := List.cons.inj e2
          exact ⟨_, rfl⟩
        · rcases List.mem_cons.1 hz with rfl | hz
          · exact ⟨x, by simp, y, by simp, rfl⟩
          · obtain ⟨a, ha, b, hb, e⟩ := i5 z hz
            exact ⟨a, ha, b, by simp [List.mem_cons.1 hb], e⟩
        · by_cases hl : lessP (crossP y y1) p
          · obtain ⟨z, hz, h⟩ := i6 p hp
            have := next_gt hy01 hp hl
            refine ⟨z, by simp [List.mem_cons.1 hz], fun x' hx' y' hy' => ?_⟩
            rcases List.mem_cons.1 hy' with rfl | hy'
            · have := h x' hx' y1 (by simp); omega
            · exact h x' hx' y' hy'
          · have hlx : ¬ lessP (crossP x x1) p := fun hh => hl (less_trans py px hp c2 hh)
            refine ⟨addP x y, by simp, fun x' hx' y' hy' => ?_⟩
            have := fx p hp hlx x' hx'
            have := fy p hp hl y' hy'
            rw [Ct_add]; omega
      · rw [if_neg c2]
        have hxy : crossP x x1 = crossP y y1 := red_uniq (low_red _ _ (by omega)) (low_red _ _ (by omega)) c1 c2
        obtain ⟨i1, i2, i3, i4, i5, i6⟩ := merge_sp (n - 2) (x1 :: As) (y1 :: Bs) (crossP x x1) (by simp at hn ⊢; omega) (by simp) (by simp) hA'.2 (ChA_tail cA) hB'.2 (ChA_tail cB) (GT_tail hA cA) (by rw [hxy]; exact GT_tail hB cB)
        obtain ⟨M', e⟩ := i1 x1 As y1 Bs rfl rfl
        rw [e] at i2 i3 i4 i5 i6 ⊢
        obtain ⟨s1, s2, s3⟩ := merge_step gcx (by unfold addP; simp only; omega) (cross_add_b hx01 hy01 hxy) i2 i3 i4
        refine ⟨fun _ _ _ _ e1 e2 => ?_, s1, s2, s3, fun z hz => ?_, fun p hp => ?_⟩
        · obtain ⟨rfl, _⟩ := List.cons.inj e1
          obtain ⟨rfl, _⟩ := List.cons.inj e2
          exact ⟨_, rfl⟩
        · rcases List.mem_cons.1 hz with rfl | hz
          · exact ⟨x, by simp, y, by simp, rfl⟩
          · obtain ⟨a, ha, b, hb, e⟩ := i5 z hz
            exact ⟨a, by simp [List.mem_cons.1 ha], b, by simp [List.mem_cons.1 hb], e⟩
        · by_cases hl : lessP (crossP x x1) p
          · obtain ⟨z, hz, h⟩ := i6 p hp
            have g1 := next_gt hx01 hp hl
            have g2 := next_gt hy01 hp (by rw [← hxy]; exact hl)
            refine ⟨z, by simp [List.mem_cons.1 hz], fun x' hx' y' hy' => ?_⟩
            have kx : ∃ x'' ∈ x1 :: As, CtP p x' ≤ CtP p x'' := by
              rcases List.mem_cons.1 hx' with rfl | hx'
              · exact ⟨x1, by simp, by omega⟩
              · exact ⟨x', hx', by omega⟩
            have ky : ∃ y'' ∈ y1 :: Bs, CtP p y' ≤ CtP p y'' := by
              rcases List.mem_cons.1 hy' with rfl | hy'
              · exact ⟨y1, by simp, by omega⟩
              · exact ⟨y', hy', by omega⟩
            obtain ⟨x'', hx'', a1⟩ := kx
            obtain ⟨y'', hy'', a2⟩ := ky
            have := h x'' hx'' y'' hy''
            omega
          · have hly : ¬ lessP (crossP y y1) p := by rw [← hxy]; exact hl
            refine ⟨addP x y, by simp, fun x' hx' y' hy' => ?_⟩
            have := fx p hp hl x' hx'
            have := fy p hp hly y' hy'
            rw [Ct_add]; omega
def fairF (r : Int) : Option (Int × Int) → List (Int × Int) → Option (Int × Int)
  | _, [] => none
  | pv, b :: T => if r = b.2 then some (b.1, 1) else if r < b.2 then (match pv with | some a => some (lowP (a.1 * (b.2 - r) + b.1 * (r - a.2)) (b.2 - a.2)) | none => none) else fairF r (some b) T
/-- how a fair part comes about -/
inductive FairV (r : Int) (C : List (Int × Int)) : Int × Int → Prop
  | at (b : Int × Int) (h : b ∈ C) (hr : r = b.2) : FairV r C (b.1, 1)
  | mid (u : List (Int × Int)) (a b : Int × Int) (v : List (Int × Int)) (h : C = u ++ a :: b :: v) (h1 : a.2 < r) (h2 : r < b.2) : FairV r C (lowP (a.1 * (b.2 - r) + b.1 * (r - a.2)) (b.2 - a.2))
theorem fairF_sp (r : Int) (C : List (Int × Int)) (hA : Asc C) : ∀ (T u : List (Int × Int)) (pv : Option (Int × Int)), C = u ++ T → (pv = none ∧ u = [] ∨ ∃ a u', pv = some a ∧ u = u' ++ [a] ∧ a.2 < r) →
    (∀ v, fairF r pv T = some v → FairV r C v) ∧ ((u ≠ [] ∨ ∃ c ∈ T, c.2 ≤ r) → (∃ c ∈ T, r ≤ c.2) → fairF r pv T ≠ none) ∧ ((∀ c ∈ T, c.2 < r) → fairF r pv T = none) ∧ (u = [] → (∀ c ∈ T, r < c.2) → fairF r pv T = none)
  | [], u, pv, _, _ => ⟨fun v h => (by cases h), fun _ ⟨c, hc, _⟩ => (by simp at hc), fun _ => rfl, fun _ _ => rfl⟩
  | b :: T, u, pv, e, hpv => by
    unfold fairF
    by_cases h1 : r = b.2
    · rw [if_pos h1]
      refine ⟨fun v hv => ?_, fun _ _ h => (by cases h), fun h => ?_, fun _ h => ?_⟩
      · cases hv; exact .at b (by rw [e]; simp) h1
      · have := h b (by simp); omega
      · have := h b (by simp); omega
    · rw [if_neg h1]
      by_cases h2 : r < b.2
      · rw [if_pos h2]
        rcases hpv with ⟨rfl, rfl⟩ | ⟨a, u', rfl, rfl, ha⟩
        · refine ⟨fun v hv => (by cases hv), fun h3 _ => ?_, fun _ => rfl, fun _ _ => rfl⟩
          exfalso
          rcases h3 with h3 | ⟨c, hc, hcr⟩
          · exact h3 rfl
          · rw [e] at hA
            rcases List.mem_cons.1 hc with rfl | hc
            · omega
            · have := (List.pairwise_cons.1 hA).1 c hc; omega
        · refine ⟨fun v hv => ?_, fun _ _ h => (by cases h), fun h => ?_, fun h _ => (by simp at h)⟩
          · cases hv; exact .mid u' a b T (by rw [e]; simp) ha h2
          · have := h b (by simp); omega
      · rw [if_neg h2]
        obtain ⟨i1, i2, i3, i4⟩ := fairF_sp r C hA T (u ++ [b]) (some b) (by rw [e]; simp) (.inr ⟨b, u, rfl, rfl, by omega⟩)
        refine ⟨i1, fun _ ⟨c, hc, hrc⟩ => ?_, fun h => i3 fun c hc => h c (by simp [hc]), fun _ h => ?_⟩
        · refine i2 (.inl (by simp)) ?_
          rcases List.mem_cons.1 hc with rfl | hc
          · omega
          · exact ⟨c, hc, hrc⟩
        · have := h b (by simp); omega

theorem mx_chain {L C : List (Int × Int)} (h : Chain L C) {p : Int × Int} (hp : 0 < p.2) {M : Int} (hM : IsMx L p M) {c : Int × Int} (hc : c ∈ C) (hmax : ∀ d ∈ C, CtP p d ≤ CtP p c) : M = CtP p c := by
  obtain ⟨⟨d, hd, e⟩, hle⟩ := hM
  obtain ⟨c', hc', h1⟩ := h.dom p hp d hd
  have h2 := hmax c' hc'
  have h3 := hle c (h.sub c hc)
  omega
theorem fair_val {L C : List (Int × Int)} (h : Chain L C) {r : Int} {v : Int × Int} (hv : FairV r C v) : Red v ∧ (∀ p : Int × Int, 0 < p.2 → ∀ M, IsMx L p M → v.1 * p.2 ≤ (M - r * p.1) * v.2) ∧ ∃ p ∈ pricesQ (eqs L), ∀ M, IsMx L p M → v.1 * p.2 = (M - r * p.1) * v.2 := by
  have hQ := eqs_srt L
  cases hv with
  | «at» b hb hr =>
    refine ⟨⟨by show (0 : Int) < 1; decide, by simp⟩, fun p hp M hM => ?_, ?_⟩
    · have := hM.2 b (h.sub b hb)
      unfold CtP at this
      rw [hr]
      have e : b.2 * p.1 = b.2 * p.1 := rfl
      simp only [Int.mul_one]; omega
    · obtain ⟨hbL, x, hx, ha⟩ := (chain_alone h b).1 hb
      obtain ⟨p, hp, hc⟩ := cell_ex hQ hx
      have hp2 := (prices_red hQ.2 p hp).1
      refine ⟨p, hp, fun M hM => ?_⟩
      have hmax : ∀ d ∈ C, CtP p d ≤ CtP p b := fun d hd => by
        rcases ha d (h.sub d hd) with rfl | h1
        · omega
        · have := lt_cell hx hp2 (h.sub d hd) hbL hc h1; omega
      have := mx_chain h hp2 hM hb hmax
      rw [this, hr]
      unfold CtP
      simp only [Int.mul_one]; omega
  | mid u a b v e h1 h2 =>
    have hA := h.asc
    have hC := h.cha
    have hab : a.2 < b.2 := by omega
    have haC : a ∈ C := by rw [e]; simp
    have hbC : b ∈ C := by rw [e]; simp
    obtain ⟨n, d, el, ⟨q1, q2, q3⟩, _⟩ := low_sp (a.1 * (b.2 - r) + b.1 * (r - a.2)) (b.2 - a.2) (by omega)
    rw [el]
    refine ⟨⟨q1, q3⟩, fun p hp M hM => ?_, ?_⟩
    · have ha := hM.2 a (h.sub a haC)
      have hb := hM.2 b (h.sub b hbC)
      have e1 : 0 ≤ (M - CtP p a) * (b.2 - r) := Int.mul_nonneg (by omega) (by omega)
      have e2 : 0 ≤ (M - CtP p b) * (r - a.2) := Int.mul_nonneg (by omega) (by omega)
      have e3 : 0 ≤ ((M - CtP p a) * (b.2 - r) + (M - CtP p b) * (r - a.2)) * d := Int.mul_nonneg (by omega) (by omega)
      have e4 : ((M - r * p.1) * d - n * p.2) * (b.2 - a.2) = ((M - CtP p a) * (b.2 - r) + (M - CtP p b) * (r - a.2)) * d := by
        unfold CtP; clear e1 e2 e3 ha hb hM; grind
      simp only
      rcases Int.lt_or_le ((M - r * p.1) * d - n * p.2) 0 with hh | hh
      · have := Int.mul_pos (a := -((M - r * p.1) * d - n * p.2)) (b := b.2 - a.2) (by omega) (by omega)
        have e5 : -((M - r * p.1) * d - n * p.2) * (b.2 - a.2) = -(((M - r * p.1) * d - n * p.2) * (b.2 - a.2)) := by grind
        omega
      · omega
    · have hm : crossP a b ∈ eqs L := (eqs_mem L _).2 ⟨a, h.sub a haC, b, h.sub b hbC, by omega, rfl⟩
      have hq2 := (hQ.2 _ hm).1
      refine ⟨crossP a b, prices_sub hm, fun M hM => ?_⟩
      have heq := cross_at (a := a) (b := b) (by omega)
      have hd : Dsc C.reverse := Asc_rev hA
      have hc : Chn C.reverse := by simpa using ChA_rev C [] hC trivial (by simp)
      have er : C.reverse = (v.reverse ++ [b]) ++ a :: u.reverse := by rw [e]; simp
      rw [er] at hd hc
      obtain ⟨m1, m2, m3, m4, m5⟩ := chn_mid hd hc
      have sub : ∀ (u T : List (Int × Int)), Asc (u ++ T) → ChA (u ++ T) → Asc T ∧ ChA T := by
        intro u
        induction u with
        | nil => intro T a b; exact ⟨a, b⟩
        | cons z u ih => intro T a b; exact ih T (List.pairwise_cons.1 a).2 (ChA_tail b)
      rw [e] at hA hC
      obtain ⟨s1, s2⟩ := sub u _ hA hC
      have hlow : ∀ t ∈ u.reverse, CtP (crossP a b) t < CtP (crossP a b) a := m4 _ hq2 (fun z T e' => by
        have hzu : u = T.reverse ++ [z] := by rw [← List.reverse_reverse u, e']; simp
        rw [hzu, List.append_assoc] at hA hC
        obtain ⟨t1, t2⟩ := sub T.reverse _ hA hC
        have hza : z.2 < a.2 := (List.pairwise_cons.1 t1).1 a (by simp)
        exact (above_less hza hab).1 t2.1)
      have hhi := first_le (x := b) (As := v) hq2 (List.pairwise_cons.1 s1).2 (ChA_tail s2) (fun x1 T e' hl => by
        subst e'
        have hbx : b.2 < x1.2 := (List.pairwise_cons.1 (List.pairwise_cons.1 s1).2).1 x1 (by simp)
        exact less_asym ((above_less hab hbx).1 s2.1) hl)
      have hmax : ∀ t ∈ C, CtP (crossP a b) t ≤ CtP (crossP a b) a := fun t ht => by
        rw [e] at ht
        rcases List.mem_append.1 ht with ht | ht
        · have := hlow t (by simpa using ht); omega
        · rcases List.mem_cons.1 ht with rfl | ht
          · omega
          · have := hhi t ht; omega
      have hMa := mx_chain h hq2 hM haC hmax
      obtain ⟨_, c2⟩ := cross_sp (a := a) (b := b) (by omega)
      generalize crossP a b = q at *
      simp only
      have e6 : (n * q.2 - (M - r * q.1) * d) * (b.2 - a.2) = 0 := by
        rw [hMa]; unfold CtP at *; clear hmax hhi hlow m1 m2 m3 m4 m5 hM hMa; grind
      rcases Int.mul_eq_zero.1 e6 with h0 | h0 <;> omega
theorem rate_ends {L C : List (Int × Int)} (h : Chain L C) {d : Int × Int} (hd : d ∈ L) : (∃ c ∈ C, c.2 ≤ d.2) ∧ (∃ c ∈ C, d.2 ≤ c.2) := by
  have hQ := eqs_srt L
  obtain ⟨lo, _, l2, l3⟩ := prices_lo hQ
  obtain ⟨hi, _, g2, g3⟩ := prices_hi hQ
  constructor
  · obtain ⟨c, hc, h1⟩ := h.dom lo l2.1 d hd
    refine ⟨c, hc, ?_⟩
    rcases Int.lt_or_le d.2 c.2 with h2 | h2
    · have hm : crossP d c ∈ eqs L := (eqs_mem L _).2 ⟨d, hd, c, h.sub c hc, by omega, rfl⟩
      have := cross_below h2 (l3 _ hm); omega
    · exact h2
  · obtain ⟨c, hc, h1⟩ := h.dom hi g2.1 d hd
    refine ⟨c, hc, ?_⟩
    rcases Int.lt_or_le c.2 d.2 with h2 | h2
    · have hm : crossP c d ∈ eqs L := (eqs_mem L _).2 ⟨c, h.sub c hc, d, hd, by omega, rfl⟩
      have := cross_above h2 (g3 _ hm); omega
    · exact h2
/-- the least of fractions -/
def minF (b : Int × Int) (l : List (Int × Int)) : Int × Int := l.foldl (fun best x => if lessP x best then x else best) b
theorem minF_sp : ∀ (l : List (Int × Int)) (b : Int × Int), 0 < b.2 → (∀ x ∈ l, 0 < x.2) → minF b l ∈ b :: l ∧ ∀ x ∈ b :: l, ¬ lessP x (minF b l)
  | [], b, _, _ => by simp [minF, less_irr]
  | y :: l, b, hb, hl => by
    have hy := hl y (by simp)
    have e : minF b (y :: l) = minF (if lessP y b then y else b) l := rfl
    rw [e]
    by_cases h : lessP y b
    · rw [if_pos h]
      obtain ⟨h1, h2⟩ := minF_sp l y hy (fun x hx => hl x (by simp [hx]))
      have hm : 0 < (minF y l).2 := by
        rcases List.mem_cons.1 h1 with e | h1
        · rw [e]; exact hy
        · exact hl _ (by simp [h1])
      refine ⟨by simp [List.mem_cons.1 h1], fun x hx => ?_⟩
      rcases List.mem_cons.1 hx with rfl | hx
      · exact fun hh => h2 y (by simp) (less_trans hy hb hm h hh)
      · exact h2 x hx
    · rw [if_neg h]
      obtain ⟨h1, h2⟩ := minF_sp l b hb (fun x hx => hl x (by simp [hx]))
      have hm : 0 < (minF b l).2 := by
        rcases List.mem_cons.1 h1 with e | h1
        · rw [e]; exact hb
        · exact hl _ (by simp [h1])
      refine ⟨?_, fun x hx => ?_⟩
      · rcases List.mem_cons.1 h1 with e | h1
        · rw [e]; simp
        · simp [h1]
      · rcases List.mem_cons.1 hx with rfl | hx
        · exact h2 _ (by simp)
        · rcases List.mem_cons.1 hx with rfl | hx
          · intro hh
            refine h2 b (by simp) ?_
            -- b ≤ y < min
            have a1 : ¬ lessP x b := h
            unfold lessP at *
            have e1 := Int.mul_pos (a := (minF b l).1 * x.2 - x.1 * (minF b l).2) (b := b.2) (by omega) hb
            have e2 : 0 ≤ (x.1 * b.2 - b.1 * x.2) * (minF b l).2 := Int.mul_nonneg (by omega) (by omega)
            have e3 : ((minF b l).1 * b.2 - b.1 * (minF b l).2) * x.2 = ((minF b l).1 * x.2 - x.1 * (minF b l).2) * b.2 + (x.1 * b.2 - b.1 * x.2) * (minF b l).2 := by clear e1 e2; grind
            have e4 : 0 < ((minF b l).1 * b.2 - b.1 * (minF b l).2) * x.2 := by omega
            have := mul_pos_of hy e4
            omega
          · exact h2 x (by simp [hx])
theorem fair_min {L C : List (Int × Int)} (h : Chain L C) {r : Int} {v : Int × Int} (hv : FairV r C v) (mxq : Int × Int → Int) (hmx : ∀ p ∈ pricesQ (eqs L), IsMx L p (mxq p)) (p0 : Int × Int) (P : List (Int × Int)) (hP : pricesQ (eqs L) = p0 :: P) :
    minF (lowP (mxq p0 - r * p0.1) p0.2) (P.map fun p => lowP (mxq p - r * p.1) p.2) = v := by
  obtain ⟨f1, f2, p, hp, f3⟩ := fair_val h hv
  have hR : ∀ p ∈ p0 :: P, 0 < p.2 := fun p hp => (prices_red (eqs_srt L).2 p (by rw [hP]; exact hp)).1
  have hred : ∀ p ∈ p0 :: P, Red (lowP (mxq p - r * p.1) p.2) := fun p hp => low_red _ _ (by have := hR p hp; omega)
  obtain ⟨m1, m2⟩ := minF_sp (P.map fun p => lowP (mxq p - r * p.1) p.2) (lowP (mxq p0 - r * p0.1) p0.2) (hred p0 (by simp)).1 (fun x hx => by
    obtain ⟨p, hp, rfl⟩ := List.mem_map.1 hx
    exact (hred p (by simp [hp])).1)
  generalize hm : minF (lowP (mxq p0 - r * p0.1) p0.2) (P.map fun p => lowP (mxq p - r * p.1) p.2) = m at *
  have hmem : ∀ x, x ∈ lowP (mxq p0 - r * p0.1) p0.2 :: P.map (fun p => lowP (mxq p - r * p.1) p.2) ↔ ∃ p ∈ p0 :: P, x = lowP (mxq p - r * p.1) p.2 := fun x => by
    constructor
    · intro hx
      rcases List.mem_cons.1 hx with rfl | hx
      · exact ⟨p0, by simp, rfl⟩
      · obtain ⟨p, hp, rfl⟩ := List.mem_map.1 hx
        exact ⟨p, by simp [hp], rfl⟩
    · rintro ⟨p, hp, rfl⟩
      rcases List.mem_cons.1 hp with rfl | hp
      · simp
      · exact List.mem_cons.2 (.inr (List.mem_map.2 ⟨p, hp, rfl⟩))
  rw [hP] at hp
  have hpp := hR p hp
  have e1 : lowP (mxq p - r * p.1) p.2 = v := by
    have h3 := f3 _ (hmx p (by rw [hP]; exact hp))
    have n1 : ¬ lessP (lowP (mxq p - r * p.1) p.2) (v.1, v.2) := fun hh => by
      have := (low_less hpp f1.1).1 hh; omega
    have n2 : ¬ lessP (v.1, v.2) (lowP (mxq p - r * p.1) p.2) := fun hh => by
      have := (low_more hpp f1.1).1 hh; omega
    exact red_uniq (hred p hp) f1 n1 n2
  obtain ⟨p', hp', e2⟩ := (hmem m).1 m1
  have hp2' := hR p' hp'
  have k1 : ¬ lessP m v := fun hh => by
    rw [e2] at hh
    have := (low_less hp2' f1.1).1 (show lessP _ (v.1, v.2) from hh)
    have := f2 p' hp2' _ (hmx p' (by rw [hP]; exact hp'))
    omega
  have k2 : ¬ lessP v m := m2 v ((hmem v).2 ⟨p, hp, e1.symm⟩)
  rw [e2] at k1 k2 ⊢
  exact red_uniq (hred p' hp') f1 k1 k2
end Go.Proofs.Ytgnphlpoofaojaa
