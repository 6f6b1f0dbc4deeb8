/-
  TurnBoth: what the functions compute answers as the law says.
  TurnBoth: the law returns true.
-/
import Derived.Test.YtgnphlpoofaojaaQLawnd
import Derived.Test.YtgnphlpoofaojaaQBoths
import Derived.Test.YtgnphlpoofaojaaRows
import Derived.Test.YtgnphlpoofaojaaB
import Derived.Test.YtgnphlpoofaojaaK
import Derived.Test.YtgnphlpoofaojaaQLawcov
import Derived.Test.YtgnphlpoofaojaaQBothm
import Derived.Test.YtgnphlpoofaojaaV31
import Derived.WalkKit
import Derived.ProofKit
import Derived.OpenShut
namespace Go.Proofs.Ytgnphlpoofaojaa
open Go.V

def comC (A B : List (Int × Int)) : Nat := ((turnsC A).filter (fun t => decide (t ∈ turnsC B))).length
theorem comC_nil_r (A : List (Int × Int)) (y : Int × Int) : comC A [y] = 0 := by
  unfold comC
  rw [show turnsC [y] = [] from rfl]
  simp
theorem comC_nil_l (x : Int × Int) (B : List (Int × Int)) : comC [x] B = 0 := rfl
theorem turnsC_pos {C : List (Int × Int)} (hA : Asc C) : ∀ t ∈ turnsC C, Red t := fun t ht => by
  obtain ⟨u, a, b, v, rfl, rfl⟩ := turnsC_mem.1 ht
  have h : a.2 < b.2 := (List.pairwise_cons.1 (List.pairwise_append.1 hA).2.1).1 b (by simp)
  exact low_red _ _ (by omega)
theorem turnsC_le {x x1 : Int × Int} {As : List (Int × Int)} (hA : Asc (x :: x1 :: As)) (hC : ChA (x :: x1 :: As)) : ∀ t ∈ turnsC (x1 :: As), lessP (crossP x x1) t := fun t ht =>
  (turnsC_srt hA hC).2 x (x1 :: As) rfl x1 As rfl t ht
theorem filter_le {l : List (Int × Int)} {p q : Int × Int → Bool} (h : ∀ x ∈ l, p x = q x) : (l.filter p).length = (l.filter q).length := by
  rw [List.filter_congr h]
theorem merge_len : ∀ (n : Nat) (A B : List (Int × Int)), A.length + B.length = n → A ≠ [] → B ≠ [] → Asc A → ChA A → Asc B → ChA B → (mergeC A B).length + comC A B + 1 = A.length + B.length
  | n, [], _, _, h, _, _, _, _, _ => absurd rfl h
  | n, _ :: _, [], _, _, h, _, _, _, _ => absurd rfl h
  | n, [x], [y], _, _, _, _, _, _, _ => by rw [comC_nil_r]; simp [mergeC]
  | n, x :: x1 :: As, [y], hn, _, _, hA, hC, hB, hD => by
    have ih := merge_len (n - 1) (x1 :: As) [y] (by simp at hn ⊢; omega) (by simp) (by simp) (List.pairwise_cons.1 hA).2 (ChA_tail hC) hB hD
    rw [comC_nil_r] at ih ⊢
    simp only [mergeC, List.length_cons, List.length_nil] at ih ⊢
    omega
  | n, [x], y :: y1 :: Bs, hn, _, _, hA, hC, hB, hD => by
    have ih := merge_len (n - 1) [x] (y1 :: Bs) (by simp at hn ⊢; omega) (by simp) (by simp) hA hC (List.pairwise_cons.1 hB).2 (ChA_tail hD)
    rw [comC_nil_l] at ih ⊢
    simp only [mergeC, List.length_cons, List.length_nil] at ih ⊢
    omega
  | n, x :: x1 :: As, y :: y1 :: Bs, hn, _, _, hA, hC, hB, hD => by
    have hA' := (List.pairwise_cons.1 hA).2
    have hB' := (List.pairwise_cons.1 hB).2
    have lA := turnsC_le hA hC
    have lB := turnsC_le hB hD
    have rA := turnsC_pos hA
    have rB := turnsC_pos hB
    have eA : turnsC (x :: x1 :: As) = crossP x x1 :: turnsC (x1 :: As) := rfl
    have eB : turnsC (y :: y1 :: Bs) = crossP y y1 :: turnsC (y1 :: Bs) := rfl
    have r1 : Red (crossP x x1) := rA _ (by rw [eA]; simp)
    have r2 : Red (crossP y y1) := rB _ (by rw [eB]; simp)
    rw [mergeC]
    by_cases h1 : lessP (crossP x x1) (crossP y y1)
    · rw [if_pos h1]
      have ih := merge_len (n - 1) (x1 :: As) (y :: y1 :: Bs) (by simp at hn ⊢; omega) (by simp) (by simp) hA' (ChA_tail hC) hB hD
      have e : comC (x :: x1 :: As) (y :: y1 :: Bs) = comC (x1 :: As) (y :: y1 :: Bs) := by
        unfold comC
        rw [eA, List.filter_cons, if_neg]
        rw [decide_eq_true_eq, eB]
        intro hm
        rcases List.mem_cons.1 hm with hm | hm
        · rw [hm] at h1; exact less_irr _ h1
        · exact less_irr _ (less_trans r1.1 r2.1 r1.1 h1 (lB _ hm))
      rw [e]
      simp only [List.length_cons] at ih ⊢
      omega
    · rw [if_neg h1]
      by_cases h2 : lessP (crossP y y1) (crossP x x1)
      · rw [if_pos h2]
        have ih := merge_len (n - 1) (x :: x1 :: As) (y1 :: Bs) (by simp at hn ⊢; omega) (by simp) (by simp) hA hC hB' (ChA_tail hD)
        have e : comC (x :: x1 :: As) (y :: y1 :: Bs) = comC (x :: x1 :: As) (y1 :: Bs) := by
          unfold comC
          refine filter_le fun t ht => ?_
          rw [decide_eq_decide, eB, List.mem_cons]
          refine ⟨fun h => h.resolve_left fun e => ?_, .inr⟩
          rw [eA] at ht
          rcases List.mem_cons.1 ht with hm | hm
          · rw [← e, hm] at h2; exact less_irr _ h2
          · have := lA t hm
            rw [e] at this
            exact less_irr _ (less_trans r1.1 r2.1 r1.1 this h2)
        rw [e]
        simp only [List.length_cons] at ih ⊢
        omega
      · rw [if_neg h2]
        have ih := merge_len (n - 2) (x1 :: As) (y1 :: Bs) (by simp at hn ⊢; omega) (by simp) (by simp) hA' (ChA_tail hC) hB' (ChA_tail hD)
        have ec : crossP x x1 = crossP y y1 := red_uniq r1 r2 h1 h2
        have e : comC (x :: x1 :: As) (y :: y1 :: Bs) = comC (x1 :: As) (y1 :: Bs) + 1 := by
          unfold comC
          rw [eA, List.filter_cons, if_pos (by rw [decide_eq_true_eq, eB, ec]; simp), List.length_cons]
          congr 1
          refine filter_le fun t ht => ?_
          rw [decide_eq_decide, eB, List.mem_cons]
          refine ⟨fun h => h.resolve_left fun e => ?_, .inr⟩
          have := lA t ht
          rw [ec, e] at this
          exact less_irr _ this
        rw [e]
        simp only [List.length_cons] at ih ⊢
        omega
termination_by n => n

theorem merge_inv {L K : List (Int × Int)} (hb : ∀ c ∈ L, bdC c) (kb : ∀ c ∈ K, bdC c) (l1 : 1 ≤ L.length) (k1 : 1 ≤ K.length) :
    chC L ≠ [] ∧ chC K ≠ [] ∧ MInv (-1000, 1) (chC L) (chC K) (mergeC (chC L) (chC K)) := by
  have hcL := hull_chain L
  have hcK := hull_chain K
  have neL : (hullF L).map (ctL L) ≠ [] := by
    intro h
    obtain ⟨c, hc, _⟩ := hcL.dom (0, 1) (by decide) (ctL L 0) (ctL_mem (by omega))
    rw [h] at hc; simp at hc
  have neK : (hullF K).map (ctL K) ≠ [] := by
    intro h
    obtain ⟨c, hc, _⟩ := hcK.dom (0, 1) (by decide) (ctL K 0) (ctL_mem (by omega))
    rw [h] at hc; simp at hc
  exact ⟨neL, neK, merge_sp _ ((hullF L).map (ctL L)) ((hullF K).map (ctL K)) (-1000, 1) rfl neL neK hcL.asc hcL.cha hcK.asc hcK.cha (GT_low _ (fun c hc => hb c (hcL.sub c hc)) hcL.asc) (GT_low _ (fun c hc => kb c (hcK.sub c hc)) hcK.asc)⟩
theorem both_mx {L K M : List (Int × Int)} {t0 : Int × Int} (hM : MInv t0 (chC L) (chC K) M) {p : Int × Int} (hp : 0 < p.2) {a b m : Int} (ha : IsMx L p a) (hb : IsMx K p b) (hm : IsMx M p m) : m = a + b := by
  obtain ⟨⟨u, hu, eu⟩, lu⟩ := ha
  obtain ⟨⟨v, hv, ev⟩, lv⟩ := hb
  obtain ⟨⟨z, hz, ez⟩, lz⟩ := hm
  have cL := hull_chain L
  have cK := hull_chain K
  obtain ⟨x, hx, y, hy, rfl⟩ := hM.sub z hz
  rw [Ct_add] at ez
  have h1 := lu x (cL.sub x hx)
  have h2 := lv y (cK.sub y hy)
  obtain ⟨u', hu', q1⟩ := cL.dom p hp u hu
  obtain ⟨v', hv', q2⟩ := cK.dom p hp v hv
  obtain ⟨w, hw, q3⟩ := hM.dom p hp
  have h3 := q3 u' hu' v' hv'
  have h4 := lz w hw
  omega

theorem idx76 (N : Nat) (T : List (Int × Int)) (hT : T.length ≤ 1000) (t : Int × Int) : ∀ (r i fuel : Nat), T.length - i = r → r < fuel →
    ∃ o, m76_L0 N T.length (cellsC T) fuel (i : Int) (.int .i64 t.1) (.int .i64 t.2) = some o ∧ (t ∈ T.drop i → ∃ x : Nat, o = .inl (.int .i64 (x : Int))) ∧ (t ∉ T.drop i → o = .inr ())
  | r, i, 0, _, h => by omega
  | r, i, f + 1, hr, hf => by
    have hcl : (cellsC T).length = T.length * 2 := cellsC_len T
    have ti : (Int.toNat (i : Int)) = i := by omega
    rw [m76_L0]
    by_cases hi : i < T.length
    · have hw : IntKind.i64.wrap ((i : Int) + 1) = ((i + 1 : Nat) : Int) := by rw [wrap64 (by omega) (by omega)]; omega
      obtain ⟨o, o1, o2, o3⟩ := idx76 N T hT t (r - 1) (i + 1) f (by omega) (by omega)
      have ed : T.drop i = ctL T i :: T.drop (i + 1) := by rw [ctL_get hi]; exact List.drop_eq_getElem_cons hi
      rw [brn_t (by simp; omega), ti, grd_t ⟨by omega, by omega⟩, grd_t (by simp only [List.length_drop]; omega), cellsC_at (ctL_at hi)]
      simp only [getA2, getI, if_true]
      rw [eqC, hw, ed]
      by_cases h : t = ctL T i
      · rw [brn_t (by simpa using h)]
        exact ⟨_, rfl, fun _ => ⟨i, rfl⟩, fun hn => absurd (by rw [h]; simp) hn⟩
      · rw [brn_f (by simpa using h)]
        refine ⟨o, o1, fun hm => o2 ?_, fun hn => o3 fun hm => hn (List.mem_cons_of_mem _ hm)⟩
        rcases List.mem_cons.1 hm with hm | hm
        · exact absurd hm h
        · exact hm
    · rw [brn_f (by simp; omega), List.drop_eq_nil_of_le (by omega)]
      exact ⟨_, rfl, fun h => by simp at h, fun _ => rfl⟩
theorem has54 (N : Nat) (hN : 2000 ≤ N) (T : List (Int × Int)) (hT : T.length ≤ 1000) (t : Int × Int) : m54 N (.lst false T.length (cellsC T)) (.agg [.int .i64 t.1, .int .i64 t.2]) = some (.bool (decide (t ∈ T))) := by
  obtain ⟨o, o1, o2, o3⟩ := idx76 N T hT t T.length 0 N (by omega) (by omega)
  rw [List.drop_zero] at o2 o3
  simp only [m54, m76, getL, getA2]
  rw [show m76_L0 N T.length (cellsC T) N 0 (.int .i64 t.1) (.int .i64 t.2) = some o from o1]
  by_cases h : t ∈ T
  · obtain ⟨x, hx⟩ := o2 h
    rw [hx]
    simp [bnd', getI, h]
  · rw [o3 h]
    simp [bnd', getI, h]
theorem prop_Q (N : Nat) (hN : 2000 ≤ N) {t : Int × Int} (h : bdQ t ∧ Red t) : m37 N (.agg [.int .i64 t.1, .int .i64 t.2]) = some (.bool true) :=
  proper_ok N hN t h.2 (by have := h.1; unfold bdQ at this; omega) (by have := h.1; unfold bdQ at this; omega)
theorem bo_L0 (N : Nat) (hN : 2000 ≤ N) (T1 T2 : List (Int × Int)) (h1l : T1.length ≤ 1000) (h2l : T2.length ≤ 1000) (hq : ∀ t ∈ T1, bdQ t ∧ Red t) (n1 n2 n3 n6 n7 : Nat) (c1 c2 c3 c6 c7 : List PV) : ∀ (r i fuel cnt : Nat), T1.length - i = r → r < fuel → cnt ≤ i →
    m14_L0 N n1 c1 n2 c2 n3 c3 T1.length (cellsC T1) T2.length (cellsC T2) n6 c6 n7 c7 fuel (cnt : Int) (i : Int) = some (.inr ((cnt + ((T1.drop i).filter (fun t => decide (t ∈ T2))).length : Nat) : Int))
  | r, i, 0, _, _, h, _ => by omega
  | r, i, f + 1, cnt, hr, hf, hc => by
    have hcl : (cellsC T1).length = T1.length * 2 := cellsC_len T1
    have ti : (Int.toNat (i : Int)) = i := by omega
    rw [m14_L0]
    by_cases hi : i < T1.length
    · have hw : IntKind.i64.wrap ((i : Int) + 1) = ((i + 1 : Nat) : Int) := by rw [wrap64 (by omega) (by omega)]; omega
      have hw2 : IntKind.i64.wrap ((cnt : Int) + 1) = ((cnt + 1 : Nat) : Int) := by rw [wrap64 (by omega) (by omega)]; omega
      have ih := fun cnt hc => bo_L0 N hN T1 T2 h1l h2l hq n1 n2 n3 n6 n7 c1 c2 c3 c6 c7 (r - 1) (i + 1) f cnt (by omega) (by omega) hc
      have ed : T1.drop i = ctL T1 i :: T1.drop (i + 1) := by rw [ctL_get hi]; exact List.drop_eq_getElem_cons hi
      rw [brn_t (by simp; omega), ti, grd_t ⟨by omega, by omega⟩, grd_t (by simp only [List.length_drop]; omega), cellsC_at (ctL_at hi)]
      simp only [getA2, getI, if_true, prop_Q N hN (hq _ (ctL_mem hi)), bnd', getB]
      rw [brn_t rfl, has54 N hN T2 h2l, hw, hw2, ed, List.filter_cons]
      simp only []
      by_cases h : ctL T1 i ∈ T2
      · rw [brn_t (by simpa using h), if_pos (by simpa using h), ih (cnt + 1) (by omega)]
        simp only [List.length_cons, Option.some.injEq, Sum.inr.injEq]
        omega
      · rw [brn_f (by simpa using h), if_neg (by simpa using h), ih cnt (by omega)]
    · rw [brn_f (by simp; omega), List.drop_eq_nil_of_le (by omega)]
      simp
theorem bo_L1 (N : Nat) (hN : 2000 ≤ N) (T2 : List (Int × Int)) (h2l : T2.length ≤ 1000) (hq : ∀ t ∈ T2, bdQ t ∧ Red t) (n1 n2 n3 n4 n6 n7 : Nat) (c1 c2 c3 c4 c6 c7 : List PV) (x : Int) : ∀ (r i fuel : Nat), T2.length - i = r → r < fuel →
    m14_L1 N n1 c1 n2 c2 n3 c3 n4 c4 T2.length (cellsC T2) n6 c6 n7 c7 x fuel (i : Int) = some (.inr ())
  | r, i, 0, _, h => by omega
  | r, i, f + 1, hr, hf => by
    have hcl : (cellsC T2).length = T2.length * 2 := cellsC_len T2
    have ti : (Int.toNat (i : Int)) = i := by omega
    rw [m14_L1]
    by_cases hi : i < T2.length
    · have hw : IntKind.i64.wrap ((i : Int) + 1) = ((i + 1 : Nat) : Int) := by rw [wrap64 (by omega) (by omega)]; omega
      have ih := bo_L1 N hN T2 h2l hq n1 n2 n3 n4 n6 n7 c1 c2 c3 c4 c6 c7 x (r - 1) (i + 1) f (by omega) (by omega)
      rw [brn_t (by simp; omega), ti, grd_t ⟨by omega, by omega⟩, grd_t (by simp only [List.length_drop]; omega), cellsC_at (ctL_at hi)]
      simp only [getA2, getI, if_true, prop_Q N hN (hq _ (ctL_mem hi)), bnd', getB]
      rw [brn_t rfl, hw, ih]
    · rw [brn_f (by simp; omega)]

def smB (c : Int × Int) : Prop := -20 ≤ c.1 ∧ c.1 ≤ 20 ∧ -4 ≤ c.2 ∧ c.2 ≤ 4
theorem addw {u v : Int × Int} (hu : smB u) (hv : smB v) : IntKind.i64.wrap (u.1 + v.1) = (addP u v).1 ∧ IntKind.i64.wrap (u.2 + v.2) = (addP u v).2 := by
  unfold smB at hu hv
  exact ⟨by rw [wrap64 (by omega) (by omega)]; rfl, by rw [wrap64 (by omega) (by omega)]; rfl⟩
theorem any_drop {K : List (Int × Int)} {i : Nat} (hi : i < K.length) (p : Int × Int → Bool) : (K.drop i).any p = (p (ctL K i) || (K.drop (i + 1)).any p) := by
  rw [List.drop_eq_getElem_cons hi, ctL_get hi, List.any_cons]
theorem bo_L46 (N : Nat) (K : List (Int × Int)) (hK : K.length ≤ 8) (ks : ∀ c ∈ K, smB c) (u z : Int × Int) (hu : smB u) (n1 n3 n4 n5 : Nat) (c1 c3 c4 c5 : List PV) (x xi : Int) : ∀ (r i fuel : Nat) (b : Bool), K.length - i = r → r < fuel →
    m14_L4 N n1 c1 K.length (cellsC K) n3 c3 n4 c4 n5 c5 x z.1 z.2 xi u.1 u.2 fuel b (i : Int) = some (b || (K.drop i).any (fun v => z == addP u v)) ∧
    m14_L6 N n1 c1 K.length (cellsC K) n3 c3 n4 c4 n5 c5 x z.1 z.2 xi u.1 u.2 fuel b (i : Int) = some (b || (K.drop i).any (fun v => z == addP u v))
  | r, i, 0, _, _, h => by omega
  | r, i, f + 1, b, hr, hf => by
    have hcl : (cellsC K).length = K.length * 2 := cellsC_len K
    have ti : (Int.toNat (i : Int)) = i := by omega
    rw [m14_L4, m14_L6]
    by_cases hi : i < K.length
    · have hw : IntKind.i64.wrap ((i : Int) + 1) = ((i + 1 : Nat) : Int) := by rw [wrap64 (by omega) (by omega)]; omega
      have ih := fun b => bo_L46 N K hK ks u z hu n1 n3 n4 n5 c1 c3 c4 c5 x xi (r - 1) (i + 1) f b (by omega) (by omega)
      obtain ⟨w1, w2⟩ := addw hu (ks _ (ctL_mem hi))
      have q1 : ∀ {α : Type} (y z : Option α), brn (decide ((i : Int) < (K.length : Int))) y z = y := fun y z => brn_t (by simp; omega)
      rw [any_drop hi, q1, q1, ti, grd_t ⟨by omega, by omega⟩, grd_t (by simp only [List.length_drop]; omega), grd_t ⟨by omega, by omega⟩, grd_t (by simp only [List.length_drop]; omega), cellsC_at (ctL_at hi)]
      simp only [getA2, getI, if_true]
      cases b with
      | true =>
        rw [brn_t rfl, brn_t rfl, hw]
        have := ih true
        simpa using this
      | false =>
        rw [brn_f rfl, brn_f rfl, hw, w1, w2, eqC]
        have := ih (z == addP u (ctL K i))
        simpa using this
    · have q1 : ∀ {α : Type} (y z : Option α), brn (decide ((i : Int) < (K.length : Int))) y z = z := fun y z => brn_f (by simp; omega)
      rw [q1, q1, List.drop_eq_nil_of_le (by omega)]
      simp
theorem bo_L35 (N : Nat) (hN : 2000 ≤ N) (L K : List (Int × Int)) (hL : L.length ≤ 8) (hK : K.length ≤ 8) (ls : ∀ c ∈ L, smB c) (ks : ∀ c ∈ K, smB c) (z : Int × Int) (n3 n4 n5 : Nat) (c3 c4 c5 : List PV) (x : Int) : ∀ (r i fuel : Nat) (b : Bool), L.length - i = r → r < fuel →
    m14_L3 N L.length (cellsC L) K.length (cellsC K) n3 c3 n4 c4 n5 c5 x z.1 z.2 fuel b (i : Int) = some (b || (L.drop i).any (fun u => K.any (fun v => z == addP u v))) ∧
    m14_L5 N L.length (cellsC L) K.length (cellsC K) n3 c3 n4 c4 n5 c5 x z.1 z.2 fuel b (i : Int) = some (b || (L.drop i).any (fun u => K.any (fun v => z == addP u v)))
  | r, i, 0, _, _, h => by omega
  | r, i, f + 1, b, hr, hf => by
    have hcl : (cellsC L).length = L.length * 2 := cellsC_len L
    have ti : (Int.toNat (i : Int)) = i := by omega
    rw [m14_L3, m14_L5]
    by_cases hi : i < L.length
    · have hw : IntKind.i64.wrap ((i : Int) + 1) = ((i + 1 : Nat) : Int) := by rw [wrap64 (by omega) (by omega)]; omega
      have ih := fun b => bo_L35 N hN L K hL hK ls ks z n3 n4 n5 c3 c4 c5 x (r - 1) (i + 1) f b (by omega) (by omega)
      obtain ⟨e1, e2⟩ := bo_L46 N K hK ks (ctL L i) z (ls _ (ctL_mem hi)) L.length n3 n4 n5 (cellsC L) c3 c4 c5 x (i : Int) K.length 0 N b (by omega) (by omega)
      rw [List.drop_zero] at e1 e2
      have q1 : ∀ {α : Type} (y z : Option α), brn (decide ((i : Int) < (L.length : Int))) y z = y := fun y z => brn_t (by simp; omega)
      rw [any_drop hi, q1, q1, ti, grd_t ⟨by omega, by omega⟩, grd_t (by simp only [List.length_drop]; omega), grd_t ⟨by omega, by omega⟩, grd_t (by simp only [List.length_drop]; omega), cellsC_at (ctL_at hi)]
      simp only [getA2, getI, if_true]
      rw [show m14_L4 N L.length (cellsC L) K.length (cellsC K) n3 c3 n4 c4 n5 c5 x z.1 z.2 (i : Int) (ctL L i).1 (ctL L i).2 N b 0 = _ from e1]
      rw [show m14_L6 N L.length (cellsC L) K.length (cellsC K) n3 c3 n4 c4 n5 c5 x z.1 z.2 (i : Int) (ctL L i).1 (ctL L i).2 N b 0 = _ from e2]
      simp only [bnd', hw]
      rw [← Bool.or_assoc]
      exact ih (b || K.any fun v => z == addP (ctL L i) v)
    · have q1 : ∀ {α : Type} (y z : Option α), brn (decide ((i : Int) < (L.length : Int))) y z = z := fun y z => brn_f (by simp; omega)
      rw [q1, q1, List.drop_eq_nil_of_le (by omega)]
      simp
theorem bo_L2 (N : Nat) (hN : 2000 ≤ N) (L K M : List (Int × Int)) (hL : L.length ≤ 8) (hK : K.length ≤ 8) (hM : M.length ≤ 1000) (ls : ∀ c ∈ L, smB c) (ks : ∀ c ∈ K, smB c) (hA : Asc M) (hs : ∀ z ∈ M, ∃ u ∈ L, ∃ v ∈ K, z = addP u v) (n4 n5 : Nat) (c4 c5 : List PV) : ∀ (r i fuel : Nat), M.length - i = r → r < fuel →
    m14_L2 N L.length (cellsC L) K.length (cellsC K) M.length (cellsC M) n4 c4 n5 c5 fuel (i : Int) = some (.inr ())
  | r, i, 0, _, h => by omega
  | r, i, f + 1, hr, hf => by
    have hcl : (cellsC M).length = M.length * 2 := cellsC_len M
    have ti : (Int.toNat (i : Int)) = i := by omega
    rw [m14_L2]
    by_cases hi : i < M.length
    · have hw : IntKind.i64.wrap ((i : Int) + 1) = ((i + 1 : Nat) : Int) := by rw [wrap64 (by omega) (by omega)]; omega
      have ih := bo_L2 N hN L K M hL hK hM ls ks hA hs n4 n5 c4 c5 (r - 1) (i + 1) f (by omega) (by omega)
      obtain ⟨u, hu, v, hv, e⟩ := hs _ (ctL_mem hi)
      have hany : L.any (fun u => K.any (fun v => ctL M i == addP u v)) = true := List.any_eq_true.2 ⟨u, hu, List.any_eq_true.2 ⟨v, hv, by rw [e]; simp⟩⟩
      have bu := ls u hu
      have bv := ks v hv
      have bz : -40 ≤ (ctL M i).1 ∧ (ctL M i).1 ≤ 40 ∧ -8 ≤ (ctL M i).2 ∧ (ctL M i).2 ≤ 8 := by rw [e]; unfold smB at bu bv; unfold addP; simp only; omega
      obtain ⟨e3, e5⟩ := bo_L35 N hN L K hL hK ls ks (ctL M i) M.length n4 n5 (cellsC M) c4 c5 (i : Int) L.length 0 N false (by omega) (by omega)
      rw [List.drop_zero, hany, Bool.false_or] at e3 e5
      have e3' : m14_L3 N L.length (cellsC L) K.length (cellsC K) M.length (cellsC M) n4 c4 n5 c5 (i : Int) (ctL M i).1 (ctL M i).2 N false 0 = some true := e3
      have e5' : m14_L5 N L.length (cellsC L) K.length (cellsC K) M.length (cellsC M) n4 c4 n5 c5 (i : Int) (ctL M i).1 (ctL M i).2 N false 0 = some true := e5
      rw [brn_t (by simp; omega), ti, grd_t ⟨by omega, by omega⟩, grd_t (by simp only [List.length_drop]; omega), cellsC_at (ctL_at hi)]
      simp only [getA2, getI, if_true, e3', e5', bnd']
      by_cases h0 : i = 0
      · rw [brn_f (by simp; omega), brn_f (by simp; omega), brn_f (by simp; omega), brn_f (by simp; omega), brn_f (by simp; omega), brn_t rfl, hw, ih]
      · have hw2 : IntKind.i64.wrap ((i : Int) - 1) = ((i - 1 : Nat) : Int) := by rw [wrap64 (by omega) (by omega)]; omega
        have tj : (Int.toNat ((i - 1 : Nat) : Int)) = i - 1 := by omega
        have hlt := asc_ct hA (i := i - 1) (j := i) (by omega) hi
        rw [brn_t (by simp; omega), hw2, tj, grd_t ⟨by omega, by omega⟩, grd_t (by simp only [List.length_drop]; omega), gpc1 (by omega)]
        simp only [if_true]
        rw [brn_f (by simp; omega), brn_f (by simp; omega), brn_f (by simp; omega), brn_f (by simp; omega), brn_f (by simp; omega), brn_t rfl, hw, ih]
    · rw [brn_f (by simp; omega)]

theorem pr_L1 (N : Nat) (x0 : Int) (x : Int) (d : Int) (hd : 1 ≤ d) (hd2 : d ≤ 10) (hx : 0 ≤ x ∧ x ≤ 100) (hi : Int) (he : IntKind.i64.wrap (x * d) = hi) (hh : hi ≤ 1000) : ∀ (r : Nat) (y : Int) (fuel : Nat) (acc : List (Int × Int)), (hi + 1 - y).toNat = r → r < fuel → -1000 ≤ y → acc.length + r ≤ 100000 → (∀ p ∈ acc, bdP p) →
    ∃ P, m38_L1 N x0 x d fuel acc.length y (cellsC acc) = some (P.length, cellsC P) ∧ (∀ p ∈ P, bdP p) ∧ P.length = acc.length + r
  | r, y, 0, _, _, h, _, _, _ => by omega
  | r, y, f + 1, acc, hr, hf, hy, hl, ha => by
    rw [m38_L1, he]
    by_cases h : y ≤ hi
    · have hw : IntKind.i64.wrap (y + 1) = y + 1 := wrap64 (by omega) (by omega)
      obtain ⟨P, p1, p2, p3⟩ := pr_L1 N x0 x d hd hd2 hx hi he hh (r - 1) (y + 1) f (acc ++ [(y, d)]) (by omega) (by omega) (by omega) (by simp; omega) (fun p hp => by
        rcases List.mem_append.1 hp with hp | hp
        · exact ha p hp
        · simp at hp; subst hp; unfold bdP; simp only; omega)
      refine ⟨P, ?_, p2, by rw [p3]; simp; omega⟩
      rw [brn_t (by simpa using h)]
      simp only [m40, bnd', getA2]
      rw [grd_t (by omega), grd_t (cellsC_len acc), hw, ← p1, List.length_append, cellsC_app]
      rfl
    · rw [brn_f (by simpa using h)]
      exact ⟨acc, rfl, ha, by omega⟩
theorem prices2 (N : Nat) (hN : 2000 ≤ N) : ∃ P, m38 N 2 15 = some (.lst false P.length (cellsC P)) ∧ (∀ p ∈ P, bdP p) ∧ P.length ≤ 1000 := by
  obtain ⟨k, rfl⟩ : ∃ k, N = k + 3 := ⟨N - 3, by omega⟩
  obtain ⟨P, p1, p2, p3⟩ := pr_L1 (k + 3) 2 15 1 (by decide) (by decide) (by decide) 15 (by decide) (by decide) 31 (-15) (k + 3) [] (by decide) (by omega) (by decide) (by simp) (by simp)
  obtain ⟨R, r1, r2, r3⟩ := pr_L1 (k + 3) 2 15 2 (by decide) (by decide) (by decide) 30 (by decide) (by decide) 61 (-30) (k + 3) P (by decide) (by omega) (by decide) (by rw [p3]; simp) p2
  refine ⟨R, ?_, r2, by rw [r3, p3]; simp⟩
  have w1 : IntKind.i64.wrap ((IntKind.i64.wrap (0 - 15)) * 1) = -15 := by decide
  have w2 : IntKind.i64.wrap ((IntKind.i64.wrap (0 - 15)) * 2) = -30 := by decide
  have w3 : IntKind.i64.wrap (1 + 1) = 2 := by decide
  have w4 : IntKind.i64.wrap (2 + 1) = 3 := by decide
  have p1' : m38_L1 (k + 3) 2 15 1 (k + 3) 0 (-15) [] = some (P.length, cellsC P) := p1
  have e : m38_L0 (k + 3) 2 15 (k + 3) 0 1 [] = some (R.length, cellsC R) := by
    rw [m38_L0, brn_t (by decide), w1, p1']
    simp only [bnd']
    rw [w3, m38_L0, brn_t (by decide), w2, r1]
    simp only [bnd']
    rw [w4, m38_L0, brn_f (by decide)]
  rw [m38, e]
  simp only [bnd']
  rw [grd_t (cellsC_len R)]
theorem conc (N : Nat) (hN : 2000 ≤ N) (A B C : List (Int × Int)) (ha : A.length ≤ 10000) (hb : B.length ≤ 10000) (hc : C.length ≤ 10000) :
    m55 N (.lst false 3 [.lst false A.length (cellsC A), .lst false B.length (cellsC B), .lst false C.length (cellsC C)]) = some (.lst false (A ++ B ++ C).length (cellsC (A ++ B ++ C))) := by
  obtain ⟨k, rfl⟩ : ∃ k, N = k + 4 := ⟨N - 4, by omega⟩
  have w0 : IntKind.i64.wrap (0 + ((A.length : Nat) : Int)) = ((A.length : Nat) : Int) := by rw [wrap64 (by omega) (by omega)]; omega
  have w1 : IntKind.i64.wrap (((A.length : Nat) : Int) + ((B.length : Nat) : Int)) = ((A.length + B.length : Nat) : Int) := by rw [wrap64 (by omega) (by omega)]; omega
  have w2 : IntKind.i64.wrap (((A.length + B.length : Nat) : Int) + ((C.length : Nat) : Int)) = ((A.length + B.length + C.length : Nat) : Int) := by rw [wrap64 (by omega) (by omega)]; omega
  have v1 : IntKind.i64.wrap (0 + 1) = 1 := by decide
  have v2 : IntKind.i64.wrap (1 + 1) = 2 := by decide
  have v3 : IntKind.i64.wrap (2 + 1) = 3 := by decide
  have v0 : IntKind.i64.wrap 0 = 0 := by decide
  have t0 : Int.toNat 0 = 0 := rfl
  have t1 : Int.toNat 1 = 1 := rfl
  have t2 : Int.toNat 2 = 2 := rfl
  have e0 : m55_L0 (k + 4) 3 [.lst false A.length (cellsC A), .lst false B.length (cellsC B), .lst false C.length (cellsC C)] (k + 4) 0 0 = some ((A.length + B.length + C.length : Nat) : Int) := by
    rw [m55_L0, brn_t (by decide), grd_t (by decide), t0, grd_t (by simp)]
    show getL (.lst false A.length (cellsC A)) _ = _
    simp only [getL]
    rw [w0, brn_f (by simp <;> omega), v1, m55_L0, brn_t (by decide), grd_t (by decide), t1, grd_t (by simp)]
    show getL (.lst false B.length (cellsC B)) _ = _
    simp only [getL]
    rw [w1, brn_f (by simp <;> omega), v2, m55_L0, brn_t (by decide), grd_t (by decide), t2, grd_t (by simp)]
    show getL (.lst false C.length (cellsC C)) _ = _
    simp only [getL]
    rw [w2, brn_f (by simp <;> omega), v3, m55_L0, brn_f (by decide)]
  have e1 : m55_L1 (k + 4) 3 [.lst false A.length (cellsC A), .lst false B.length (cellsC B), .lst false C.length (cellsC C)] (k + 4) 0 0 [] = some ((A ++ B ++ C).length, cellsC (A ++ B ++ C)) := by
    have q1 := cellsC_len A
    have q2 := cellsC_len B
    have q3 := cellsC_len C
    rw [m55_L1, brn_t (by decide), grd_t (by decide), t0, grd_t (by simp)]
    show getL (.lst false A.length (cellsC A)) _ = _
    simp only [getL]
    rw [grd_t q1, grd_t (by omega), grd_t (by simp), v1, m55_L1, brn_t (by decide), grd_t (by decide), t1, grd_t (by simp)]
    show getL (.lst false B.length (cellsC B)) _ = _
    simp only [getL]
    rw [grd_t q2, grd_t (by omega), grd_t (by simp; omega), v2, m55_L1, brn_t (by decide), grd_t (by decide), t2, grd_t (by simp)]
    show getL (.lst false C.length (cellsC C)) _ = _
    simp only [getL]
    rw [grd_t q3, grd_t (by omega), grd_t (by simp; omega), v3, m55_L1, brn_f (by decide)]
    simp [cellsC_app, Nat.add_assoc]
  have eg : m77 (k + 4) ((A.length + B.length + C.length : Nat) : Int) = some (0, []) := by
    have hw : IntKind.i64.wrap (((A.length + B.length + C.length : Nat) : Int) - 0) = ((A.length + B.length + C.length : Nat) : Int) := by rw [wrap64 (by omega) (by omega)]; omega
    rw [m77, brn_f (by simp; omega), v0, hw]
    by_cases h : ((A.length + B.length + C.length : Nat) : Int) > 0
    · rw [brn_t (by simpa using h), grd_t ⟨by omega, by omega⟩, grd_t (by omega)]
    · rw [brn_f (by simpa using h)]
  simp only [m55, getL]
  rw [e0]
  simp only [bnd', eg]
  rw [e1]
  simp only []
  rw [grd_t (cellsC_len _)]
theorem bo_L7 (N : Nat) (hN : 4000 ≤ N) (L K M T : List (Int × Int)) (l1 : 1 ≤ L.length ∧ L.length ≤ 8) (k1 : 1 ≤ K.length ∧ K.length ≤ 8) (m1 : 1 ≤ M.length ∧ M.length ≤ 40) (hb : ∀ c ∈ L, bdC c) (kb : ∀ c ∈ K, bdC c) (mb : ∀ c ∈ M, bdC c) (hT : T.length ≤ 100000) (tb : ∀ t ∈ T, bdP t) (t0 : Int × Int) (hI : MInv t0 (chC L) (chC K) M) : ∀ (r i fuel : Nat), T.length - i = r → r < fuel →
    m14_L7 N L.length (cellsC L) K.length (cellsC K) M.length (cellsC M) T.length (cellsC T) fuel (i : Int) = some (.inr ())
  | r, i, 0, _, h => by omega
  | r, i, f + 1, hr, hf => by
    have hcl : (cellsC T).length = T.length * 2 := cellsC_len T
    have ti : (Int.toNat (i : Int)) = i := by omega
    rw [m14_L7]
    by_cases hi : i < T.length
    · have hw : IntKind.i64.wrap ((i : Int) + 1) = ((i + 1 : Nat) : Int) := by rw [wrap64 (by omega) (by omega)]; omega
      have ih := bo_L7 N hN L K M T l1 k1 m1 hb kb mb hT tb t0 hI (r - 1) (i + 1) f (by omega) (by omega)
      have hp := tb _ (ctL_mem hi)
      have nL : L ≠ [] := by intro h; rw [h] at l1; simp at l1
      have nK : K ≠ [] := by intro h; rw [h] at k1; simp at k1
      have nM : M ≠ [] := by intro h; rw [h] at m1; simp at m1
      have e := both_mx hI (by unfold bdP at hp; omega) (mxL_is hp nL hb) (mxL_is hp nK kb) (mxL_is hp nM mb)
      have b1 := mxL_bd hp nL hb
      have b2 := mxL_bd hp nK kb
      have hw2 : IntKind.i64.wrap (mxL (ctL T i) L + mxL (ctL T i) K) = mxL (ctL T i) L + mxL (ctL T i) K := wrap64 (by omega) (by omega)
      rw [brn_t (by simp; omega), ti, grd_t ⟨by omega, by omega⟩, grd_t (by simp only [List.length_drop]; omega), cellsC_at (ctL_at hi)]
      simp only [getA2, getI, if_true]
      rw [mosta_x N hN M m1.1 (by omega), mosta_x N hN L l1.1 (by omega), mosta_x N hN K k1.1 (by omega)]
      simp only [bnd', if_true]
      rw [hw2, brn_f (by simpa using e), hw, ih]
    · rw [brn_f (by simp; omega)]
theorem ChA_ct : ∀ {M : List (Int × Int)}, ChA M → ∀ {i : Nat}, i + 2 < M.length → aboveG (ctL M i) (ctL M (i + 1)) (ctL M (i + 2)) = true
  | [], _, i, h => by simp at h
  | [_], _, i, h => by simp only [List.length_cons, List.length_nil] at h; omega
  | [_, _], _, i, h => by simp only [List.length_cons, List.length_nil] at h; omega
  | a :: b :: c :: T, hc, 0, _ => hc.1
  | a :: b :: c :: T, hc, i + 1, h => by
    have := ChA_ct (M := b :: c :: T) hc.2 (i := i) (by simpa using h)
    simpa [ctL] using this
theorem bo_L8 (N : Nat) (M : List (Int × Int)) (hM : M.length ≤ 1000) (mb : ∀ c ∈ M, bdC c) (hC : ChA M) : ∀ (r i fuel : Nat), M.length - i = r → r < fuel → 2 ≤ i →
    m14_L8 N M.length (cellsC M) fuel (i : Int) = some (.inr ())
  | r, i, 0, _, h, _ => by omega
  | r, i, f + 1, hr, hf, h2 => by
    have hcl : (cellsC M).length = M.length * 2 := cellsC_len M
    have ti : (Int.toNat (i : Int)) = i := by omega
    rw [m14_L8]
    by_cases hi : i < M.length
    · have hw : IntKind.i64.wrap ((i : Int) + 1) = ((i + 1 : Nat) : Int) := by rw [wrap64 (by omega) (by omega)]; omega
      have hw1 : IntKind.i64.wrap ((i : Int) - 1) = ((i - 1 : Nat) : Int) := by rw [wrap64 (by omega) (by omega)]; omega
      have hw2 : IntKind.i64.wrap ((i : Int) - 2) = ((i - 2 : Nat) : Int) := by rw [wrap64 (by omega) (by omega)]; omega
      have t1 : (Int.toNat ((i - 1 : Nat) : Int)) = i - 1 := by omega
      have t2 : (Int.toNat ((i - 2 : Nat) : Int)) = i - 2 := by omega
      have ih := bo_L8 N M hM mb hC (r - 1) (i + 1) f (by omega) (by omega) (by omega)
      have ha := ChA_ct hC (i := i - 2) (by omega)
      rw [show i - 2 + 1 = i - 1 by omega, show i - 2 + 2 = i by omega] at ha
      have bu := mb _ (ctL_mem (L := M) (i := i - 2) (by omega))
      have bv := mb _ (ctL_mem (L := M) (i := i - 1) (by omega))
      have bw := mb _ (ctL_mem hi)
      rw [brn_t (by simp; omega), hw2, t2, grd_t ⟨by omega, by omega⟩, grd_t (by simp only [List.length_drop]; omega), cellsC_at (ctL_at (by omega))]
      simp only [getA2]
      rw [hw1, t1, grd_t ⟨by omega, by omega⟩, grd_t (by simp only [List.length_drop]; omega), cellsC_at (ctL_at (by omega))]
      simp only []
      rw [ti, grd_t ⟨by omega, by omega⟩, grd_t (by simp only [List.length_drop]; omega), cellsC_at (ctL_at hi)]
      simp only [getI, if_true]
      generalize ctL M (i - 2) = u at *
      generalize ctL M (i - 1) = v at *
      generalize ctL M i = w at *
      unfold bdC at bu bv bw
      have m1 := mulQ (x := v.1 - u.1) (y := w.2 - v.2) (A := 400) (B := 40) (by omega) (by omega)
      have m2 := mulQ (x := w.1 - v.1) (y := v.2 - u.2) (A := 400) (B := 40) (by omega) (by omega)
      simp only [aboveG, decide_eq_true_eq] at ha
      rw [wrap64 (n := v.1 - u.1) (by omega) (by omega), wrap64 (n := w.2 - v.2) (by omega) (by omega), wrap64 (n := w.1 - v.1) (by omega) (by omega), wrap64 (n := v.2 - u.2) (by omega) (by omega),
        wrap64 (n := (v.1 - u.1) * (w.2 - v.2)) (by omega) (by omega), wrap64 (n := (w.1 - v.1) * (v.2 - u.2)) (by omega) (by omega), brn_f (by simp; omega), hw, ih]
    · rw [brn_f (by simp; omega)]
theorem turns_Q {L : List (Int × Int)} (hb : ∀ c ∈ L, bdC c) : ∀ t ∈ turnsC (chC L), bdQ t ∧ Red t := fun t ht => by
  have hc := hull_chain L
  have hr := turnsC_pos hc.asc t ht
  obtain ⟨u, a, b, v, e, rfl⟩ := turnsC_mem.1 ht
  have h : a.2 < b.2 := by
    have hA := hc.asc
    rw [show (hullF L).map (ctL L) = u ++ a :: b :: v from e] at hA
    exact (List.pairwise_cons.1 (List.pairwise_append.1 hA).2.1).1 b (by simp)
  refine ⟨cross_bd (hb a (hc.sub a ?_)) (hb b (hc.sub b ?_)) (by omega), hr⟩
  · rw [show (hullF L).map (ctL L) = u ++ a :: b :: v from e]; simp
  · rw [show (hullF L).map (ctL L) = u ++ a :: b :: v from e]; simp
theorem law_both (ma mb : Int) (Z Y : List (Int × Int)) (hZ : byteZ Z) (hY : byteZ Y) (a0 : 0 ≤ ma) (a1 : ma ≤ 255) (b0 : 0 ≤ mb) (b1 : mb ≤ 255) : m14 8000 (.agg (deskC ma Z)) (.agg (deskC mb Y)) = some (.bool true) := by
  have zlen : (deskC ma Z).length = 17 := deskC_len hZ.1
  have ylen : (deskC mb Y).length = 17 := deskC_len hY.1
  obtain ⟨l1, l2, l3⟩ := mkL_len (mf := 20) (mr := 4) hZ ma a0
  obtain ⟨k1, k2, k3⟩ := mkL_len (mf := 20) (mr := 4) hY mb b0
  have lc : ∀ q ∈ mkL 20 4 (howMany ma) Z, -20 ≤ q.1 ∧ q.1 ≤ 20 ∧ -4 ≤ q.2 ∧ q.2 ≤ 4 := fun q hq => mkL_mem (by decide) (by decide) hq
  have kc : ∀ q ∈ mkL 20 4 (howMany mb) Y, -20 ≤ q.1 ∧ q.1 ≤ 20 ∧ -4 ≤ q.2 ∧ q.2 ≤ 4 := fun q hq => mkL_mem (by decide) (by decide) hq
  have lmk := made_ok 8000 (by decide) 20 4 ma Z hZ a0 a1 (by decide) (by decide) (by decide) (by decide)
  have kmk := made_ok 8000 (by decide) 20 4 mb Y hY b0 b1 (by decide) (by decide) (by decide) (by decide)
  have lm : howMany ma = (mkL 20 4 (howMany ma) Z).length := l1.symm
  have km : howMany mb = (mkL 20 4 (howMany mb) Y).length := k1.symm
  have hL1 : 1 ≤ (mkL 20 4 (howMany ma) Z).length := by omega
  have hL8 : (mkL 20 4 (howMany ma) Z).length ≤ 8 := by omega
  have hK1 : 1 ≤ (mkL 20 4 (howMany mb) Y).length := by omega
  have hK8 : (mkL 20 4 (howMany mb) Y).length ≤ 8 := by omega
  generalize hL : mkL 20 4 (howMany ma) Z = L at *
  generalize hK : mkL 20 4 (howMany mb) Y = K at *
  have okL : ∀ q ∈ L, okC q = true := fun q hq => by have := lc q hq; simp [okC]; omega
  have okK : ∀ q ∈ K, okC q = true := fun q hq => by have := kc q hq; simp [okC]; omega
  have h0 : Chk L = 0 := Chk_of hL1 hL8 okL
  have h1 : Chk K = 0 := Chk_of hK1 hK8 okK
  obtain ⟨_, _, hb⟩ := Chk_len8 h0
  obtain ⟨_, _, kb⟩ := Chk_len8 h1
  obtain ⟨neA, neB, hI⟩ := merge_inv hb kb hL1 hK1
  have cL := hull_chain L
  have cK := hull_chain K
  have hlen := merge_len _ (chC L) (chC K) rfl neA neB cL.asc cL.cha cK.asc cK.cha
  have lA : (chC L).length = (hullF L).length := by unfold chC; simp
  have lB : (chC K).length = (hullF K).length := by unfold chC; simp
  have hA8 := hull_lenle L
  have hB8 := hull_lenle K
  have hA1 : 1 ≤ (hullF L).length := by rw [← lA]; cases h : chC L with | nil => exact absurd h neA | cons => simp
  have hB1 : 1 ≤ (hullF K).length := by rw [← lB]; cases h : chC K with | nil => exact absurd h neB | cons => simp
  have lT1 : (turnsC (chC L)).length = (hullF L).length - 1 := by rw [turnsC_len', lA]
  have lT2 : (turnsC (chC K)).length = (hullF K).length - 1 := by rw [turnsC_len', lB]
  have q1 := turns_Q hb
  have q2 := turns_Q kb
  have hsum : ∀ z ∈ mergeC (chC L) (chC K), ∃ u ∈ L, ∃ v ∈ K, z = addP u v := fun z hz => by
    obtain ⟨x, hx, y, hy, e⟩ := hI.sub z hz
    exact ⟨x, cL.sub x hx, y, cK.sub y hy, e⟩
  have hMb : ∀ z ∈ mergeC (chC L) (chC K), bdC z := fun z hz => by
    obtain ⟨u, hu, v, hv, rfl⟩ := hsum z hz
    have := lc u hu
    have := kc v hv
    unfold bdC addP; simp only; omega
  have hM1 : 1 ≤ (mergeC (chC L) (chC K)).length := by
    obtain ⟨z, hz, _⟩ := hI.dom (0, 1) (by decide)
    exact List.length_pos_of_mem hz
  have hcom : comC (chC L) (chC K) = ((turnsC (chC L)).filter (fun t => decide (t ∈ turnsC (chC K)))).length := rfl
  have hcl : comC (chC L) (chC K) ≤ (turnsC (chC L)).length := by rw [hcom]; exact List.length_filter_le _ _
  have hboth := bothG 8000 (by decide) L K h0 h1
  have ht1 := turnsG_ok 8000 (by decide) L h0
  have ht2 := turnsG_ok 8000 (by decide) K h1
  have hn1 := neededG_ok 8000 (by decide) L h0
  have hn2 := neededG_ok 8000 (by decide) K h1
  change m34 8000 _ _ = some (.tup [.lst false (mergeC (chC L) (chC K)).length (cellsC (mergeC (chC L) (chC K))), .int .i64 0]) at hboth
  change m26 8000 _ = some (.tup [.lst false (turnsC (chC L)).length (cellsC (turnsC (chC L))), .int .i64 0]) at ht1
  change m26 8000 _ = some (.tup [.lst false (turnsC (chC K)).length (cellsC (turnsC (chC K))), .int .i64 0]) at ht2
  obtain ⟨P, p1, p2, p3⟩ := prices2 8000 (by decide)
  have hcc := conc 8000 (by decide) (turnsC (chC L)) (turnsC (chC K)) P (by omega) (by omega) (by omega)
  have hworks : m15 8000 = some (.bool true) := by simp [m15]
  have hTb : ∀ t ∈ turnsC (chC L) ++ turnsC (chC K) ++ P, bdP t := fun t ht => by
    rcases List.mem_append.1 ht with ht | ht
    · rcases List.mem_append.1 ht with ht | ht
      · exact bdQ_P (q1 t ht).1
      · exact bdQ_P (q2 t ht).1
    · exact p2 t ht
  have r0 := fun n6 c6 n7 c7 n3 c3 => bo_L0 8000 (by decide) (turnsC (chC L)) (turnsC (chC K)) (by omega) (by omega) q1 L.length K.length n3 n6 n7 (cellsC L) (cellsC K) c3 c6 c7 (turnsC (chC L)).length 0 8000 0 (by omega) (by omega) (by omega)
  rw [List.drop_zero, ← hcom] at r0
  have r1 := fun n6 c6 n7 c7 n3 c3 n4 c4 x => bo_L1 8000 (by decide) (turnsC (chC K)) (by omega) q2 L.length K.length n3 n4 n6 n7 (cellsC L) (cellsC K) c3 c4 c6 c7 x (turnsC (chC K)).length 0 8000 (by omega) (by omega)
  have r2 := fun n4 c4 n5 c5 => bo_L2 8000 (by decide) L K (mergeC (chC L) (chC K)) hL8 hK8 (by omega) lc kc hI.asc hsum n4 n5 c4 c5 (mergeC (chC L) (chC K)).length 0 8000 (by omega) (by omega)
  have r7 := bo_L7 8000 (by decide) L K (mergeC (chC L) (chC K)) (turnsC (chC L) ++ turnsC (chC K) ++ P) ⟨hL1, hL8⟩ ⟨hK1, hK8⟩ ⟨hM1, by omega⟩ hb kb hMb (by simp; omega) hTb _ hI (turnsC (chC L) ++ turnsC (chC K) ++ P).length 0 8000 (by omega) (by simp; omega)
  have r8 := bo_L8 8000 (mergeC (chC L) (chC K)) (by omega) hMb hI.cha ((mergeC (chC L) (chC K)).length - 2) 2 8000 rfl (by omega) (by omega)
  simp only [m14, getA]
  rw [grd_t (by omega), show (deskC ma Z).take 17 = deskC ma Z by rw [← zlen, List.take_length], lmk]
  simp only [bnd', getL]
  rw [grd_t (by omega), show (deskC mb Y).take 17 = deskC mb Y by rw [← ylen, List.take_length], kmk]
  simp only []
  rw [lm, km, hboth]
  simp only [getT2, getI, if_true]
  rw [ht1]
  simp only [if_true]
  rw [ht2]
  simp only [if_true]
  rw [hn1]
  simp only [if_true]
  rw [hn2]
  simp only [if_true]
  rw [brn_f (by simp), brn_f (by simp), brn_f (by simp), brn_f (by simp), brn_f (by simp), brn_f (by simp; intro h; rw [h] at hM1; simp at hM1)]
  rw [show m14_L0 8000 L.length (cellsC L) K.length (cellsC K) _ _ (turnsC (chC L)).length (cellsC (turnsC (chC L))) (turnsC (chC K)).length (cellsC (turnsC (chC K))) _ _ _ _ 8000 0 0 = _ from r0 _ _ _ _ _ _]
  simp only []
  rw [show m14_L1 8000 L.length (cellsC L) K.length (cellsC K) _ _ _ _ (turnsC (chC K)).length (cellsC (turnsC (chC K))) _ _ _ _ _ 8000 0 = _ from r1 _ _ _ _ _ _ _ _ _]
  simp only []
  have w1 : IntKind.i64.wrap (((hullF L).length : Int) + ((hullF K).length : Int)) = ((hullF L).length : Int) + ((hullF K).length : Int) := wrap64 (by omega) (by omega)
  have w2 : IntKind.i64.wrap (((hullF L).length : Int) + ((hullF K).length : Int) - 1) = ((hullF L).length : Int) + ((hullF K).length : Int) - 1 := wrap64 (by omega) (by omega)
  have w3 : IntKind.i64.wrap (((hullF L).length : Int) + ((hullF K).length : Int) - 1 - ((0 + comC (chC L) (chC K) : Nat) : Int)) = ((mergeC (chC L) (chC K)).length : Int) := by rw [wrap64 (by omega) (by omega)]; omega
  rw [w1, w2, w3, brn_f (by simp)]
  rw [show m14_L2 8000 L.length (cellsC L) K.length (cellsC K) (mergeC (chC L) (chC K)).length (cellsC (mergeC (chC L) (chC K))) _ _ _ _ 8000 0 = _ from r2 _ _ _ _]
  simp only []
  rw [p1]
  simp only []
  rw [hcc]
  simp only []
  rw [show m14_L7 8000 L.length (cellsC L) K.length (cellsC K) _ _ _ _ 8000 0 = _ from r7]
  simp only []
  rw [show m14_L8 8000 (mergeC (chC L) (chC K)).length (cellsC (mergeC (chC L) (chC K))) 8000 2 = _ from r8]
  simp only [hworks, getB]
theorem con14 (x0 : List PV) (h0 : PT tab 70 x0) (x1 : List PV) (h1 : PT tab 70 x1) : FnP Try.prog 14 [.agg x0, .agg x1] (.bool true) := by
  obtain ⟨ma, Z, rfl, hZ, a0, a1⟩ := desk_of h0
  obtain ⟨mb, Y, rfl, hY, b0, b1⟩ := desk_of h1
  exact c14 8000 _ _ _ (law_both ma mb Z Y hZ hY a0 a1 b0 b1)
end Go.Proofs.Ytgnphlpoofaojaa

namespace Go.Proofs.Ytgnphlpoofaojaa.turnBoth
open Go.ChangeShapes Go.WideShapes Go.ChangeAt Go.RowKit Go.V

theorem own : ownKnob Try.prog.godebug = none := by kernel_rfl
theorem laid : laidOutB Try.prog = true := by kernel_rfl
set_option maxRecDepth 100000 in
theorem lifted (os : Os) (started : os.Started) (H : Type) (enc : TypeId × Value → H) :
    ReturnsInHanded {} Try.checked os 14 .any (Rows.turnBothSpec.pre6 enc Try.prog Try.f14 Rows.turnBothRow.domain false) (Rows.turnBothSpec.post enc Try.prog Try.f14 false true false false) := by
  refine returnsInHanded_of_change (C := Try.checked) own started (by kernel_rfl) Try.func14
    (ChangeSpec.witness6 (enc := enc) (C := Try.checked) false ⟨#[], #[.agg #[.int .u8 0, .int .i8 0, .int .i8 0, .int .i8 0, .int .i8 0, .int .i8 0, .int .i8 0, .int .i8 0, .int .i8 0, .int .i8 0, .int .i8 0, .int .i8 0, .int .i8 0, .int .i8 0, .int .i8 0, .int .i8 0, .int .i8 0], .agg #[.int .u8 0, .int .i8 0, .int .i8 0, .int .i8 0, .int .i8 0, .int .i8 0, .int .i8 0, .int .i8 0, .int .i8 0, .int .i8 0, .int .i8 0, .int .i8 0, .int .i8 0, .int .i8 0, .int .i8 0, .int .i8 0, .int .i8 0]], []⟩ 8 (by kernel_rfl) (by kernel_rfl) (by kernel_rfl) (by kernel_rfl)) ?_
  intro W base args ds gs before hval0 hW hcnd _
  have hW' := hW
  obtain ⟨p, q, hA0, hV, rfl, hfz, hnd⟩ := hW
  have hA : DataW.TrodAll enc Try.prog W 0 (fun _ => true) true Try.f14.params.toList args.toList ds p := hA0
  rw [Try.params14] at hA
  obtain ⟨v0, vs0, d0, ds0, p0, q0, e0, rfl, rfl, h0, hr0⟩ := trodAll_cons hA
  obtain ⟨v1, vs1, d1, ds1, p1, q1, e1, rfl, rfl, h1, hr1⟩ := trodAll_cons hr0
  obtain ⟨rfl, rfl, rfl⟩ := trodAll_nil hr1
  subst e1
  obtain rfl : args = #[v0, v1] := by cases args; simp_all
  obtain ⟨x0, k0, t0⟩ := arg_agg (n := 8) tab_ok (hval0 0 70 v0 rfl rfl) h0 (by kernel_rfl) (by kernel_rfl)
  obtain ⟨x1, k1, t1⟩ := arg_agg (n := 8) tab_ok (hval0 1 70 v1 rfl rfl) h1 (by kernel_rfl) (by kernel_rfl)
  obtain ⟨rfl, rfl⟩ := trodVars_none hV
  clear hA0 hval0
  simp only [List.append_nil] at hW'
  refine (FnP.calls (W := W) (vals := #[v0, v1]) (con14 x0 t0 x1 t1) (.cons _ _ _ _ k0 (.cons _ _ _ _ k1 .nil)) (fun x hx => by simp [Gv] at hx)).mono fun e W' ⟨he, hg⟩ => ?_
  subst he
  exact ⟨_, rfl, post_of_kept (pv := []) hW' (fun _ _ _ => trodAll_cons_mk (shut_bool Try.underlying4 _) trodAll_mk0) (fun sp hsp => trodAll_cons_mk (Kept.trod hg laid (by kernel_rfl) (of_decide_eq_true (by kernel_rfl)) h0 (fun y hy => hsp y (by simp [hy]))) (trodAll_cons_mk (Kept.trod hg laid (by kernel_rfl) (of_decide_eq_true (by kernel_rfl)) h1 (fun y hy => hsp y (by simp [hy]))) (trodAll_mk0))) (fun _ _ => rfl) (by simp)
    hg (ok_one (by kernel_rfl) rfl (okWide_bool_mk Try.underlying4 _))⟩

theorem over : Rows.turnBothRow.holds Try.pinned (OpenSpec.ofChange Rows.turnBothSpec) :=
  OpenClaim.holds_of_wide 14 Try.f14 rfl rfl rfl rfl rfl rfl rfl ⟨rfl, rfl, rfl, rfl, rfl⟩ rfl rfl rfl rfl rfl (by kernel_rfl) Try.func14 (by kernel_rfl)
    (of_decide_eq_true (by kernel_rfl)) (by unfold Func.isWrapper; first | (rw [if_pos (by decide +kernel)]; kernel_rfl) | (rw [if_neg (by decide +kernel)]; exact ⟨rfl, rfl⟩))
    (fun os started H enc _ => lifted os started H enc)

end Go.Proofs.Ytgnphlpoofaojaa.turnBoth
namespace Go.Proofs.Ytgnphlpoofaojaa
/-- the statement -/
theorem turnBoth_holds : Rows.TurnBothSaid := turnBoth.over
#print axioms turnBoth_holds
end Go.Proofs.Ytgnphlpoofaojaa
