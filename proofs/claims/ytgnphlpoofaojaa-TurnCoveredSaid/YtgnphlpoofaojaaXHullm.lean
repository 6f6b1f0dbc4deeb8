/-
  Contracts that are needed: the chain of the ones taken by rates, and what the reference says, are the same.
-/
import Derived.Test.YtgnphlpoofaojaaXLawcov
namespace Go.Proofs.Ytgnphlpoofaojaa
open Go.V
theorem less_asym {a b : Int × Int} (h : lessP a b) : ¬ lessP b a := by unfold lessP at *; omega
/-- between two prices -/
def medP (a b : Int × Int) : Int × Int := (a.1 + b.1, a.2 + b.2)
theorem med_l {a b : Int × Int} (h : lessP a b) : lessP a (medP a b) := by
  unfold lessP medP at *; simp only
  have : a.1 * (a.2 + b.2) = a.1 * a.2 + a.1 * b.2 := by grind
  have : (a.1 + b.1) * a.2 = a.1 * a.2 + b.1 * a.2 := by grind
  omega
theorem med_r {a b : Int × Int} (h : lessP a b) : lessP (medP a b) b := by
  unfold lessP medP at *; simp only
  have : b.1 * (a.2 + b.2) = b.1 * a.2 + b.1 * b.2 := by grind
  have : (a.1 + b.1) * b.2 = a.1 * b.2 + b.1 * b.2 := by grind
  omega
def upP (a : Int × Int) : Int × Int := (a.1 + a.2, a.2)
def dnP (a : Int × Int) : Int × Int := (a.1 - a.2, a.2)
theorem up_l {a : Int × Int} (h : 0 < a.2) : lessP a (upP a) := by
  unfold lessP upP; simp only
  have := Int.mul_pos h h
  have : (a.1 + a.2) * a.2 = a.1 * a.2 + a.2 * a.2 := by grind
  omega
theorem dn_r {a : Int × Int} (h : 0 < a.2) : lessP (dnP a) a := by
  unfold lessP dnP; simp only
  have := Int.mul_pos h h
  have : (a.1 - a.2) * a.2 = a.1 * a.2 - a.2 * a.2 := by grind
  omega
/-- who is worth more, by the price at which they are worth the same -/
theorem cross_lt {a b p : Int × Int} (h : a.2 < b.2) (hp : 0 < p.2) : (CtP p a < CtP p b ↔ lessP (crossP a b) p) ∧ (CtP p b < CtP p a ↔ lessP p (crossP a b)) := by
  obtain ⟨h1, h2⟩ := cross_sp (a := a) (b := b) (by omega)
  have key : (CtP p b - CtP p a) * (crossP a b).2 = (p.1 * (crossP a b).2 - (crossP a b).1 * p.2) * (b.2 - a.2) := by
    unfold CtP; generalize crossP a b = q at *; grind
  refine ⟨⟨fun hl => ?_, cross_above h⟩, ⟨fun hl => ?_, cross_below h⟩⟩
  · unfold lessP
    have e1 : 0 < (CtP p b - CtP p a) * (crossP a b).2 := Int.mul_pos (by omega) h1
    rw [key] at e1
    have := mul_pos_of (by omega) e1
    omega
  · unfold lessP
    have e1 : 0 < (CtP p a - CtP p b) * (crossP a b).2 := Int.mul_pos (by omega) h1
    have e2 : (CtP p a - CtP p b) * (crossP a b).2 = ((crossP a b).1 * p.2 - p.1 * (crossP a b).2) * (b.2 - a.2) := by
      have : (CtP p a - CtP p b) * (crossP a b).2 = -((CtP p b - CtP p a) * (crossP a b).2) := by grind
      rw [this, key]; grind
    rw [e2] at e1
    have := mul_pos_of (by omega) e1
    omega
theorem above_less {a b c : Int × Int} (h1 : a.2 < b.2) (h2 : b.2 < c.2) : aboveG a b c = true ↔ lessP (crossP a b) (crossP b c) := by
  obtain ⟨s1, s2⟩ := cross_sp (a := a) (b := b) (by omega)
  obtain ⟨t1, t2⟩ := cross_sp (a := b) (b := c) (by omega)
  unfold aboveG lessP
  rw [decide_eq_true_eq]
  generalize crossP a b = q at *
  generalize crossP b c = r at *
  have key : ((b.1 - a.1) * (c.2 - b.2) - (c.1 - b.1) * (b.2 - a.2)) * (q.2 * r.2) = (r.1 * q.2 - q.1 * r.2) * ((b.2 - a.2) * (c.2 - b.2)) := by grind
  have k1 := Int.mul_pos s1 t1
  have k2 : 0 < (b.2 - a.2) * (c.2 - b.2) := Int.mul_pos (by omega) (by omega)
  constructor
  · intro h
    have e := Int.mul_pos (a := (b.1 - a.1) * (c.2 - b.2) - (c.1 - b.1) * (b.2 - a.2)) (by omega) k1
    rw [key] at e
    have := mul_pos_of k2 e
    omega
  · intro h
    have e := Int.mul_pos (a := r.1 * q.2 - q.1 * r.2) (by omega) k2
    rw [← key] at e
    have := mul_pos_of k1 e
    omega

def Chn : List (Int × Int) → Prop
  | c :: b :: a :: T => aboveG a b c = true ∧ Chn (b :: a :: T)
  | _ => True
def Dsc (T : List (Int × Int)) : Prop := T.Pairwise fun c b => b.2 < c.2
def popC (k : Int × Int) : List (Int × Int) → List (Int × Int)
  | b :: a :: T => if aboveG a b k then b :: a :: T else popC k (a :: T)
  | T => T
theorem popC_sp (k : Int × Int) : ∀ (T : List (Int × Int)), Dsc T → Chn T → (∀ t ∈ T, t.2 < k.2) → T ≠ [] →
    (popC k T ≠ [] ∧ (∃ u, T = u ++ popC k T)) ∧ Chn (k :: popC k T) ∧ ∀ p : Int × Int, 0 < p.2 → ∀ t ∈ T, ∃ t' ∈ k :: popC k T, CtP p t ≤ CtP p t'
  | [], _, _, _, h => absurd rfl h
  | [b], _, _, _, _ => ⟨⟨by simp [popC], [], rfl⟩, trivial, fun p _ t ht => ⟨t, by simp only [popC]; exact .tail _ ht, by omega⟩⟩
  | b :: a :: T, hd, hc, hk, _ => by
    unfold popC
    split
    · rename_i hab
      exact ⟨⟨by simp, [], rfl⟩, ⟨hab, hc⟩, fun p _ t ht => ⟨t, .tail _ ht, by omega⟩⟩
    · rename_i hab
      have hd' := List.pairwise_cons.1 hd
      have hc' : Chn (a :: T) := by
        cases T with
        | nil => trivial
        | cons z T => exact hc.2
      obtain ⟨⟨r1, u, r2⟩, r3, r4⟩ := popC_sp k (a :: T) hd'.2 hc' (fun t ht => hk t (.tail _ ht)) (by simp)
      refine ⟨⟨r1, b :: u, by rw [List.cons_append, ← r2]⟩, r3, fun p hp t ht => ?_⟩
      rcases List.mem_cons.1 ht with rfl | ht
      · have hab1 : a.2 < t.2 := hd'.1 a (by simp)
        have hbk : t.2 < k.2 := hk t (by simp)
        have hcov : covG1 a k t = true := by
          unfold covG1
          rw [if_neg (by omega), if_neg (by omega), if_neg (by omega), if_neg (by omega)]
          simpa using hab
        have hn := covG1_sound (by omega) hp hcov
        rcases Int.lt_or_le (CtP p a) (CtP p t) with h1 | h1
        · exact ⟨k, by simp, by omega⟩
        · obtain ⟨t', h2, h3⟩ := r4 p hp a (by simp)
          exact ⟨t', h2, by omega⟩
      · exact r4 p hp t ht
/-- below the price at which the last one turns, the ones with smaller rates are worth more -/
theorem chn_hi : ∀ (T : List (Int × Int)) (k : Int × Int) (p : Int × Int), 0 < p.2 → Dsc (k :: T) → Chn (k :: T) → (∀ b T', T = b :: T' → lessP (crossP b k) p) → ∀ t ∈ T, CtP p t < CtP p k
  | [], _, _, _, _, _, _, t, h => by simp at h
  | b :: T, k, p, hp, hd, hc, hl, t, h => by
    have hd' := List.pairwise_cons.1 hd
    have h1 := hl b T rfl
    have hbk : b.2 < k.2 := hd'.1 b (by simp)
    have h2 := cross_above hbk h1
    rcases List.mem_cons.1 h with rfl | h
    · exact h2
    · have ih := chn_hi T b p hp hd'.2 (by cases T with
        | nil => trivial
        | cons z T => exact hc.2) (fun z T' e => by
          subst e
          have hzb : z.2 < b.2 := (List.pairwise_cons.1 hd'.2).1 z (by simp)
          have := (above_less hzb hbk).1 hc.1
          exact less_trans (cross_sp (by omega)).1 (cross_sp (by omega)).1 hp this h1) t h
      omega
def Asc (T : List (Int × Int)) : Prop := T.Pairwise fun b c => b.2 < c.2
def ChA : List (Int × Int) → Prop
  | a :: b :: c :: T => aboveG a b c = true ∧ ChA (b :: c :: T)
  | _ => True
theorem chn_lo : ∀ (T : List (Int × Int)) (k : Int × Int) (p : Int × Int), 0 < p.2 → Asc (k :: T) → ChA (k :: T) → (∀ b T', T = b :: T' → lessP p (crossP k b)) → ∀ t ∈ T, CtP p t < CtP p k
  | [], _, _, _, _, _, _, t, h => by simp at h
  | b :: T, k, p, hp, hd, hc, hl, t, h => by
    have hd' := List.pairwise_cons.1 hd
    have h1 := hl b T rfl
    have hbk : k.2 < b.2 := hd'.1 b (by simp)
    have h2 := cross_below hbk h1
    rcases List.mem_cons.1 h with rfl | h
    · exact h2
    · have ih := chn_lo T b p hp hd'.2 (by cases T with
        | nil => trivial
        | cons z T => exact hc.2) (fun z T' e => by
          subst e
          have hzb : b.2 < z.2 := (List.pairwise_cons.1 hd'.2).1 z (by simp)
          have := (above_less hbk hzb).1 hc.1
          exact less_trans hp (cross_sp (by omega)).1 (cross_sp (by omega)).1 h1 this) t h
      omega
theorem ChA_tail {a : Int × Int} {T : List (Int × Int)} (h : ChA (a :: T)) : ChA T := by
  match T, h with
  | [], _ => trivial
  | [_], _ => trivial
  | b :: c :: T, h => exact h.2
theorem Chn_tail {a : Int × Int} {T : List (Int × Int)} (h : Chn (a :: T)) : Chn T := by
  match T, h with
  | [], _ => trivial
  | [_], _ => trivial
  | b :: c :: T, h => exact h.2
/-- both orders -/
theorem Chn_rev : ∀ (T U : List (Int × Int)), Chn T → ChA U → (∀ b T', T = b :: T' → ∀ c U', U = c :: U' → (∀ a T'', T' = a :: T'' → aboveG a b c = true) ∧ (∀ d U'', U' = d :: U'' → aboveG b c d = true)) → ChA (T.reverse ++ U)
  | [], U, _, hU, _ => by simpa using hU
  | b :: T, U, hT, hU, hb => by
    rw [List.reverse_cons, List.append_assoc, List.singleton_append]
    refine Chn_rev T (b :: U) (Chn_tail hT) ?_ ?_
    · match U, hU, hb with
      | [], _, _ => trivial
      | [_], _, _ => trivial
      | c :: d :: U', hU, hb => exact ⟨(hb b T rfl c (d :: U') rfl).2 d U' rfl, hU⟩
    · rintro a T' rfl c U' e
      obtain ⟨rfl, rfl⟩ := List.cons.inj e
      refine ⟨fun z T'' e => ?_, fun d U'' e => ?_⟩
      · subst e; exact hT.1
      · subst e; exact (hb b (a :: T') rfl d U'' rfl).1 a T' rfl
theorem Dsc_rev {T : List (Int × Int)} (h : Dsc T) : Asc T.reverse := by
  unfold Asc Dsc at *
  exact List.pairwise_reverse.2 h
def kl (f : Nat → Int × Int) (i j : Nat) : Prop := (f i).2 < (f j).2 ∨ ((f i).2 = (f j).2 ∧ ((f j).1 < (f i).1 ∨ ((f i).1 = (f j).1 ∧ i < j)))
def popI (f : Nat → Int × Int) (k : Nat) : List Nat → List Nat
  | b :: a :: T => if aboveG (f a) (f b) (f k) then b :: a :: T else popI f k (a :: T)
  | T => T
def pushI (f : Nat → Int × Int) (T : List Nat) (k : Nat) : List Nat :=
  match T with
  | [] => [k]
  | b :: T => if (f b).2 = (f k).2 then b :: T else k :: popI f k (b :: T)
theorem popI_map (f : Nat → Int × Int) (k : Nat) : ∀ T : List Nat, (popI f k T).map f = popC (f k) (T.map f)
  | [] => rfl
  | [b] => rfl
  | b :: a :: T => by
    have ih := popI_map f k (a :: T)
    simp only [popI, popC, List.map_cons] at ih ⊢
    split
    · rfl
    · exact ih
theorem popI_sub (f : Nat → Int × Int) (k : Nat) : ∀ T : List Nat, ∃ u, T = u ++ popI f k T
  | [] => ⟨[], rfl⟩
  | [b] => ⟨[], rfl⟩
  | b :: a :: T => by
    obtain ⟨u, h⟩ := popI_sub f k (a :: T)
    unfold popI
    split
    · exact ⟨[], rfl⟩
    · exact ⟨b :: u, by rw [List.cons_append, ← h]⟩
structure HInv (f : Nat → Int × Int) (P T : List Nat) : Prop where
  sub : ∀ t ∈ T, t ∈ P
  dsc : Dsc (T.map f)
  chn : Chn (T.map f)
  dom : ∀ p : Int × Int, 0 < p.2 → ∀ i ∈ P, ∃ t ∈ T, CtP p (f i) ≤ CtP p (f t)
  top : ∀ i ∈ P, ∃ b T', T = b :: T' ∧ (f i).2 ≤ (f b).2
  fst : ∀ t ∈ T, ∀ i ∈ P, (f i).2 = (f t).2 → i = t ∨ kl f t i
theorem CtP_same {p a b : Int × Int} (hp : 0 < p.2) (h : a.2 = b.2) : (CtP p a < CtP p b ↔ a.1 < b.1) ∧ (CtP p a ≤ CtP p b ↔ a.1 ≤ b.1) := by
  have h1 : ∀ x y : Int, x < y → x * p.2 < y * p.2 := fun x y h => Int.mul_lt_mul_of_pos_right h hp
  unfold CtP
  rw [h]
  constructor
  · constructor
    · intro hl
      rcases Int.lt_or_le a.1 b.1 with h2 | h2
      · exact h2
      · rcases Int.lt_or_eq_of_le h2 with h3 | h3
        · have := h1 _ _ h3; omega
        · rw [h3] at hl; omega
    · intro hl; have := h1 _ _ hl; omega
  · constructor
    · intro hl
      rcases Int.lt_or_le b.1 a.1 with h2 | h2
      · have := h1 _ _ h2; omega
      · exact h2
    · intro hl
      rcases Int.lt_or_eq_of_le hl with h3 | h3
      · have := h1 _ _ h3; omega
      · rw [h3]; omega
theorem HInv.push {f : Nat → Int × Int} {P T : List Nat} (h : HInv f P T) (k : Nat) (hk : ∀ i ∈ P, kl f i k) (hne : P ≠ [] → T ≠ []) : HInv f (P ++ [k]) (pushI f T k) ∧ pushI f T k ≠ [] := by
  match T, h, hne with
  | [], h, hne =>
    have hP : P = [] := by
      cases P with
      | nil => rfl
      | cons x P => exact absurd rfl (hne (by simp))
    subst hP
    refine ⟨⟨by simp [pushI], by simp [pushI, Dsc], trivial, ?_, ?_, ?_⟩, by simp [pushI]⟩
    · intro p _ i hi
      simp at hi; subst hi
      exact ⟨i, by simp [pushI], by omega⟩
    · intro i hi
      simp at hi; subst hi
      exact ⟨i, [], rfl, by omega⟩
    · intro t ht i hi _
      simp [pushI] at ht hi; subst ht; subst hi
      exact .inl rfl
  | b :: T, h, _ =>
    have hbP : b ∈ P := h.sub b (by simp)
    have hkb := hk b hbP
    by_cases hr : (f b).2 = (f k).2
    · have e : pushI f (b :: T) k = b :: T := by simp [pushI, hr]
      rw [e]
      refine ⟨⟨fun t ht => by simp [h.sub t ht], h.dsc, h.chn, ?_, ?_, ?_⟩, by simp⟩
      · intro p hp i hi
        rcases List.mem_append.1 hi with hi | hi
        · exact h.dom p hp i hi
        · simp at hi; subst hi
          refine ⟨b, by simp, (CtP_same hp hr.symm).2.2 ?_⟩
          unfold kl at hkb; omega
      · intro i hi
        rcases List.mem_append.1 hi with hi | hi
        · exact h.top i hi
        · simp at hi; subst hi
          exact ⟨b, T, rfl, by omega⟩
      · intro t ht i hi hir
        rcases List.mem_append.1 hi with hi | hi
        · exact h.fst t ht i hi hir
        · simp at hi; subst hi
          exact .inr (hk t (h.sub t ht))
    · have e : pushI f (b :: T) k = k :: popI f k (b :: T) := by simp [pushI, hr]
      rw [e]
      have hlt : ∀ i ∈ P, (f i).2 < (f k).2 := fun i hi => by
        obtain ⟨b', T', e, hle⟩ := h.top i hi
        obtain ⟨rfl, rfl⟩ := List.cons.inj e
        unfold kl at hkb; omega
      obtain ⟨u, hu⟩ := popI_sub f k (b :: T)
      have hsub : ∀ t ∈ popI f k (b :: T), t ∈ b :: T := fun t ht => by rw [hu]; simp [ht]
      obtain ⟨_, c2, c3⟩ := popC_sp (f k) ((b :: T).map f) h.dsc h.chn (fun t ht => by
        obtain ⟨i, hi, rfl⟩ := List.mem_map.1 ht
        exact hlt i (h.sub i hi)) (by simp)
      rw [← popI_map] at c2 c3
      have hd : Dsc ((popI f k (b :: T)).map f) := by
        have := h.dsc
        rw [hu, List.map_append] at this
        exact (List.pairwise_append.1 this).2.1
      refine ⟨⟨?_, ?_, by simpa using c2, ?_, ?_, ?_⟩, by simp⟩
      · intro t ht
        rcases List.mem_cons.1 ht with rfl | ht
        · simp
        · simp [h.sub t (hsub t ht)]
      · rw [List.map_cons]
        refine List.pairwise_cons.2 ⟨fun t ht => ?_, hd⟩
        obtain ⟨i, hi, rfl⟩ := List.mem_map.1 ht
        exact hlt i (h.sub i (hsub i hi))
      · intro p hp i hi
        rcases List.mem_append.1 hi with hi | hi
        · obtain ⟨t, ht, h1⟩ := h.dom p hp i hi
          obtain ⟨t', ht', h2⟩ := c3 p hp (f t) (List.mem_map.2 ⟨t, ht, rfl⟩)
          rcases List.mem_cons.1 ht' with rfl | ht'
          · exact ⟨k, by simp, by omega⟩
          · obtain ⟨j, hj, rfl⟩ := List.mem_map.1 ht'
            exact ⟨j, by simp [hj], by omega⟩
        · simp at hi; subst hi
          exact ⟨i, by simp, by omega⟩
      · intro i hi
        refine ⟨k, _, rfl, ?_⟩
        rcases List.mem_append.1 hi with hi | hi
        · have := hlt i hi; omega
        · simp at hi; subst hi; omega
      · intro t ht i hi hir
        rcases List.mem_append.1 hi with hi | hi
        · rcases List.mem_cons.1 ht with e | ht
          · have := hlt i hi; rw [e] at hir; omega
          · exact h.fst t (hsub t ht) i hi hir
        · simp at hi; subst hi
          rcases List.mem_cons.1 ht with rfl | ht
          · exact .inl rfl
          · have := hlt t (h.sub t (hsub t ht)); omega
theorem hull_inv (f : Nat → Int × Int) : ∀ (S P T : List Nat), HInv f P T → (P ≠ [] → T ≠ []) → (P ++ S).Pairwise (kl f) → HInv f (P ++ S) (S.foldl (pushI f) T) ∧ (P ++ S ≠ [] → S.foldl (pushI f) T ≠ [])
  | [], P, T, h, hne, _ => by simpa using ⟨h, hne⟩
  | k :: S, P, T, h, hne, hp => by
    have e : P ++ k :: S = (P ++ [k]) ++ S := by simp
    rw [e] at hp ⊢
    have hk : ∀ i ∈ P, kl f i k := fun i hi => by
      have := (List.pairwise_append.1 hp).1
      exact (List.pairwise_append.1 this).2.2 i hi k (by simp)
    obtain ⟨h1, h2⟩ := h.push k hk hne
    exact hull_inv f S (P ++ [k]) (pushI f T k) h1 (fun _ => h2) hp
/-- a contract is worth more than all unlike ones, at some price -/
def Alone (f : Nat → Int × Int) (n k : Nat) : Prop := k < n ∧ (∀ i, i < k → f i ≠ f k) ∧ ∃ p : Int × Int, 0 < p.2 ∧ ∀ i, i < n → f i = f k ∨ CtP p (f i) < CtP p (f k)
/-- a price at which one of the chain is alone -/
def Opn (pre : List (Int × Int)) (k : Int × Int) (post : List (Int × Int)) (x : Int × Int) : Prop :=
  0 < x.2 ∧ (∀ b T, pre = b :: T → lessP (crossP b k) x) ∧ (∀ c T, post = c :: T → lessP x (crossP k c))
theorem Opn_ex {pre post : List (Int × Int)} {k : Int × Int} (h1 : ∀ b T, pre = b :: T → b.2 < k.2) (h2 : ∀ c T, post = c :: T → k.2 < c.2) (h3 : ∀ b T c U, pre = b :: T → post = c :: U → aboveG b k c = true) : ∃ x, Opn pre k post x := by
  match pre, post, h1, h2, h3 with
  | [], [], _, _, _ => exact ⟨(0, 1), by decide, by simp, by simp⟩
  | [], c :: U, _, h2, _ =>
    have hc := h2 c U rfl
    have hp := (cross_sp (a := k) (b := c) (by omega)).1
    exact ⟨dnP (crossP k c), hp, by simp, fun c' T e => by obtain ⟨rfl, rfl⟩ := List.cons.inj e; exact dn_r hp⟩
  | b :: T, [], h1, _, _ =>
    have hb := h1 b T rfl
    have hp := (cross_sp (a := b) (b := k) (by omega)).1
    exact ⟨upP (crossP b k), hp, fun c' T e => by obtain ⟨rfl, rfl⟩ := List.cons.inj e; exact up_l hp, by simp⟩
  | b :: T, c :: U, h1, h2, h3 =>
    have hb := h1 b T rfl
    have hc := h2 c U rfl
    have hl := (above_less hb hc).1 (h3 b T c U rfl rfl)
    have p1 := (cross_sp (a := b) (b := k) (by omega)).1
    have p2 := (cross_sp (a := k) (b := c) (by omega)).1
    exact ⟨medP (crossP b k) (crossP k c), by unfold medP; simp only; omega, fun c' T e => by obtain ⟨rfl, rfl⟩ := List.cons.inj e; exact med_l hl,
      fun c' T e => by obtain ⟨rfl, rfl⟩ := List.cons.inj e; exact med_r hl⟩
theorem Opn_up {pre post : List (Int × Int)} {k x : Int × Int} (h1 : ∀ b T, pre = b :: T → b.2 < k.2) (h2 : ∀ c T, post = c :: T → k.2 < c.2) (h : Opn pre k post x) : ∃ y, Opn pre k post y ∧ lessP x y := by
  obtain ⟨hx, ha, hb⟩ := h
  match post, h2, hb with
  | [], _, _ =>
    refine ⟨upP x, ⟨hx, fun b T e => ?_, by simp⟩, up_l hx⟩
    have := h1 b T e
    exact less_trans (cross_sp (by omega)).1 hx hx (ha b T e) (up_l hx)
  | c :: U, h2, hb =>
    have hc := h2 c U rfl
    have p2 := (cross_sp (a := k) (b := c) (by omega)).1
    have hl := hb c U rfl
    have hm : 0 < (medP x (crossP k c)).2 := by unfold medP; simp only; omega
    refine ⟨medP x (crossP k c), ⟨hm, fun b T e => ?_, fun c' T e => by obtain ⟨rfl, rfl⟩ := List.cons.inj e; exact med_r hl⟩, med_l hl⟩
    have := h1 b T e
    exact less_trans (cross_sp (by omega)).1 hx hm (ha b T e) (med_l hl)
theorem Opn_dn {pre post : List (Int × Int)} {k x : Int × Int} (h1 : ∀ b T, pre = b :: T → b.2 < k.2) (h2 : ∀ c T, post = c :: T → k.2 < c.2) (h : Opn pre k post x) : ∃ y, Opn pre k post y ∧ lessP y x := by
  obtain ⟨hx, ha, hb⟩ := h
  match pre, h1, ha with
  | [], _, _ =>
    refine ⟨dnP x, ⟨hx, by simp, fun b T e => ?_⟩, dn_r hx⟩
    have := h2 b T e
    exact less_trans hx hx (cross_sp (by omega)).1 (dn_r hx) (hb b T e)
  | c :: U, h1, ha =>
    have hc := h1 c U rfl
    have p2 := (cross_sp (a := c) (b := k) (by omega)).1
    have hl := ha c U rfl
    have hm : 0 < (medP (crossP c k) x).2 := by unfold medP; simp only; omega
    refine ⟨medP (crossP c k) x, ⟨hm, fun c' T e => by obtain ⟨rfl, rfl⟩ := List.cons.inj e; exact med_l hl, fun b T e => ?_⟩, med_r hl⟩
    have := h2 b T e
    exact less_trans hm hx (cross_sp (by omega)).1 (med_r hl) (hb b T e)
theorem rev_split {α : Type} {T : List α} {k : α} (h : k ∈ T) : ∃ post pre, T = post ++ k :: pre := List.append_of_mem h
theorem Chn_app : ∀ (u T : List (Int × Int)), Chn (u ++ T) → Chn T
  | [], _, h => h
  | _ :: u, T, h => Chn_app u T (Chn_tail h)
/-- one of the chain, and its neighbours -/
theorem chn_mid {post pre : List (Int × Int)} {k : Int × Int} (hd : Dsc (post ++ k :: pre)) (hc : Chn (post ++ k :: pre)) :
    (∀ b T, pre = b :: T → b.2 < k.2) ∧ (∀ c U, post.reverse = c :: U → k.2 < c.2) ∧ (∀ b T c U, pre = b :: T → post.reverse = c :: U → aboveG b k c = true) ∧
    (∀ x, 0 < x.2 → (∀ b T, pre = b :: T → lessP (crossP b k) x) → ∀ t ∈ pre, CtP x t < CtP x k) ∧
    (∀ x, 0 < x.2 → (∀ c U, post.reverse = c :: U → lessP x (crossP k c)) → ∀ t ∈ post, CtP x t < CtP x k) := by
  obtain ⟨d1, d2, d3⟩ := List.pairwise_append.1 hd
  have c2 := Chn_app post _ hc
  have hA : Asc (k :: post.reverse) := by
    have := Dsc_rev (T := post ++ [k]) (by
      unfold Dsc
      rw [List.pairwise_append]
      exact ⟨d1, by simp, fun a ha b hb => d3 a ha b (by simp at hb; simp [hb])⟩)
    simpa using this
  have hCA : ChA (k :: post.reverse) := by
    have := Chn_rev (post ++ [k]) [] (by
      have : ∀ (u : List (Int × Int)) (z : Int × Int) (v : List (Int × Int)), Chn (u ++ z :: v) → Chn (u ++ [z]) := by
        intro u
        induction u with
        | nil => intro z v _; trivial
        | cons a u ih =>
          intro z v h
          have h2 := ih z v (Chn_tail h)
          match u, h, h2 with
          | [], _, _ => trivial
          | [b], h, _ => exact ⟨h.1, trivial⟩
          | b :: c :: u, h, h2 => exact ⟨h.1, h2⟩
      exact this post k pre hc) trivial (by simp)
    simpa using this
  refine ⟨fun b T e => ?_, fun c U e => ?_, fun b T c U e1 e2 => ?_, fun x hx hl => ?_, fun x hx hl => ?_⟩
  · subst e; exact (List.pairwise_cons.1 d2).1 b (by simp)
  · have hm : c ∈ post := by rw [← List.mem_reverse, e]; simp
    exact d3 c hm k (by simp)
  · subst e1
    have hp : post = U.reverse ++ [c] := by rw [← List.reverse_reverse post, e2]; simp
    rw [hp, List.append_assoc] at hc
    exact (Chn_app U.reverse _ hc).1
  · exact chn_hi pre k x hx d2 c2 hl
  · intro t ht
    exact chn_lo post.reverse k x hx hA hCA hl t (by simpa using ht)
theorem hull_mem {f : Nat → Int × Int} {n : Nat} {P T : List Nat} (h : HInv f P T) (hP : ∀ i, i ∈ P ↔ i < n) (k : Nat) : k ∈ T ↔ Alone f n k := by
  constructor
  · intro hk
    have hkn : k < n := (hP k).1 (h.sub k hk)
    have hfirst : ∀ i, i < k → f i ≠ f k := fun i hi e => by
      rcases h.fst k hk i ((hP i).2 (by omega)) (by rw [e]) with h1 | h1
      · omega
      · unfold kl at h1; rw [e] at h1; omega
    refine ⟨hkn, hfirst, ?_⟩
    obtain ⟨post, pre, e⟩ := rev_split hk
    have hd := h.dsc
    have hc := h.chn
    rw [e, List.map_append, List.map_cons] at hd hc
    obtain ⟨m1, m2, m3, m4, m5⟩ := chn_mid hd hc
    have hopn : ∀ x, Opn (pre.map f) (f k) (post.map f).reverse x → ∀ t ∈ T, t = k ∨ CtP x (f t) < CtP x (f k) := fun x ⟨o1, o2, o3⟩ t ht => by
      rw [e] at ht
      rcases List.mem_append.1 ht with ht | ht
      · exact .inr (m5 x o1 o3 _ (List.mem_map.2 ⟨t, ht, rfl⟩))
      · rcases List.mem_cons.1 ht with rfl | ht
        · exact .inl rfl
        · exact .inr (m4 x o1 o2 _ (List.mem_map.2 ⟨t, ht, rfl⟩))
    have hle : ∀ x, Opn (pre.map f) (f k) (post.map f).reverse x → ∀ i, i < n → CtP x (f i) ≤ CtP x (f k) := fun x o i hi => by
      obtain ⟨t, ht, h1⟩ := h.dom x o.1 i ((hP i).2 hi)
      rcases hopn x o t ht with rfl | h2
      · exact h1
      · omega
    obtain ⟨x, hx⟩ := Opn_ex m1 m2 m3
    refine ⟨x, hx.1, fun i hi => ?_⟩
    by_cases hfe : f i = f k
    · exact .inl hfe
    · refine .inr ?_
      have h1 := hle x hx i hi
      rcases Int.lt_or_eq_of_le h1 with h2 | h2
      · exact h2
      · exfalso
        rcases Int.lt_trichotomy (f i).2 (f k).2 with hr | hr | hr
        · obtain ⟨y, hy, hl⟩ := Opn_dn m1 m2 hx
          have := hle y hy i hi
          have q1 := (cross_lt hr hx.1)
          have q2 := (cross_lt hr hy.1)
          have n1 : ¬ lessP (crossP (f i) (f k)) x := fun hh => by have := q1.1.2 hh; omega
          have n2 : ¬ lessP y (crossP (f i) (f k)) := fun hh => by have := q2.2.2 hh; omega
          have hcp := (cross_sp (a := f i) (b := f k) (by omega)).1
          have n3 : ¬ lessP x (crossP (f i) (f k)) := fun hh => by have := q1.2.2 hh; omega
          unfold lessP at n1 n2 n3 hl
          have e1 : x.1 * (crossP (f i) (f k)).2 = (crossP (f i) (f k)).1 * x.2 := by omega
          generalize crossP (f i) (f k) = q at *
          have e2 := Int.mul_pos (a := x.1 * y.2 - y.1 * x.2) (b := q.2) (by omega) hcp
          have e3 : 0 ≤ (y.1 * q.2 - q.1 * y.2) * x.2 := Int.mul_nonneg (by omega) (by have := hx.1; omega)
          have e4 : (x.1 * y.2 - y.1 * x.2) * q.2 = -((y.1 * q.2 - q.1 * y.2) * x.2) := by clear e2 e3; grind
          omega
        · refine hfe (Prod.ext ?_ hr)
          have a1 := (CtP_same hx.1 hr).1
          have a2 := (CtP_same hx.1 hr.symm).1
          have : ¬ (f i).1 < (f k).1 := fun hh => by have := a1.2 hh; omega
          have : ¬ (f k).1 < (f i).1 := fun hh => by have := a2.2 hh; omega
          omega
        · obtain ⟨y, hy, hl⟩ := Opn_up m1 m2 hx
          have := hle y hy i hi
          have q1 := (cross_lt hr hx.1)
          have q2 := (cross_lt hr hy.1)
          have n1 : ¬ lessP (crossP (f k) (f i)) x := fun hh => by have := q1.1.2 hh; omega
          have n2 : ¬ lessP (crossP (f k) (f i)) y := fun hh => by have := q2.1.2 hh; omega
          have hcp := (cross_sp (a := f k) (b := f i) (by omega)).1
          have n3 : ¬ lessP x (crossP (f k) (f i)) := fun hh => by have := q1.2.2 hh; omega
          unfold lessP at n1 n2 n3 hl
          have e1 : x.1 * (crossP (f k) (f i)).2 = (crossP (f k) (f i)).1 * x.2 := by omega
          generalize crossP (f k) (f i) = q at *
          have e2 := Int.mul_pos (a := y.1 * x.2 - x.1 * y.2) (b := q.2) (by omega) hcp
          have e3 : 0 ≤ (q.1 * y.2 - y.1 * q.2) * x.2 := Int.mul_nonneg (by omega) (by have := hx.1; omega)
          have e4 : (y.1 * x.2 - x.1 * y.2) * q.2 = -((q.1 * y.2 - y.1 * q.2) * x.2) := by clear e2 e3; grind
          omega
  · rintro ⟨hkn, hfirst, p, hp, hal⟩
    obtain ⟨t, ht, h1⟩ := h.dom p hp k ((hP k).2 hkn)
    have htn : t < n := (hP t).1 (h.sub t ht)
    have hft : f t = f k := by
      rcases hal t htn with h2 | h2
      · exact h2
      · omega
    rcases h.fst t ht k ((hP k).2 hkn) (by rw [hft]) with rfl | h2
    · exact ht
    · have : t < k := by unfold kl at h2; rw [hft] at h2; omega
      exact absurd hft (hfirst t this)
def ctL (L : List (Int × Int)) (i : Nat) : Int × Int := L.getD i (0, 0)
theorem ctL_mem {L : List (Int × Int)} {i : Nat} (h : i < L.length) : ctL L i ∈ L := by
  unfold ctL; rw [List.getD_eq_getElem?_getD, List.getElem?_eq_getElem h]; simp
theorem mem_ctL {L : List (Int × Int)} {c : Int × Int} (h : c ∈ L) : ∃ i, i < L.length ∧ ctL L i = c := by
  obtain ⟨i, hi, rfl⟩ := List.mem_iff_getElem.1 h
  exact ⟨i, hi, by unfold ctL; rw [List.getD_eq_getElem?_getD, List.getElem?_eq_getElem hi]; rfl⟩
def cmpLt (f : Nat → Int × Int) (x p : Nat) : Bool := decide ((f x).2 < (f p).2 ∨ ((f x).2 = (f p).2 ∧ (f p).1 < (f x).1))
def insS (f : Nat → Int × Int) (x : Nat) : List Nat → List Nat
  | [] => [x]
  | p :: R => if cmpLt f x p then p :: insS f x R else x :: p :: R
def srtF (f : Nat → Int × Int) : Nat → List Nat
  | 0 => []
  | i + 1 => insS f i (srtF f i)
theorem insS_mem {f : Nat → Int × Int} {k x : Nat} : ∀ {l : List Nat}, x ∈ insS f k l ↔ x = k ∨ x ∈ l
  | [] => by simp [insS]
  | a :: r => by
    unfold insS
    split
    · have := insS_mem (f := f) (k := k) (x := x) (l := r)
      simp only [List.mem_cons, this]; grind
    · simp only [List.mem_cons]
theorem kl_trans {f : Nat → Int × Int} {a b c : Nat} (h1 : kl f a b) (h2 : kl f b c) : kl f a c := by unfold kl at *; omega
theorem insS_srt {f : Nat → Int × Int} {x : Nat} : ∀ {R : List Nat}, R.Pairwise (fun a b => kl f b a) → (∀ a ∈ R, a < x) → (insS f x R).Pairwise (fun a b => kl f b a)
  | [], _, _ => by simp [insS]
  | p :: R, h, hx => by
    have h' := List.pairwise_cons.1 h
    have hp := hx p (by simp)
    unfold insS
    split
    · rename_i hc
      have hc : (f x).2 < (f p).2 ∨ ((f x).2 = (f p).2 ∧ (f p).1 < (f x).1) := by simpa [cmpLt] using hc
      refine List.pairwise_cons.2 ⟨fun z hz => ?_, insS_srt h'.2 (fun z hz => hx z (by simp [hz]))⟩
      rcases insS_mem.1 hz with rfl | hz
      · unfold kl; omega
      · exact h'.1 z hz
    · rename_i hc
      have hc : ¬ ((f x).2 < (f p).2 ∨ ((f x).2 = (f p).2 ∧ (f p).1 < (f x).1)) := by simpa [cmpLt] using hc
      have hpx : kl f p x := by unfold kl; omega
      refine List.pairwise_cons.2 ⟨fun z hz => ?_, h⟩
      rcases List.mem_cons.1 hz with rfl | hz
      · exact hpx
      · exact kl_trans (h'.1 z hz) hpx
theorem srtF_sp (f : Nat → Int × Int) : ∀ n, (srtF f n).Pairwise (fun a b => kl f b a) ∧ ∀ x, x ∈ srtF f n ↔ x < n
  | 0 => by simp [srtF]
  | n + 1 => by
    obtain ⟨h1, h2⟩ := srtF_sp f n
    refine ⟨insS_srt h1 (fun a ha => (h2 a).1 ha), fun x => ?_⟩
    rw [srtF, insS_mem, h2]; omega
def hullF (L : List (Int × Int)) : List Nat := ((srtF (ctL L) L.length).reverse.foldl (pushI (ctL L)) []).reverse
theorem hull_HInv (L : List (Int × Int)) : HInv (ctL L) (srtF (ctL L) L.length).reverse (hullF L).reverse ∧ ∀ i, i ∈ (srtF (ctL L) L.length).reverse ↔ i < L.length := by
  obtain ⟨h1, h2⟩ := srtF_sp (ctL L) L.length
  have := (hull_inv (ctL L) (srtF (ctL L) L.length).reverse [] [] ⟨by simp, by simp [Dsc], trivial, by simp, by simp, by simp⟩ (by simp) (by rw [List.nil_append]; exact List.pairwise_reverse.2 h1)).1
  refine ⟨by simpa [hullF] using this, fun i => by rw [List.mem_reverse, h2]⟩
end Go.Proofs.Ytgnphlpoofaojaa
