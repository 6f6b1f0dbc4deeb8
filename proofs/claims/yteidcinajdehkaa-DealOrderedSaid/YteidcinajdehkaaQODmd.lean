/-
  Costs and loads by numbers: what they are like.
-/
import Derived.Test.YteidcinajdehkaaQODref
import Derived.Test.YteidcinajdehkaaQODmA
set_option linter.unusedSimpArgs false
set_option linter.unusedVariables false
namespace Go.Proofs.Yteidcinajdehkaa
open Go.V
set_option linter.unusedSectionVars false
theorem dt_t {α : Type} {p : Prop} [Decidable p] {x y : Option α} (h : p) : brn (decide p) x y = x := brn_t (decide_eq_true h)
theorem dt_f {α : Type} {p : Prop} [Decidable p] {x y : Option α} (h : ¬ p) : brn (decide p) x y = y := brn_f (decide_eq_false h)
theorem ki_t {α : Type} {n v : Int} {k1 k2 : Option α} (h : n = v) : casI n v k1 k2 = k1 := if_pos h
theorem ki_f {α : Type} {n v : Int} {k1 k2 : Option α} (h : n ≠ v) : casI n v k1 k2 = k2 := if_neg h
theorem bd_t {α β : Type} {x : α} {f : α → Option β} : bnd' (some x) f = f x := rfl
theorem gi_t {α : Type} {k : IntKind} {x : Int} {f : Int → Option α} : getI k (.int k x) f = f x := by simp [getI]
theorem ga_t {α : Type} {c : List PV} {f : List PV → Option α} : getA (.agg c) f = f c := rfl
theorem ga2_t {α : Type} {a b : PV} {f : PV → PV → Option α} : getA2 (.agg [a, b]) f = f a b := rfl
theorem wrapI {n : Nat} (h : n ≤ 100000) : IntKind.i64.wrap (n : Int) = (n : Int) := wrap64 (by omega) (by omega)
def yL (X : List Nat) : List PV := X.map fun (n : Nat) => PV.int .u8 (n : Int)
theorem yL_len (X : List Nat) : (yL X).length = X.length := by simp [yL]
theorem gY {α : Type} {X : List Nat} {i : Nat} {f : Int → Option α} (h : i < X.length) : getI .u8 (gp (yL X) i) f = f (nn X i : Int) := by
  have : gp (yL X) i = .int .u8 (nn X i : Int) := by simp [yL, gp, nn, List.getD, h]
  rw [this, gi_t]
theorem gX {α : Type} {X : List Int} {i : Nat} {f : Int → Option α} (h : i < X.length) : getI .i64 (gp (iL X) i) f = f (en X i) := by
  rw [iL_gp h, gi_t]
theorem yL_two {X : List Nat} {i : Nat} (h : i + 1 < X.length) : List.take 2 (List.drop i (yL X)) = [.int .u8 (nn X i : Int), .int .u8 (nn X (i + 1) : Int)] := by
  have e : X.drop i = nn X i :: nn X (i + 1) :: X.drop (i + 2) := by
    rw [List.drop_eq_getElem_cons (by omega), List.drop_eq_getElem_cons (by omega)]
    simp [nn, List.getD, h, show i < X.length by omega]
  unfold yL
  rw [← List.map_drop, e]
  rfl
theorem en_ap1 {P : List Int} {x : Int} {k : Nat} (h : k < P.length) : en (P ++ [x]) k = en P k := by
  simp [en, List.getD, List.getElem?_append_left h]
theorem en_ap2 {P : List Int} {x : Int} {k : Nat} (h : k = P.length) : en (P ++ [x]) k = x := by
  subst h; simp [en, List.getD]
theorem en_st {w : List Int} {j k : Nat} {x : Int} (hj : j < w.length) : en (w.set j x) k = if k = j then x else en w k := by
  simp only [en, List.getD, List.getElem?_set]
  by_cases h : j = k
  · rw [if_pos h, if_pos h.symm, if_pos hj]; rfl
  · rw [if_neg h, if_neg (fun e => h e.symm)]
theorem iL_ap (X : List Int) (x : Int) : iL X ++ [.int .i64 x] = iL (X ++ [x]) := by simp [iL]
theorem iL_st (w : List Int) (j : Nat) (x : Int) : (iL w).set j (.int .i64 x) = iL (w.set j x) := by simp [iL, List.map_set]
theorem t1 (x : Nat) : Int.tmod (x : Int) 1 = ((x % 1 : Nat) : Int) := rfl
theorem t2 (x : Nat) : Int.tmod (x : Int) 2 = ((x % 2 : Nat) : Int) := rfl
theorem t3 (x : Nat) : Int.tmod (x : Int) 3 = ((x % 3 : Nat) : Int) := rfl
theorem t4 (x : Nat) : Int.tmod (x : Int) 4 = ((x % 4 : Nat) : Int) := rfl
theorem t5 (x : Nat) : Int.tmod (x : Int) 5 = ((x % 5 : Nat) : Int) := rfl
theorem t8 (x : Nat) : Int.tmod (x : Int) 8 = ((x % 8 : Nat) : Int) := rfl
theorem t21 (x : Nat) : Int.tmod (x : Int) 21 = ((x % 21 : Nat) : Int) := rfl
theorem tN' (x c : Nat) : Int.tmod (x : Int) (c : Int) = ((x % c : Nat) : Int) := rfl
theorem ecN {b : Nat} (hb : b < 256) : IntKind.i64.wrap (1 + Int.tmod (IntKind.i64.wrap (b : Int)) 4) = ((1 + b % 4 : Nat) : Int) := by
  have : b % 4 < 4 := Nat.mod_lt _ (by omega)
  rw [wrapI (by omega), t4, wrap64 (by omega) (by omega)]; omega
theorem erN {b : Nat} (hb : b < 256) : IntKind.i64.wrap (1 + Int.tmod (IntKind.i64.wrap (b : Int)) 3) = ((1 + b % 3 : Nat) : Int) := by
  have : b % 3 < 3 := Nat.mod_lt _ (by omega)
  rw [wrapI (by omega), t3, wrap64 (by omega) (by omega)]; omega
def In20 (X : List Int) : Prop := ∀ k, k < X.length → 0 ≤ en X k ∧ en X k ≤ 20
theorem In20.app {X : List Int} {x : Int} (h : In20 X) (h0 : 0 ≤ x) (h1 : x ≤ 20) : In20 (X ++ [x]) := fun k hk => by
  by_cases g : k < X.length
  · rw [en_ap1 g]; exact h k g
  · rw [List.length_append] at hk
    rw [en_ap2 (by simp at hk; omega)]; exact ⟨h0, h1⟩
def In5 (X : List Int) : Prop := ∀ k, k < X.length → 0 ≤ en X k ∧ en X k ≤ 5
theorem In5.st {X : List Int} {j : Nat} (h : In5 X) (hj : j < X.length) (h5 : en X j < 5) : In5 (X.set j (en X j + 1)) := fun k hk => by
  rw [List.length_set] at hk
  rw [en_st hj]
  have := h j hj
  split
  · omega
  · exact h k hk
theorem In5.rep (n : Nat) : In5 (List.replicate n 0) := fun k hk => by
  rw [List.length_replicate] at hk
  simp [en, List.getD, hk]
theorem sum_st : ∀ {X : List Int} {j : Nat}, j < X.length → (X.set j (en X j + 1)).sum = X.sum + 1
  | [], j, h => by simp at h
  | x :: X, 0, _ => by simp [en]; omega
  | x :: X, j + 1, h => by
    have ih := sum_st (X := X) (j := j) (by simpa using h)
    have e : en (x :: X) (j + 1) = en X j := by simp [en, List.getD]
    rw [e, List.set_cons_succ, List.sum_cons, List.sum_cons, ih]; omega
theorem sum_rep (n : Nat) : (List.replicate n (0 : Int)).sum = 0 := by
  induction n with
  | zero => rfl
  | succ n ih => rw [List.replicate_succ, List.sum_cons, ih]; rfl
theorem iL_rep (n : Nat) : List.replicate n (PV.int .i64 0) = iL (List.replicate n 0) := by simp [iL]
section
variable (N : Nat) (hN : 2000 ≤ N) (Y : List Nat) (hY : Y.length = 37) (hb : ∀ k, nn Y k < 256) (b : Nat) (hbb : b < 256)
include hN hY hb hbb
theorem rb_1_0  (j : Nat) (hj : j < 4) (n : Nat) (cs : List PV) (a : Nat) (ha : a < 3) : ∀ (s d fuel : Nat) (v : Int), (j + 1) - d = s → d ≤ j + 1 → s < fuel → -200 ≤ v - 2 * (s : Int) → v ≤ 200 →
    ∃ v', m44_L19 N (yL Y) b  j n cs a fuel v (d : Int) = some v' ∧ v - 2 * (s : Int) ≤ v' ∧ v' ≤ v
  | s, d, 0, _, _, _, h, _, _ => by omega
  | s, d, f + 1, v, hs, h1, hf, h2, h3 => by
    have ly := yL_len Y
    rw [m44_L19]
    by_cases h : d ≤ j
    · have q := hb ((3 + a * 4) + d)
      have m3 : nn Y ((3 + a * 4) + d) % 3 < 3 := Nat.mod_lt _ (by omega)
      rw [dt_t (by omega), grd_t ⟨by omega, by omega⟩, grd_t ⟨by omega, by omega⟩, toNatN, toNatN, grd_t (by omega), gY (by omega), wrapI (by omega), t3, wrap64 (n := v - ((nn Y ((3 + a * 4) + d) % 3 : Nat) : Int)) (by omega) (by omega), wrapN (by omega)]
      obtain ⟨v', e, e1, e2⟩ := rb_1_0  j hj n cs a ha (s - 1) (d + 1) f (v - ((nn Y ((3 + a * 4) + d) % 3 : Nat) : Int)) (by omega) (by omega) (by omega) (by omega) (by omega)
      exact ⟨v', e, by omega, by omega⟩
    · rw [dt_f (by omega)]
      exact ⟨v, rfl, by omega, by omega⟩
theorem ra_1_0  (j : Nat) (hj : j < 4) (n : Nat) (cs : List PV) : ∀ (s a fuel : Nat) (v : Int), 1 - a = s → a ≤ 1 → 1 ≤ a → s < fuel → -100 ≤ v - 6 * (s : Int) → v ≤ 100 →
    ∃ v', m44_L18 N (yL Y) b  j n cs fuel v (a : Int) = some v' ∧ v - 6 * (s : Int) ≤ v' ∧ v' ≤ v
  | s, a, 0, _, _, _, _, h, _, _ => by omega
  | s, a, f + 1, v, hs, h1, h1', hf, h2, h3 => by
    rw [m44_L18]
    by_cases h : a ≤ 0
    · obtain ⟨w, e, e1, e2⟩ := rb_1_0 N hN Y hY hb b hbb  j hj n cs a (by omega) j 1 N v (by omega) (by omega) (by omega) (by omega) (by omega)
      rw [dt_t (by omega), show m44_L19 N (yL Y) b  j n cs a N v 1 = _ from e, bd_t, wrapN (by omega)]
      obtain ⟨v', f1, f2, f3⟩ := ra_1_0  j hj n cs (s - 1) (a + 1) f w (by omega) (by omega) (by omega) (by omega) (by omega) (by omega)
      exact ⟨v', f1, by omega, by omega⟩
    · rw [dt_f (by omega)]
      exact ⟨v, rfl, by omega, by omega⟩
theorem rw_1_0  : ∀ (s j fuel : Nat) (X : List Int), (1 + b % 4) - j = s → j ≤ 1 + b % 4 → s < fuel → X.length = j → In20 X →
    ∃ X', m44_L17 N (yL Y) b  fuel (j : Int) X.length (iL X) = some (X'.length, iL X') ∧ X'.length = 1 + b % 4 ∧ In20 X'
  | s, j, 0, _, _, _, h, _, _ => by omega
  | s, j, f + 1, X, hs, h1, hf, hX, hI => by
    have ly := yL_len Y
    have m4 : b % 4 < 4 := Nat.mod_lt _ (by omega)
    have lX := iL_len X
    rw [m44_L17, ecN hbb]
    by_cases h : j < 1 + b % 4
    · have q1 := hb (3 + j)
      have q2 := hb 2
      have q3 := hb 15
      have q4 := hb (18 + j)
      have m21 : nn Y (3 + j) % 21 < 21 := Nat.mod_lt _ (by omega)
      have m5 : nn Y 15 % 5 < 5 := Nat.mod_lt _ (by omega)
      have m6 : nn Y (18 + j) % 5 < 5 := Nat.mod_lt _ (by omega)
      rw [dt_t (by omega), grd_t ⟨by omega, by omega⟩, toNatN, grd_t (by omega), gY (by omega), grd_t (by omega), grd_t (by omega), gY (by omega), grd_t (by omega), t2]
      by_cases g : nn Y 2 % 2 = 1
      · obtain ⟨v, e, e1, e2⟩ := ra_1_0 N hN Y hY hb b hbb  j (by omega) X.length (iL X) 0 1 N (12 + ((nn Y 15 % 5 : Nat) : Int) + ((nn Y (18 + j) % 5 : Nat) : Int)) (by omega) (by omega) (by omega) (by omega) (by omega) (by omega)
        rw [brn_t (by rw [beq_iff_eq]; omega), grd_t (by omega), gY (by omega), grd_t (by omega), grd_t (by omega), gY (by omega), wrapI (by omega), wrapI (by omega), t5, t5, wrap64 (n := 12 + ((nn Y 15 % 5 : Nat) : Int)) (by omega) (by omega), wrap64 (n := 12 + ((nn Y 15 % 5 : Nat) : Int) + ((nn Y (18 + j) % 5 : Nat) : Int)) (by omega) (by omega)]
        rw [show m44_L18 N (yL Y) b  j X.length (iL X) N (12 + ((nn Y 15 % 5 : Nat) : Int) + ((nn Y (18 + j) % 5 : Nat) : Int)) 1 = _ from e, bd_t, grd_t (by omega), grd_t lX, wrapN (by omega), iL_ap]
        obtain ⟨X', f1, f2, f3⟩ := rw_1_0  (s - 1) (j + 1) f (X ++ [v]) (by omega) (by omega) (by omega) (by simp; omega) (hI.app (by omega) (by omega))
        rw [List.length_append] at f1
        exact ⟨X', f1, f2, f3⟩
      · rw [brn_f (by rw [beq_eq_false_iff_ne]; omega), grd_t (by omega), grd_t lX, wrapI (by omega), t21, wrapN (by omega), iL_ap]
        obtain ⟨X', f1, f2, f3⟩ := rw_1_0  (s - 1) (j + 1) f (X ++ [((nn Y (3 + j) % 21 : Nat) : Int)]) (by omega) (by omega) (by omega) (by simp; omega) (hI.app (by omega) (by omega))
        rw [List.length_append] at f1
        exact ⟨X', f1, f2, f3⟩
    · rw [dt_f (by omega)]
      exact ⟨X, rfl, by omega, hI⟩
theorem lo_1 (n560 : Nat) (c561 : List PV) (m : Nat) (hm : m < 256) : ∀ (s t fuel : Nat) (H W : List Int), m % 8 - t = s → s < fuel → H.length = 1 → W.length = 1 + b % 4 → In5 H → In5 W → H.sum = W.sum →
    ∃ H' W', m44_L20 N (yL Y) b n560 c561 m fuel (t : Int) (iL H) (iL W) = some (iL H', iL W') ∧ H'.length = 1 ∧ W'.length = 1 + b % 4 ∧ In5 H' ∧ In5 W' ∧ H'.sum = W'.sum
  | s, t, 0, _, _, _, h, _, _, _, _, _ => by omega
  | s, t, f + 1, H, W, hs, hf, lH, lW, iH, iW, hHW => by
    have ly := yL_len Y
    have m8 : m % 8 < 8 := Nat.mod_lt _ (by omega)
    have m4 : b % 4 < 4 := Nat.mod_lt _ (by omega)
    have lH' := iL_len H
    have lW' := iL_len W
    rw [m44_L20, ecN hbb, wrapI (n := m) (by omega), t8, toNatN, toNatN]
    by_cases h : t < m % 8
    · have q1 := hb (22 + t * 2)
      have q2 := hb (22 + t * 2 + 1)
      have n1 : nn Y (22 + t * 2) % 1 < 1 := Nat.mod_lt _ (by omega)
      have n2 : nn Y (22 + t * 2 + 1) % (1 + b % 4) < 1 + b % 4 := Nat.mod_lt _ (by omega)
      obtain ⟨H1, W1, e, r⟩ := lo_1 n560 c561 m hm (s - 1) (t + 1) f H W (by omega) (by omega) lH lW iH iW hHW
      rw [dt_t (by omega), grd_t ⟨by omega, by omega⟩, toNatN, grd_t (by omega), yL_two (by omega), ga2_t, gi_t, grd_t (by omega), gi_t, wrapI (by omega), wrapI (by omega), t1, tN', toNatN, toNatN, grd_t (by omega), grd_t ⟨by omega, by omega⟩, grd_t (by omega), gX (by omega), wrapN (by omega)]
      by_cases g1 : en H (nn Y (22 + t * 2) % 1) < 5
      · rw [dt_t g1, grd_t ⟨by omega, by omega⟩, grd_t (by omega), gX (by omega)]
        by_cases g2 : en W (nn Y (22 + t * 2 + 1) % (1 + b % 4)) < 5
        · have v1 := iH (nn Y (22 + t * 2) % 1) (by omega)
          have v2 := iW (nn Y (22 + t * 2 + 1) % (1 + b % 4)) (by omega)
          rw [dt_t g2, grd_t (by omega), grd_t (by omega), wrap64 (n := en H (nn Y (22 + t * 2) % 1) + 1) (by omega) (by omega), wrap64 (n := en W (nn Y (22 + t * 2 + 1) % (1 + b % 4)) + 1) (by omega) (by omega), iL_st, iL_st]
          exact lo_1 n560 c561 m hm (s - 1) (t + 1) f _ _ (by omega) (by omega) (by rw [List.length_set]; exact lH) (by rw [List.length_set]; exact lW) (iH.st (by omega) g1) (iW.st (by omega) g2) (by rw [sum_st (by omega), sum_st (by omega), hHW])
        · rw [dt_f g2]; exact ⟨H1, W1, e, r⟩
      · rw [dt_f g1]; exact ⟨H1, W1, e, r⟩
    · rw [dt_f (by omega)]
      exact ⟨H, W, rfl, lH, lW, iH, iW, hHW⟩
theorem rb_2_0  (j : Nat) (hj : j < 4) (n : Nat) (cs : List PV) (a : Nat) (ha : a < 3) : ∀ (s d fuel : Nat) (v : Int), (j + 1) - d = s → d ≤ j + 1 → s < fuel → -200 ≤ v - 2 * (s : Int) → v ≤ 200 →
    ∃ v', m44_L12 N (yL Y) b  j n cs a fuel v (d : Int) = some v' ∧ v - 2 * (s : Int) ≤ v' ∧ v' ≤ v
  | s, d, 0, _, _, _, h, _, _ => by omega
  | s, d, f + 1, v, hs, h1, hf, h2, h3 => by
    have ly := yL_len Y
    rw [m44_L12]
    by_cases h : d ≤ j
    · have q := hb ((3 + a * 4) + d)
      have m3 : nn Y ((3 + a * 4) + d) % 3 < 3 := Nat.mod_lt _ (by omega)
      rw [dt_t (by omega), grd_t ⟨by omega, by omega⟩, grd_t ⟨by omega, by omega⟩, toNatN, toNatN, grd_t (by omega), gY (by omega), wrapI (by omega), t3, wrap64 (n := v - ((nn Y ((3 + a * 4) + d) % 3 : Nat) : Int)) (by omega) (by omega), wrapN (by omega)]
      obtain ⟨v', e, e1, e2⟩ := rb_2_0  j hj n cs a ha (s - 1) (d + 1) f (v - ((nn Y ((3 + a * 4) + d) % 3 : Nat) : Int)) (by omega) (by omega) (by omega) (by omega) (by omega)
      exact ⟨v', e, by omega, by omega⟩
    · rw [dt_f (by omega)]
      exact ⟨v, rfl, by omega, by omega⟩
theorem ra_2_0  (j : Nat) (hj : j < 4) (n : Nat) (cs : List PV) : ∀ (s a fuel : Nat) (v : Int), 1 - a = s → a ≤ 1 → 1 ≤ a → s < fuel → -100 ≤ v - 6 * (s : Int) → v ≤ 100 →
    ∃ v', m44_L11 N (yL Y) b  j n cs fuel v (a : Int) = some v' ∧ v - 6 * (s : Int) ≤ v' ∧ v' ≤ v
  | s, a, 0, _, _, _, _, h, _, _ => by omega
  | s, a, f + 1, v, hs, h1, h1', hf, h2, h3 => by
    rw [m44_L11]
    by_cases h : a ≤ 0
    · obtain ⟨w, e, e1, e2⟩ := rb_2_0 N hN Y hY hb b hbb  j hj n cs a (by omega) j 1 N v (by omega) (by omega) (by omega) (by omega) (by omega)
      rw [dt_t (by omega), show m44_L12 N (yL Y) b  j n cs a N v 1 = _ from e, bd_t, wrapN (by omega)]
      obtain ⟨v', f1, f2, f3⟩ := ra_2_0  j hj n cs (s - 1) (a + 1) f w (by omega) (by omega) (by omega) (by omega) (by omega) (by omega)
      exact ⟨v', f1, by omega, by omega⟩
    · rw [dt_f (by omega)]
      exact ⟨v, rfl, by omega, by omega⟩
theorem rw_2_0  : ∀ (s j fuel : Nat) (X : List Int), (1 + b % 4) - j = s → j ≤ 1 + b % 4 → s < fuel → X.length = j → In20 X →
    ∃ X', m44_L10 N (yL Y) b  fuel (j : Int) X.length (iL X) = some (X'.length, iL X') ∧ X'.length = 1 + b % 4 ∧ In20 X'
  | s, j, 0, _, _, _, h, _, _ => by omega
  | s, j, f + 1, X, hs, h1, hf, hX, hI => by
    have ly := yL_len Y
    have m4 : b % 4 < 4 := Nat.mod_lt _ (by omega)
    have lX := iL_len X
    rw [m44_L10, ecN hbb]
    by_cases h : j < 1 + b % 4
    · have q1 := hb (3 + j)
      have q2 := hb 2
      have q3 := hb 15
      have q4 := hb (18 + j)
      have m21 : nn Y (3 + j) % 21 < 21 := Nat.mod_lt _ (by omega)
      have m5 : nn Y 15 % 5 < 5 := Nat.mod_lt _ (by omega)
      have m6 : nn Y (18 + j) % 5 < 5 := Nat.mod_lt _ (by omega)
      rw [dt_t (by omega), grd_t ⟨by omega, by omega⟩, toNatN, grd_t (by omega), gY (by omega), grd_t (by omega), grd_t (by omega), gY (by omega), grd_t (by omega), t2]
      by_cases g : nn Y 2 % 2 = 1
      · obtain ⟨v, e, e1, e2⟩ := ra_2_0 N hN Y hY hb b hbb  j (by omega) X.length (iL X) 0 1 N (12 + ((nn Y 15 % 5 : Nat) : Int) + ((nn Y (18 + j) % 5 : Nat) : Int)) (by omega) (by omega) (by omega) (by omega) (by omega) (by omega)
        rw [brn_t (by rw [beq_iff_eq]; omega), grd_t (by omega), gY (by omega), grd_t (by omega), grd_t (by omega), gY (by omega), wrapI (by omega), wrapI (by omega), t5, t5, wrap64 (n := 12 + ((nn Y 15 % 5 : Nat) : Int)) (by omega) (by omega), wrap64 (n := 12 + ((nn Y 15 % 5 : Nat) : Int) + ((nn Y (18 + j) % 5 : Nat) : Int)) (by omega) (by omega)]
        rw [show m44_L11 N (yL Y) b  j X.length (iL X) N (12 + ((nn Y 15 % 5 : Nat) : Int) + ((nn Y (18 + j) % 5 : Nat) : Int)) 1 = _ from e, bd_t, grd_t (by omega), grd_t lX, wrapN (by omega), iL_ap]
        obtain ⟨X', f1, f2, f3⟩ := rw_2_0  (s - 1) (j + 1) f (X ++ [v]) (by omega) (by omega) (by omega) (by simp; omega) (hI.app (by omega) (by omega))
        rw [List.length_append] at f1
        exact ⟨X', f1, f2, f3⟩
      · rw [brn_f (by rw [beq_eq_false_iff_ne]; omega), grd_t (by omega), grd_t lX, wrapI (by omega), t21, wrapN (by omega), iL_ap]
        obtain ⟨X', f1, f2, f3⟩ := rw_2_0  (s - 1) (j + 1) f (X ++ [((nn Y (3 + j) % 21 : Nat) : Int)]) (by omega) (by omega) (by omega) (by simp; omega) (hI.app (by omega) (by omega))
        rw [List.length_append] at f1
        exact ⟨X', f1, f2, f3⟩
    · rw [dt_f (by omega)]
      exact ⟨X, rfl, by omega, hI⟩
theorem rb_2_1 (n746 : Nat) (c747 : List PV) (j : Nat) (hj : j < 4) (n : Nat) (cs : List PV) (a : Nat) (ha : a < 3) : ∀ (s d fuel : Nat) (v : Int), (j + 1) - d = s → d ≤ j + 1 → s < fuel → -200 ≤ v - 2 * (s : Int) → v ≤ 200 →
    ∃ v', m44_L15 N (yL Y) b n746 c747 j n cs a fuel v (d : Int) = some v' ∧ v - 2 * (s : Int) ≤ v' ∧ v' ≤ v
  | s, d, 0, _, _, _, h, _, _ => by omega
  | s, d, f + 1, v, hs, h1, hf, h2, h3 => by
    have ly := yL_len Y
    rw [m44_L15]
    by_cases h : d ≤ j
    · have q := hb ((3 + a * 4) + d)
      have m3 : nn Y ((3 + a * 4) + d) % 3 < 3 := Nat.mod_lt _ (by omega)
      rw [dt_t (by omega), grd_t ⟨by omega, by omega⟩, grd_t ⟨by omega, by omega⟩, toNatN, toNatN, grd_t (by omega), gY (by omega), wrapI (by omega), t3, wrap64 (n := v - ((nn Y ((3 + a * 4) + d) % 3 : Nat) : Int)) (by omega) (by omega), wrapN (by omega)]
      obtain ⟨v', e, e1, e2⟩ := rb_2_1 n746 c747 j hj n cs a ha (s - 1) (d + 1) f (v - ((nn Y ((3 + a * 4) + d) % 3 : Nat) : Int)) (by omega) (by omega) (by omega) (by omega) (by omega)
      exact ⟨v', e, by omega, by omega⟩
    · rw [dt_f (by omega)]
      exact ⟨v, rfl, by omega, by omega⟩
theorem ra_2_1 (n746 : Nat) (c747 : List PV) (j : Nat) (hj : j < 4) (n : Nat) (cs : List PV) : ∀ (s a fuel : Nat) (v : Int), 2 - a = s → a ≤ 2 → 1 ≤ a → s < fuel → -100 ≤ v - 6 * (s : Int) → v ≤ 100 →
    ∃ v', m44_L14 N (yL Y) b n746 c747 j n cs fuel v (a : Int) = some v' ∧ v - 6 * (s : Int) ≤ v' ∧ v' ≤ v
  | s, a, 0, _, _, _, _, h, _, _ => by omega
  | s, a, f + 1, v, hs, h1, h1', hf, h2, h3 => by
    rw [m44_L14]
    by_cases h : a ≤ 1
    · obtain ⟨w, e, e1, e2⟩ := rb_2_1 N hN Y hY hb b hbb n746 c747 j hj n cs a (by omega) j 1 N v (by omega) (by omega) (by omega) (by omega) (by omega)
      rw [dt_t (by omega), show m44_L15 N (yL Y) b n746 c747 j n cs a N v 1 = _ from e, bd_t, wrapN (by omega)]
      obtain ⟨v', f1, f2, f3⟩ := ra_2_1 n746 c747 j hj n cs (s - 1) (a + 1) f w (by omega) (by omega) (by omega) (by omega) (by omega) (by omega)
      exact ⟨v', f1, by omega, by omega⟩
    · rw [dt_f (by omega)]
      exact ⟨v, rfl, by omega, by omega⟩
theorem rw_2_1 (n746 : Nat) (c747 : List PV) : ∀ (s j fuel : Nat) (X : List Int), (1 + b % 4) - j = s → j ≤ 1 + b % 4 → s < fuel → X.length = j → In20 X →
    ∃ X', m44_L13 N (yL Y) b n746 c747 fuel (j : Int) X.length (iL X) = some (X'.length, iL X') ∧ X'.length = 1 + b % 4 ∧ In20 X'
  | s, j, 0, _, _, _, h, _, _ => by omega
  | s, j, f + 1, X, hs, h1, hf, hX, hI => by
    have ly := yL_len Y
    have m4 : b % 4 < 4 := Nat.mod_lt _ (by omega)
    have lX := iL_len X
    rw [m44_L13, ecN hbb]
    by_cases h : j < 1 + b % 4
    · have q1 := hb (7 + j)
      have q2 := hb 2
      have q3 := hb 16
      have q4 := hb (18 + j)
      have m21 : nn Y (7 + j) % 21 < 21 := Nat.mod_lt _ (by omega)
      have m5 : nn Y 16 % 5 < 5 := Nat.mod_lt _ (by omega)
      have m6 : nn Y (18 + j) % 5 < 5 := Nat.mod_lt _ (by omega)
      rw [dt_t (by omega), grd_t ⟨by omega, by omega⟩, toNatN, grd_t (by omega), gY (by omega), grd_t (by omega), grd_t (by omega), gY (by omega), grd_t (by omega), t2]
      by_cases g : nn Y 2 % 2 = 1
      · obtain ⟨v, e, e1, e2⟩ := ra_2_1 N hN Y hY hb b hbb n746 c747 j (by omega) X.length (iL X) 1 1 N (12 + ((nn Y 16 % 5 : Nat) : Int) + ((nn Y (18 + j) % 5 : Nat) : Int)) (by omega) (by omega) (by omega) (by omega) (by omega) (by omega)
        rw [brn_t (by rw [beq_iff_eq]; omega), grd_t (by omega), gY (by omega), grd_t (by omega), grd_t (by omega), gY (by omega), wrapI (by omega), wrapI (by omega), t5, t5, wrap64 (n := 12 + ((nn Y 16 % 5 : Nat) : Int)) (by omega) (by omega), wrap64 (n := 12 + ((nn Y 16 % 5 : Nat) : Int) + ((nn Y (18 + j) % 5 : Nat) : Int)) (by omega) (by omega)]
        rw [show m44_L14 N (yL Y) b n746 c747 j X.length (iL X) N (12 + ((nn Y 16 % 5 : Nat) : Int) + ((nn Y (18 + j) % 5 : Nat) : Int)) 1 = _ from e, bd_t, grd_t (by omega), grd_t lX, wrapN (by omega), iL_ap]
        obtain ⟨X', f1, f2, f3⟩ := rw_2_1 n746 c747 (s - 1) (j + 1) f (X ++ [v]) (by omega) (by omega) (by omega) (by simp; omega) (hI.app (by omega) (by omega))
        rw [List.length_append] at f1
        exact ⟨X', f1, f2, f3⟩
      · rw [brn_f (by rw [beq_eq_false_iff_ne]; omega), grd_t (by omega), grd_t lX, wrapI (by omega), t21, wrapN (by omega), iL_ap]
        obtain ⟨X', f1, f2, f3⟩ := rw_2_1 n746 c747 (s - 1) (j + 1) f (X ++ [((nn Y (7 + j) % 21 : Nat) : Int)]) (by omega) (by omega) (by omega) (by simp; omega) (hI.app (by omega) (by omega))
        rw [List.length_append] at f1
        exact ⟨X', f1, f2, f3⟩
    · rw [dt_f (by omega)]
      exact ⟨X, rfl, by omega, hI⟩
theorem lo_2 (n746 : Nat) (c747 : List PV) (n859 : Nat) (c860 : List PV) (m : Nat) (hm : m < 256) : ∀ (s t fuel : Nat) (H W : List Int), m % 8 - t = s → s < fuel → H.length = 2 → W.length = 1 + b % 4 → In5 H → In5 W → H.sum = W.sum →
    ∃ H' W', m44_L16 N (yL Y) b n746 c747 n859 c860 m fuel (t : Int) (iL H) (iL W) = some (iL H', iL W') ∧ H'.length = 2 ∧ W'.length = 1 + b % 4 ∧ In5 H' ∧ In5 W' ∧ H'.sum = W'.sum
  | s, t, 0, _, _, _, h, _, _, _, _, _ => by omega
  | s, t, f + 1, H, W, hs, hf, lH, lW, iH, iW, hHW => by
    have ly := yL_len Y
    have m8 : m % 8 < 8 := Nat.mod_lt _ (by omega)
    have m4 : b % 4 < 4 := Nat.mod_lt _ (by omega)
    have lH' := iL_len H
    have lW' := iL_len W
    rw [m44_L16, ecN hbb, wrapI (n := m) (by omega), t8, toNatN, toNatN]
    by_cases h : t < m % 8
    · have q1 := hb (22 + t * 2)
      have q2 := hb (22 + t * 2 + 1)
      have n1 : nn Y (22 + t * 2) % 2 < 2 := Nat.mod_lt _ (by omega)
      have n2 : nn Y (22 + t * 2 + 1) % (1 + b % 4) < 1 + b % 4 := Nat.mod_lt _ (by omega)
      obtain ⟨H1, W1, e, r⟩ := lo_2 n746 c747 n859 c860 m hm (s - 1) (t + 1) f H W (by omega) (by omega) lH lW iH iW hHW
      rw [dt_t (by omega), grd_t ⟨by omega, by omega⟩, toNatN, grd_t (by omega), yL_two (by omega), ga2_t, gi_t, grd_t (by omega), gi_t, wrapI (by omega), wrapI (by omega), t2, tN', toNatN, toNatN, grd_t (by omega), grd_t ⟨by omega, by omega⟩, grd_t (by omega), gX (by omega), wrapN (by omega)]
      by_cases g1 : en H (nn Y (22 + t * 2) % 2) < 5
      · rw [dt_t g1, grd_t ⟨by omega, by omega⟩, grd_t (by omega), gX (by omega)]
        by_cases g2 : en W (nn Y (22 + t * 2 + 1) % (1 + b % 4)) < 5
        · have v1 := iH (nn Y (22 + t * 2) % 2) (by omega)
          have v2 := iW (nn Y (22 + t * 2 + 1) % (1 + b % 4)) (by omega)
          rw [dt_t g2, grd_t (by omega), grd_t (by omega), wrap64 (n := en H (nn Y (22 + t * 2) % 2) + 1) (by omega) (by omega), wrap64 (n := en W (nn Y (22 + t * 2 + 1) % (1 + b % 4)) + 1) (by omega) (by omega), iL_st, iL_st]
          exact lo_2 n746 c747 n859 c860 m hm (s - 1) (t + 1) f _ _ (by omega) (by omega) (by rw [List.length_set]; exact lH) (by rw [List.length_set]; exact lW) (iH.st (by omega) g1) (iW.st (by omega) g2) (by rw [sum_st (by omega), sum_st (by omega), hHW])
        · rw [dt_f g2]; exact ⟨H1, W1, e, r⟩
      · rw [dt_f g1]; exact ⟨H1, W1, e, r⟩
    · rw [dt_f (by omega)]
      exact ⟨H, W, rfl, lH, lW, iH, iW, hHW⟩
theorem rb_3_0  (j : Nat) (hj : j < 4) (n : Nat) (cs : List PV) (a : Nat) (ha : a < 3) : ∀ (s d fuel : Nat) (v : Int), (j + 1) - d = s → d ≤ j + 1 → s < fuel → -200 ≤ v - 2 * (s : Int) → v ≤ 200 →
    ∃ v', m44_L2 N (yL Y) b  j n cs a fuel v (d : Int) = some v' ∧ v - 2 * (s : Int) ≤ v' ∧ v' ≤ v
  | s, d, 0, _, _, _, h, _, _ => by omega
  | s, d, f + 1, v, hs, h1, hf, h2, h3 => by
    have ly := yL_len Y
    rw [m44_L2]
    by_cases h : d ≤ j
    · have q := hb ((3 + a * 4) + d)
      have m3 : nn Y ((3 + a * 4) + d) % 3 < 3 := Nat.mod_lt _ (by omega)
      rw [dt_t (by omega), grd_t ⟨by omega, by omega⟩, grd_t ⟨by omega, by omega⟩, toNatN, toNatN, grd_t (by omega), gY (by omega), wrapI (by omega), t3, wrap64 (n := v - ((nn Y ((3 + a * 4) + d) % 3 : Nat) : Int)) (by omega) (by omega), wrapN (by omega)]
      obtain ⟨v', e, e1, e2⟩ := rb_3_0  j hj n cs a ha (s - 1) (d + 1) f (v - ((nn Y ((3 + a * 4) + d) % 3 : Nat) : Int)) (by omega) (by omega) (by omega) (by omega) (by omega)
      exact ⟨v', e, by omega, by omega⟩
    · rw [dt_f (by omega)]
      exact ⟨v, rfl, by omega, by omega⟩
theorem ra_3_0  (j : Nat) (hj : j < 4) (n : Nat) (cs : List PV) : ∀ (s a fuel : Nat) (v : Int), 1 - a = s → a ≤ 1 → 1 ≤ a → s < fuel → -100 ≤ v - 6 * (s : Int) → v ≤ 100 →
    ∃ v', m44_L1 N (yL Y) b  j n cs fuel v (a : Int) = some v' ∧ v - 6 * (s : Int) ≤ v' ∧ v' ≤ v
  | s, a, 0, _, _, _, _, h, _, _ => by omega
  | s, a, f + 1, v, hs, h1, h1', hf, h2, h3 => by
    rw [m44_L1]
    by_cases h : a ≤ 0
    · obtain ⟨w, e, e1, e2⟩ := rb_3_0 N hN Y hY hb b hbb  j hj n cs a (by omega) j 1 N v (by omega) (by omega) (by omega) (by omega) (by omega)
      rw [dt_t (by omega), show m44_L2 N (yL Y) b  j n cs a N v 1 = _ from e, bd_t, wrapN (by omega)]
      obtain ⟨v', f1, f2, f3⟩ := ra_3_0  j hj n cs (s - 1) (a + 1) f w (by omega) (by omega) (by omega) (by omega) (by omega) (by omega)
      exact ⟨v', f1, by omega, by omega⟩
    · rw [dt_f (by omega)]
      exact ⟨v, rfl, by omega, by omega⟩
theorem rw_3_0  : ∀ (s j fuel : Nat) (X : List Int), (1 + b % 4) - j = s → j ≤ 1 + b % 4 → s < fuel → X.length = j → In20 X →
    ∃ X', m44_L0 N (yL Y) b  fuel (j : Int) X.length (iL X) = some (X'.length, iL X') ∧ X'.length = 1 + b % 4 ∧ In20 X'
  | s, j, 0, _, _, _, h, _, _ => by omega
  | s, j, f + 1, X, hs, h1, hf, hX, hI => by
    have ly := yL_len Y
    have m4 : b % 4 < 4 := Nat.mod_lt _ (by omega)
    have lX := iL_len X
    rw [m44_L0, ecN hbb]
    by_cases h : j < 1 + b % 4
    · have q1 := hb (3 + j)
      have q2 := hb 2
      have q3 := hb 15
      have q4 := hb (18 + j)
      have m21 : nn Y (3 + j) % 21 < 21 := Nat.mod_lt _ (by omega)
      have m5 : nn Y 15 % 5 < 5 := Nat.mod_lt _ (by omega)
      have m6 : nn Y (18 + j) % 5 < 5 := Nat.mod_lt _ (by omega)
      rw [dt_t (by omega), grd_t ⟨by omega, by omega⟩, toNatN, grd_t (by omega), gY (by omega), grd_t (by omega), grd_t (by omega), gY (by omega), grd_t (by omega), t2]
      by_cases g : nn Y 2 % 2 = 1
      · obtain ⟨v, e, e1, e2⟩ := ra_3_0 N hN Y hY hb b hbb  j (by omega) X.length (iL X) 0 1 N (12 + ((nn Y 15 % 5 : Nat) : Int) + ((nn Y (18 + j) % 5 : Nat) : Int)) (by omega) (by omega) (by omega) (by omega) (by omega) (by omega)
        rw [brn_t (by rw [beq_iff_eq]; omega), grd_t (by omega), gY (by omega), grd_t (by omega), grd_t (by omega), gY (by omega), wrapI (by omega), wrapI (by omega), t5, t5, wrap64 (n := 12 + ((nn Y 15 % 5 : Nat) : Int)) (by omega) (by omega), wrap64 (n := 12 + ((nn Y 15 % 5 : Nat) : Int) + ((nn Y (18 + j) % 5 : Nat) : Int)) (by omega) (by omega)]
        rw [show m44_L1 N (yL Y) b  j X.length (iL X) N (12 + ((nn Y 15 % 5 : Nat) : Int) + ((nn Y (18 + j) % 5 : Nat) : Int)) 1 = _ from e, bd_t, grd_t (by omega), grd_t lX, wrapN (by omega), iL_ap]
        obtain ⟨X', f1, f2, f3⟩ := rw_3_0  (s - 1) (j + 1) f (X ++ [v]) (by omega) (by omega) (by omega) (by simp; omega) (hI.app (by omega) (by omega))
        rw [List.length_append] at f1
        exact ⟨X', f1, f2, f3⟩
      · rw [brn_f (by rw [beq_eq_false_iff_ne]; omega), grd_t (by omega), grd_t lX, wrapI (by omega), t21, wrapN (by omega), iL_ap]
        obtain ⟨X', f1, f2, f3⟩ := rw_3_0  (s - 1) (j + 1) f (X ++ [((nn Y (3 + j) % 21 : Nat) : Int)]) (by omega) (by omega) (by omega) (by simp; omega) (hI.app (by omega) (by omega))
        rw [List.length_append] at f1
        exact ⟨X', f1, f2, f3⟩
    · rw [dt_f (by omega)]
      exact ⟨X, rfl, by omega, hI⟩
theorem rb_3_1 (n1046 : Nat) (c1047 : List PV) (j : Nat) (hj : j < 4) (n : Nat) (cs : List PV) (a : Nat) (ha : a < 3) : ∀ (s d fuel : Nat) (v : Int), (j + 1) - d = s → d ≤ j + 1 → s < fuel → -200 ≤ v - 2 * (s : Int) → v ≤ 200 →
    ∃ v', m44_L5 N (yL Y) b n1046 c1047 j n cs a fuel v (d : Int) = some v' ∧ v - 2 * (s : Int) ≤ v' ∧ v' ≤ v
  | s, d, 0, _, _, _, h, _, _ => by omega
  | s, d, f + 1, v, hs, h1, hf, h2, h3 => by
    have ly := yL_len Y
    rw [m44_L5]
    by_cases h : d ≤ j
    · have q := hb ((3 + a * 4) + d)
      have m3 : nn Y ((3 + a * 4) + d) % 3 < 3 := Nat.mod_lt _ (by omega)
      rw [dt_t (by omega), grd_t ⟨by omega, by omega⟩, grd_t ⟨by omega, by omega⟩, toNatN, toNatN, grd_t (by omega), gY (by omega), wrapI (by omega), t3, wrap64 (n := v - ((nn Y ((3 + a * 4) + d) % 3 : Nat) : Int)) (by omega) (by omega), wrapN (by omega)]
      obtain ⟨v', e, e1, e2⟩ := rb_3_1 n1046 c1047 j hj n cs a ha (s - 1) (d + 1) f (v - ((nn Y ((3 + a * 4) + d) % 3 : Nat) : Int)) (by omega) (by omega) (by omega) (by omega) (by omega)
      exact ⟨v', e, by omega, by omega⟩
    · rw [dt_f (by omega)]
      exact ⟨v, rfl, by omega, by omega⟩
theorem ra_3_1 (n1046 : Nat) (c1047 : List PV) (j : Nat) (hj : j < 4) (n : Nat) (cs : List PV) : ∀ (s a fuel : Nat) (v : Int), 2 - a = s → a ≤ 2 → 1 ≤ a → s < fuel → -100 ≤ v - 6 * (s : Int) → v ≤ 100 →
    ∃ v', m44_L4 N (yL Y) b n1046 c1047 j n cs fuel v (a : Int) = some v' ∧ v - 6 * (s : Int) ≤ v' ∧ v' ≤ v
  | s, a, 0, _, _, _, _, h, _, _ => by omega
  | s, a, f + 1, v, hs, h1, h1', hf, h2, h3 => by
    rw [m44_L4]
    by_cases h : a ≤ 1
    · obtain ⟨w, e, e1, e2⟩ := rb_3_1 N hN Y hY hb b hbb n1046 c1047 j hj n cs a (by omega) j 1 N v (by omega) (by omega) (by omega) (by omega) (by omega)
      rw [dt_t (by omega), show m44_L5 N (yL Y) b n1046 c1047 j n cs a N v 1 = _ from e, bd_t, wrapN (by omega)]
      obtain ⟨v', f1, f2, f3⟩ := ra_3_1 n1046 c1047 j hj n cs (s - 1) (a + 1) f w (by omega) (by omega) (by omega) (by omega) (by omega) (by omega)
      exact ⟨v', f1, by omega, by omega⟩
    · rw [dt_f (by omega)]
      exact ⟨v, rfl, by omega, by omega⟩
theorem rw_3_1 (n1046 : Nat) (c1047 : List PV) : ∀ (s j fuel : Nat) (X : List Int), (1 + b % 4) - j = s → j ≤ 1 + b % 4 → s < fuel → X.length = j → In20 X →
    ∃ X', m44_L3 N (yL Y) b n1046 c1047 fuel (j : Int) X.length (iL X) = some (X'.length, iL X') ∧ X'.length = 1 + b % 4 ∧ In20 X'
  | s, j, 0, _, _, _, h, _, _ => by omega
  | s, j, f + 1, X, hs, h1, hf, hX, hI => by
    have ly := yL_len Y
    have m4 : b % 4 < 4 := Nat.mod_lt _ (by omega)
    have lX := iL_len X
    rw [m44_L3, ecN hbb]
    by_cases h : j < 1 + b % 4
    · have q1 := hb (7 + j)
      have q2 := hb 2
      have q3 := hb 16
      have q4 := hb (18 + j)
      have m21 : nn Y (7 + j) % 21 < 21 := Nat.mod_lt _ (by omega)
      have m5 : nn Y 16 % 5 < 5 := Nat.mod_lt _ (by omega)
      have m6 : nn Y (18 + j) % 5 < 5 := Nat.mod_lt _ (by omega)
      rw [dt_t (by omega), grd_t ⟨by omega, by omega⟩, toNatN, grd_t (by omega), gY (by omega), grd_t (by omega), grd_t (by omega), gY (by omega), grd_t (by omega), t2]
      by_cases g : nn Y 2 % 2 = 1
      · obtain ⟨v, e, e1, e2⟩ := ra_3_1 N hN Y hY hb b hbb n1046 c1047 j (by omega) X.length (iL X) 1 1 N (12 + ((nn Y 16 % 5 : Nat) : Int) + ((nn Y (18 + j) % 5 : Nat) : Int)) (by omega) (by omega) (by omega) (by omega) (by omega) (by omega)
        rw [brn_t (by rw [beq_iff_eq]; omega), grd_t (by omega), gY (by omega), grd_t (by omega), grd_t (by omega), gY (by omega), wrapI (by omega), wrapI (by omega), t5, t5, wrap64 (n := 12 + ((nn Y 16 % 5 : Nat) : Int)) (by omega) (by omega), wrap64 (n := 12 + ((nn Y 16 % 5 : Nat) : Int) + ((nn Y (18 + j) % 5 : Nat) : Int)) (by omega) (by omega)]
        rw [show m44_L4 N (yL Y) b n1046 c1047 j X.length (iL X) N (12 + ((nn Y 16 % 5 : Nat) : Int) + ((nn Y (18 + j) % 5 : Nat) : Int)) 1 = _ from e, bd_t, grd_t (by omega), grd_t lX, wrapN (by omega), iL_ap]
        obtain ⟨X', f1, f2, f3⟩ := rw_3_1 n1046 c1047 (s - 1) (j + 1) f (X ++ [v]) (by omega) (by omega) (by omega) (by simp; omega) (hI.app (by omega) (by omega))
        rw [List.length_append] at f1
        exact ⟨X', f1, f2, f3⟩
      · rw [brn_f (by rw [beq_eq_false_iff_ne]; omega), grd_t (by omega), grd_t lX, wrapI (by omega), t21, wrapN (by omega), iL_ap]
        obtain ⟨X', f1, f2, f3⟩ := rw_3_1 n1046 c1047 (s - 1) (j + 1) f (X ++ [((nn Y (7 + j) % 21 : Nat) : Int)]) (by omega) (by omega) (by omega) (by simp; omega) (hI.app (by omega) (by omega))
        rw [List.length_append] at f1
        exact ⟨X', f1, f2, f3⟩
    · rw [dt_f (by omega)]
      exact ⟨X, rfl, by omega, hI⟩
theorem rb_3_2 (n1046 : Nat) (c1047 : List PV) (n1159 : Nat) (c1160 : List PV) (j : Nat) (hj : j < 4) (n : Nat) (cs : List PV) (a : Nat) (ha : a < 3) : ∀ (s d fuel : Nat) (v : Int), (j + 1) - d = s → d ≤ j + 1 → s < fuel → -200 ≤ v - 2 * (s : Int) → v ≤ 200 →
    ∃ v', m44_L8 N (yL Y) b n1046 c1047 n1159 c1160 j n cs a fuel v (d : Int) = some v' ∧ v - 2 * (s : Int) ≤ v' ∧ v' ≤ v
  | s, d, 0, _, _, _, h, _, _ => by omega
  | s, d, f + 1, v, hs, h1, hf, h2, h3 => by
    have ly := yL_len Y
    rw [m44_L8]
    by_cases h : d ≤ j
    · have q := hb ((3 + a * 4) + d)
      have m3 : nn Y ((3 + a * 4) + d) % 3 < 3 := Nat.mod_lt _ (by omega)
      rw [dt_t (by omega), grd_t ⟨by omega, by omega⟩, grd_t ⟨by omega, by omega⟩, toNatN, toNatN, grd_t (by omega), gY (by omega), wrapI (by omega), t3, wrap64 (n := v - ((nn Y ((3 + a * 4) + d) % 3 : Nat) : Int)) (by omega) (by omega), wrapN (by omega)]
      obtain ⟨v', e, e1, e2⟩ := rb_3_2 n1046 c1047 n1159 c1160 j hj n cs a ha (s - 1) (d + 1) f (v - ((nn Y ((3 + a * 4) + d) % 3 : Nat) : Int)) (by omega) (by omega) (by omega) (by omega) (by omega)
      exact ⟨v', e, by omega, by omega⟩
    · rw [dt_f (by omega)]
      exact ⟨v, rfl, by omega, by omega⟩
theorem ra_3_2 (n1046 : Nat) (c1047 : List PV) (n1159 : Nat) (c1160 : List PV) (j : Nat) (hj : j < 4) (n : Nat) (cs : List PV) : ∀ (s a fuel : Nat) (v : Int), 3 - a = s → a ≤ 3 → 1 ≤ a → s < fuel → -100 ≤ v - 6 * (s : Int) → v ≤ 100 →
    ∃ v', m44_L7 N (yL Y) b n1046 c1047 n1159 c1160 j n cs fuel v (a : Int) = some v' ∧ v - 6 * (s : Int) ≤ v' ∧ v' ≤ v
  | s, a, 0, _, _, _, _, h, _, _ => by omega
  | s, a, f + 1, v, hs, h1, h1', hf, h2, h3 => by
    rw [m44_L7]
    by_cases h : a ≤ 2
    · obtain ⟨w, e, e1, e2⟩ := rb_3_2 N hN Y hY hb b hbb n1046 c1047 n1159 c1160 j hj n cs a (by omega) j 1 N v (by omega) (by omega) (by omega) (by omega) (by omega)
      rw [dt_t (by omega), show m44_L8 N (yL Y) b n1046 c1047 n1159 c1160 j n cs a N v 1 = _ from e, bd_t, wrapN (by omega)]
      obtain ⟨v', f1, f2, f3⟩ := ra_3_2 n1046 c1047 n1159 c1160 j hj n cs (s - 1) (a + 1) f w (by omega) (by omega) (by omega) (by omega) (by omega) (by omega)
      exact ⟨v', f1, by omega, by omega⟩
    · rw [dt_f (by omega)]
      exact ⟨v, rfl, by omega, by omega⟩
theorem rw_3_2 (n1046 : Nat) (c1047 : List PV) (n1159 : Nat) (c1160 : List PV) : ∀ (s j fuel : Nat) (X : List Int), (1 + b % 4) - j = s → j ≤ 1 + b % 4 → s < fuel → X.length = j → In20 X →
    ∃ X', m44_L6 N (yL Y) b n1046 c1047 n1159 c1160 fuel (j : Int) X.length (iL X) = some (X'.length, iL X') ∧ X'.length = 1 + b % 4 ∧ In20 X'
  | s, j, 0, _, _, _, h, _, _ => by omega
  | s, j, f + 1, X, hs, h1, hf, hX, hI => by
    have ly := yL_len Y
    have m4 : b % 4 < 4 := Nat.mod_lt _ (by omega)
    have lX := iL_len X
    rw [m44_L6, ecN hbb]
    by_cases h : j < 1 + b % 4
    · have q1 := hb (11 + j)
      have q2 := hb 2
      have q3 := hb 17
      have q4 := hb (18 + j)
      have m21 : nn Y (11 + j) % 21 < 21 := Nat.mod_lt _ (by omega)
      have m5 : nn Y 17 % 5 < 5 := Nat.mod_lt _ (by omega)
      have m6 : nn Y (18 + j) % 5 < 5 := Nat.mod_lt _ (by omega)
      rw [dt_t (by omega), grd_t ⟨by omega, by omega⟩, toNatN, grd_t (by omega), gY (by omega), grd_t (by omega), grd_t (by omega), gY (by omega), grd_t (by omega), t2]
      by_cases g : nn Y 2 % 2 = 1
      · obtain ⟨v, e, e1, e2⟩ := ra_3_2 N hN Y hY hb b hbb n1046 c1047 n1159 c1160 j (by omega) X.length (iL X) 2 1 N (12 + ((nn Y 17 % 5 : Nat) : Int) + ((nn Y (18 + j) % 5 : Nat) : Int)) (by omega) (by omega) (by omega) (by omega) (by omega) (by omega)
        rw [brn_t (by rw [beq_iff_eq]; omega), grd_t (by omega), gY (by omega), grd_t (by omega), grd_t (by omega), gY (by omega), wrapI (by omega), wrapI (by omega), t5, t5, wrap64 (n := 12 + ((nn Y 17 % 5 : Nat) : Int)) (by omega) (by omega), wrap64 (n := 12 + ((nn Y 17 % 5 : Nat) : Int) + ((nn Y (18 + j) % 5 : Nat) : Int)) (by omega) (by omega)]
        rw [show m44_L7 N (yL Y) b n1046 c1047 n1159 c1160 j X.length (iL X) N (12 + ((nn Y 17 % 5 : Nat) : Int) + ((nn Y (18 + j) % 5 : Nat) : Int)) 1 = _ from e, bd_t, grd_t (by omega), grd_t lX, wrapN (by omega), iL_ap]
        obtain ⟨X', f1, f2, f3⟩ := rw_3_2 n1046 c1047 n1159 c1160 (s - 1) (j + 1) f (X ++ [v]) (by omega) (by omega) (by omega) (by simp; omega) (hI.app (by omega) (by omega))
        rw [List.length_append] at f1
        exact ⟨X', f1, f2, f3⟩
      · rw [brn_f (by rw [beq_eq_false_iff_ne]; omega), grd_t (by omega), grd_t lX, wrapI (by omega), t21, wrapN (by omega), iL_ap]
        obtain ⟨X', f1, f2, f3⟩ := rw_3_2 n1046 c1047 n1159 c1160 (s - 1) (j + 1) f (X ++ [((nn Y (11 + j) % 21 : Nat) : Int)]) (by omega) (by omega) (by omega) (by simp; omega) (hI.app (by omega) (by omega))
        rw [List.length_append] at f1
        exact ⟨X', f1, f2, f3⟩
    · rw [dt_f (by omega)]
      exact ⟨X, rfl, by omega, hI⟩
theorem lo_3 (n1046 : Nat) (c1047 : List PV) (n1159 : Nat) (c1160 : List PV) (n1272 : Nat) (c1273 : List PV) (m : Nat) (hm : m < 256) : ∀ (s t fuel : Nat) (H W : List Int), m % 8 - t = s → s < fuel → H.length = 3 → W.length = 1 + b % 4 → In5 H → In5 W → H.sum = W.sum →
    ∃ H' W', m44_L9 N (yL Y) b n1046 c1047 n1159 c1160 n1272 c1273 m fuel (t : Int) (iL H) (iL W) = some (iL H', iL W') ∧ H'.length = 3 ∧ W'.length = 1 + b % 4 ∧ In5 H' ∧ In5 W' ∧ H'.sum = W'.sum
  | s, t, 0, _, _, _, h, _, _, _, _, _ => by omega
  | s, t, f + 1, H, W, hs, hf, lH, lW, iH, iW, hHW => by
    have ly := yL_len Y
    have m8 : m % 8 < 8 := Nat.mod_lt _ (by omega)
    have m4 : b % 4 < 4 := Nat.mod_lt _ (by omega)
    have lH' := iL_len H
    have lW' := iL_len W
    rw [m44_L9, ecN hbb, wrapI (n := m) (by omega), t8, toNatN, toNatN]
    by_cases h : t < m % 8
    · have q1 := hb (22 + t * 2)
      have q2 := hb (22 + t * 2 + 1)
      have n1 : nn Y (22 + t * 2) % 3 < 3 := Nat.mod_lt _ (by omega)
      have n2 : nn Y (22 + t * 2 + 1) % (1 + b % 4) < 1 + b % 4 := Nat.mod_lt _ (by omega)
      obtain ⟨H1, W1, e, r⟩ := lo_3 n1046 c1047 n1159 c1160 n1272 c1273 m hm (s - 1) (t + 1) f H W (by omega) (by omega) lH lW iH iW hHW
      rw [dt_t (by omega), grd_t ⟨by omega, by omega⟩, toNatN, grd_t (by omega), yL_two (by omega), ga2_t, gi_t, gi_t, wrapI (by omega), wrapI (by omega), t3, tN', toNatN, toNatN, grd_t (by omega), grd_t ⟨by omega, by omega⟩, grd_t (by omega), gX (by omega), wrapN (by omega)]
      by_cases g1 : en H (nn Y (22 + t * 2) % 3) < 5
      · rw [dt_t g1, grd_t ⟨by omega, by omega⟩, grd_t (by omega), gX (by omega)]
        by_cases g2 : en W (nn Y (22 + t * 2 + 1) % (1 + b % 4)) < 5
        · have v1 := iH (nn Y (22 + t * 2) % 3) (by omega)
          have v2 := iW (nn Y (22 + t * 2 + 1) % (1 + b % 4)) (by omega)
          rw [dt_t g2, grd_t (by omega), grd_t (by omega), wrap64 (n := en H (nn Y (22 + t * 2) % 3) + 1) (by omega) (by omega), wrap64 (n := en W (nn Y (22 + t * 2 + 1) % (1 + b % 4)) + 1) (by omega) (by omega), iL_st, iL_st]
          exact lo_3 n1046 c1047 n1159 c1160 n1272 c1273 m hm (s - 1) (t + 1) f _ _ (by omega) (by omega) (by rw [List.length_set]; exact lH) (by rw [List.length_set]; exact lW) (iH.st (by omega) g1) (iW.st (by omega) g2) (by rw [sum_st (by omega), sum_st (by omega), hHW])
        · rw [dt_f g2]; exact ⟨H1, W1, e, r⟩
      · rw [dt_f g1]; exact ⟨H1, W1, e, r⟩
    · rw [dt_f (by omega)]
      exact ⟨H, W, rfl, lH, lW, iH, iW, hHW⟩
end
theorem made_ok (N : Nat) (hN : 2000 ≤ N) (Y : List Nat) (hY : Y.length = 37) (hb : ∀ k, nn Y k < 256) : ∃ (L : List (List Int)) (c : Nat) (H W : List Int),
    m44 N (.agg (yL Y)) = some (.tup [.lst false L.length (rwsP L), .agg [rwP H, rwP W]]) ∧ Okc L c ∧ H.length = L.length ∧ W.length = c ∧ In5 H ∧ In5 W ∧ H.sum = W.sum := by
  have ly := yL_len Y
  have b0 := hb 0
  have b1 := hb 1
  have bm := hb 36
  have m3 : nn Y 0 % 3 < 3 := Nat.mod_lt _ (by omega)
  have m4 : nn Y 1 % 4 < 4 := Nat.mod_lt _ (by omega)
  have m8 : nn Y 36 % 8 < 8 := Nat.mod_lt _ (by omega)
  have z : In20 [] := fun k hk => by simp at hk
  have lz := In5.rep (1 + nn Y 1 % 4)
  rw [m44, ga_t, grd_t (by omega), gY (by omega), grd_t (by omega), grd_t (by omega), gY (by omega), grd_t (by omega), erN b0, ecN b1, toNatN]
  have hr : nn Y 0 % 3 = 0 ∨ nn Y 0 % 3 = 1 ∨ nn Y 0 % 3 = 2 := by omega
  rcases hr with hr | hr | hr
  · rw [ki_t (by omega)]
    obtain ⟨X0, e0, l0, i0⟩ := rw_1_0 N hN Y hY hb (nn Y 1) b1  (1 + nn Y 1 % 4) 0 N [] (by omega) (by omega) (by omega) rfl z
    rw [show m44_L17 N (yL Y) (nn Y 1)  N 0 0 [] = _ from e0, bd_t]
    have lzR := In5.rep 1
    obtain ⟨H, W, e9, lH, lW, iH, iW, hHW⟩ := lo_1 N hN Y hY hb (nn Y 1) b1 X0.length (iL X0) (nn Y 36) bm (nn Y 36 % 8) 0 N (List.replicate 1 0) (List.replicate (1 + nn Y 1 % 4) 0) (by omega) (by omega) rfl (by simp) lzR lz (by rw [sum_rep, sum_rep])
    have lH' := iL_len H
    have lW' := iL_len W
    have k0 := iL_len X0
    refine ⟨[X0], 1 + nn Y 1 % 4, H, W, ?_, ⟨by simp, by simp, by omega, by omega, ?_, ?_⟩, lH, lW, iH, iW, hHW⟩
    · show grd _ (grd _ (getI .u8 (gp (yL Y) 36) _)) = _
      rw [grd_t ⟨by omega, by omega, by omega⟩, grd_t (by omega), gY (by omega), grd_t (by omega), wrapI (n := nn Y 36) (by omega), t8, grd_t ⟨by omega, by omega, by omega⟩, iL_rep]
      rw [show m44_L20 N (yL Y) (nn Y 1) X0.length (iL X0) (nn Y 36) N 0 [.int .i64 0] (iL (List.replicate (1 + nn Y 1 % 4) 0)) = _ from e9, bd_t]
      show grd _ (grd _ (grd _ (some _))) = _
      rw [grd_t k0, grd_t (show (iL H).length = 1 by omega), grd_t (show (iL W).length = 1 + nn Y 1 % 4 by omega)]
      unfold rwP
      rw [lH, lW]
      rfl
    · intro i hi
      have hi' : i < 1 := hi
      have h : i = 0 := by omega
      subst h
      · exact l0
    · intro i j hi hj
      have hi' : i < 1 := hi
      have h : i = 0 := by omega
      subst h
      · exact i0 j (by omega)
  · rw [ki_f (by omega), ki_t (by omega)]
    obtain ⟨X0, e0, l0, i0⟩ := rw_2_0 N hN Y hY hb (nn Y 1) b1  (1 + nn Y 1 % 4) 0 N [] (by omega) (by omega) (by omega) rfl z
    rw [show m44_L10 N (yL Y) (nn Y 1)  N 0 0 [] = _ from e0, bd_t]
    dsimp only
    obtain ⟨X1, e1, l1, i1⟩ := rw_2_1 N hN Y hY hb (nn Y 1) b1 X0.length (iL X0) (1 + nn Y 1 % 4) 0 N [] (by omega) (by omega) (by omega) rfl z
    rw [show m44_L13 N (yL Y) (nn Y 1) X0.length (iL X0) N 0 0 [] = _ from e1, bd_t]
    have lzR := In5.rep 2
    obtain ⟨H, W, e9, lH, lW, iH, iW, hHW⟩ := lo_2 N hN Y hY hb (nn Y 1) b1 X0.length (iL X0) X1.length (iL X1) (nn Y 36) bm (nn Y 36 % 8) 0 N (List.replicate 2 0) (List.replicate (1 + nn Y 1 % 4) 0) (by omega) (by omega) rfl (by simp) lzR lz (by rw [sum_rep, sum_rep])
    have lH' := iL_len H
    have lW' := iL_len W
    have k0 := iL_len X0
    have k1 := iL_len X1
    refine ⟨[X0, X1], 1 + nn Y 1 % 4, H, W, ?_, ⟨by simp, by simp, by omega, by omega, ?_, ?_⟩, lH, lW, iH, iW, hHW⟩
    · show grd _ (grd _ (getI .u8 (gp (yL Y) 36) _)) = _
      rw [grd_t ⟨by omega, by omega, by omega⟩, grd_t (by omega), gY (by omega), grd_t (by omega), wrapI (n := nn Y 36) (by omega), t8, grd_t ⟨by omega, by omega, by omega⟩, iL_rep]
      rw [show m44_L16 N (yL Y) (nn Y 1) X0.length (iL X0) X1.length (iL X1) (nn Y 36) N 0 [.int .i64 0, .int .i64 0] (iL (List.replicate (1 + nn Y 1 % 4) 0)) = _ from e9, bd_t]
      show grd _ (grd _ (grd _ (grd _ (some _)))) = _
      rw [grd_t k0, grd_t k1, grd_t (show (iL H).length = 2 by omega), grd_t (show (iL W).length = 1 + nn Y 1 % 4 by omega)]
      unfold rwP
      rw [lH, lW]
      rfl
    · intro i hi
      have hi' : i < 2 := hi
      have h : i = 0 ∨ i = 1 := by omega
      rcases h with rfl | rfl
      · exact l0
      · exact l1
    · intro i j hi hj
      have hi' : i < 2 := hi
      have h : i = 0 ∨ i = 1 := by omega
      rcases h with rfl | rfl
      · exact i0 j (by omega)
      · exact i1 j (by omega)
  · rw [ki_f (by omega), ki_f (by omega), ki_t (by omega)]
    obtain ⟨X0, e0, l0, i0⟩ := rw_3_0 N hN Y hY hb (nn Y 1) b1  (1 + nn Y 1 % 4) 0 N [] (by omega) (by omega) (by omega) rfl z
    rw [show m44_L0 N (yL Y) (nn Y 1)  N 0 0 [] = _ from e0, bd_t]
    dsimp only
    obtain ⟨X1, e1, l1, i1⟩ := rw_3_1 N hN Y hY hb (nn Y 1) b1 X0.length (iL X0) (1 + nn Y 1 % 4) 0 N [] (by omega) (by omega) (by omega) rfl z
    rw [show m44_L3 N (yL Y) (nn Y 1) X0.length (iL X0) N 0 0 [] = _ from e1, bd_t]
    dsimp only
    obtain ⟨X2, e2, l2, i2⟩ := rw_3_2 N hN Y hY hb (nn Y 1) b1 X0.length (iL X0) X1.length (iL X1) (1 + nn Y 1 % 4) 0 N [] (by omega) (by omega) (by omega) rfl z
    rw [show m44_L6 N (yL Y) (nn Y 1) X0.length (iL X0) X1.length (iL X1) N 0 0 [] = _ from e2, bd_t]
    have lzR := In5.rep 3
    obtain ⟨H, W, e9, lH, lW, iH, iW, hHW⟩ := lo_3 N hN Y hY hb (nn Y 1) b1 X0.length (iL X0) X1.length (iL X1) X2.length (iL X2) (nn Y 36) bm (nn Y 36 % 8) 0 N (List.replicate 3 0) (List.replicate (1 + nn Y 1 % 4) 0) (by omega) (by omega) rfl (by simp) lzR lz (by rw [sum_rep, sum_rep])
    have lH' := iL_len H
    have lW' := iL_len W
    have k0 := iL_len X0
    have k1 := iL_len X1
    have k2 := iL_len X2
    refine ⟨[X0, X1, X2], 1 + nn Y 1 % 4, H, W, ?_, ⟨by simp, by simp, by omega, by omega, ?_, ?_⟩, lH, lW, iH, iW, hHW⟩
    · show grd _ (grd _ (getI .u8 (gp (yL Y) 36) _)) = _
      rw [grd_t ⟨by omega, by omega, by omega⟩, grd_t (by omega), gY (by omega), grd_t (by omega), wrapI (n := nn Y 36) (by omega), t8, grd_t ⟨by omega, by omega, by omega⟩, iL_rep]
      rw [show m44_L9 N (yL Y) (nn Y 1) X0.length (iL X0) X1.length (iL X1) X2.length (iL X2) (nn Y 36) N 0 [.int .i64 0, .int .i64 0, .int .i64 0] (iL (List.replicate (1 + nn Y 1 % 4) 0)) = _ from e9, bd_t]
      show grd _ (grd _ (grd _ (grd _ (grd _ (some _))))) = _
      rw [grd_t k0, grd_t k1, grd_t k2, grd_t (show (iL H).length = 3 by omega), grd_t (show (iL W).length = 1 + nn Y 1 % 4 by omega)]
      unfold rwP
      rw [lH, lW]
      rfl
    · intro i hi
      have hi' : i < 3 := hi
      have h : i = 0 ∨ i = 1 ∨ i = 2 := by omega
      rcases h with rfl | rfl | rfl
      · exact l0
      · exact l1
      · exact l2
    · intro i j hi hj
      have hi' : i < 3 := hi
      have h : i = 0 ∨ i = 1 ∨ i = 2 := by omega
      rcases h with rfl | rfl | rfl
      · exact i0 j (by omega)
      · exact i1 j (by omega)
      · exact i2 j (by omega)
end Go.Proofs.Yteidcinajdehkaa
