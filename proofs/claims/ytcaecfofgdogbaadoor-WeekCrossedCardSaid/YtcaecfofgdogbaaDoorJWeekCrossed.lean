/-
  WeekCrossed: the law returns true.
-/
import Derived.Test.YtcaecfofgdogbaaDoorJWxA
import Derived.Test.YtcaecfofgdogbaaDoorJWmade
import Derived.Test.YtcaecfofgdogbaaDoorJWrB
import Derived.Test.YtcaecfofgdogbaaDoorJV32
import Derived.Test.YtcaecfofgdogbaaDoorRows
import Derived.Test.YtcaecfofgdogbaaDoorCards
import Derived.Test.YtcaecfofgdogbaaDoorTie
import Derived.Test.YtcaecfofgdogbaaDoorJV31
import Derived.WalkKit
import Derived.ProofKit
import Derived.OpenShut
import Derived.Lay
import Derived.SevenTiedAt
import Derived.MakeChecks
set_option linter.unusedSimpArgs false
set_option linter.unusedVariables false
namespace Go.Proofs.YtcaecfofgdogbaaDoor
open Go.V
set_option linter.unusedSectionVars false
def sx (X : List (List Nat)) (j d : Nat) : Nat := gn (X.getD j []) d
def sts (X : List (List Nat)) (l : List Nat) : List Nat := (List.range l.length).map fun i => sx X i (gn l i)
def crs (n : Nat) (X : List (List Nat)) : Nat → List Nat → List (List Nat)
  | 0, l => [l]
  | f + 1, l => (List.range n).flatMap fun d => if d ∈ l ∨ sx X l.length d ∈ sts X l then [] else crs n X f (l ++ [d])
def cr1 (n : Nat) (X : List (List Nat)) (f : Nat) (l : List Nat) (d : Nat) : List (List Nat) := if d ∈ l ∨ sx X l.length d ∈ sts X l then [] else crs n X f (l ++ [d])
def runC {σ : Type} (e : List Nat → σ → Bool × σ) : List (List Nat) → σ → Bool × σ
  | [], p => (true, p)
  | x :: xs, p => if (e x p).1 then runC e xs (e x p).2 else (false, (e x p).2)
theorem runC_app {σ : Type} (e : List Nat → σ → Bool × σ) : ∀ (a b : List (List Nat)) (p : σ), runC e (a ++ b) p = if (runC e a p).1 then runC e b (runC e a p).2 else (false, (runC e a p).2)
  | [], b, p => by simp [runC]
  | x :: a, b, p => by
    simp only [List.cons_append, runC]
    by_cases h : (e x p).1 = true
    · simp only [h, if_true]; exact runC_app e a b _
    · simp only [h]; rfl
def outL {σ : Type} (r : Bool × σ) : (PV × σ) ⊕ σ := if r.1 then .inr r.2 else .inl (.bool false, r.2)
def eF (x : List Nat) (_ : PV) : Bool × PV := (false, rwP (nL x))
def eC (_ : List Nat) (k : Int) : Bool × Int := (true, IntKind.i64.wrap (k + 1))
theorem b_tst0 : ∀ x : Nat, x < 32 → ∀ s : Nat, s < 5 → (bitsI .and .u64 (Int.fdiv (x : Int) (2 ^ (min s 64))) 1 == 0) = !x.testBit s := by decide +kernel
structure Xp (n : Nat) (X : List (List Nat)) (T : T3) : Prop where
  n1 : 1 ≤ n
  n5 : n ≤ 5
  tb : Tb T.1 T.2.1 T.2.2
  a : ∀ j d, j < n → d < n → en T.1 (j * 5 + d) = (sx X j d : Int)
  s : ∀ j d, j < n → d < n → sx X j d < n
structure Bs (x : Nat) (l : List Nat) : Prop where
  lt : x < 32
  b : ∀ s, s < 5 → x.testBit s = decide (s ∈ l)
theorem Bs.add {x : Nat} {l : List Nat} (h : Bs x l) {d : Nat} (hd : d < 5) : Bs (x ||| 2 ^ d) (l ++ [d]) := ⟨or_lt x h.lt d hd, fun s hs => by
  rw [tst_or x h.lt d hd s hs, h.b s hs]
  simp⟩
theorem sts_app (X : List (List Nat)) (l : List Nat) (d : Nat) : sts X (l ++ [d]) = sts X l ++ [sx X l.length d] := by
  unfold sts
  rw [List.length_append, List.length_singleton, List.range_succ, List.map_append]
  congr 1
  · refine List.map_congr_left fun i hi => ?_
    rw [gn_app1 (List.mem_range.1 hi)]
  · simp [gn]
theorem nL_app (l : List Nat) (d : Nat) : iL (nL l) ++ [.int .i64 (d : Int)] = iL (nL (l ++ [d])) := by simp [nL, iL]
theorem wxm94_3_A_L (N n : Nat) (X : List (List Nat)) (T : T3) (h : Xp n X T) (rec : Nat → Int → Int → List PV → Int → PV → List PV → Option (PV × PV)) (f : Nat) (l : List Nat) (hl : l.length + (f + 1) = n) (x y : Nat) (hx : Bs x l) (hy : Bs y (sts X l))
    (hrec : ∀ d, d < n → ∀ (x' y' : Nat), Bs x' (l ++ [d]) → Bs y' (sts X (l ++ [d])) → ∀ p, rec (l.length + 1) (x' : Int) (y' : Int) (iL (nL (l ++ [d]))) (n : Int) p (tP n T) = some (.bool (runC eF (crs n X f (l ++ [d])) p).1, (runC eF (crs n X f (l ++ [d])) p).2)) :
    ∀ (g d fuel : Nat) (p : PV), n - d = g → g < fuel → d ≤ n → m94_3_A_L0 N rec l.length (x : Int) (y : Int) (iL (nL l)) (n : Int) (tP n T) fuel (d : Int) p = some (outL (runC eF ((List.range' d (n - d)).flatMap (cr1 n X f l)) p))
  | g, d, 0, _, _, hf, _ => by omega
  | g, d, fuel + 1, p, hg, hf, hd => by
    have n5 := h.n5
    rw [m94_3_A_L0]
    by_cases hdn : d < n
    · have ha := h.a l.length d (by omega) hdn
      have hs := h.s l.length d (by omega) hdn
      have ih := fun q => wxm94_3_A_L N n X T h rec f l hl x y hx hy hrec (g - 1) (d + 1) fuel q (by omega) (by omega) (by omega)
      simp only [toNatN]
      rw [brn_dt (by omega), grd_t (by omega), grd_t (by rw [show tP n T = tblP n T.1 T.2.1 T.2.2 from rfl, tbl_len h.tb]; omega), show tP n T = tblP n T.1 T.2.1 T.2.2 from rfl, show 1 + l.length * 5 + d = 1 + (l.length * 5 + d) by omega, gp_a h.tb (by omega), ha, getI_t, b_tst0 x hx.lt d (by omega), hx.b d (by omega), wrapN (by omega), range'_step hdn, List.flatMap_cons, runC_app]
      by_cases h1 : d ∈ l
      · rw [brn_f (by simp [h1])]
        have e : cr1 n X f l d = [] := by unfold cr1; rw [if_pos (.inl h1)]
        rw [e]
        exact ih p
      · rw [brn_t (by simp [h1]), grd_t (by omega), toNatN, b_tst0 y hy.lt _ (by omega), hy.b _ (by omega)]
        by_cases h2 : sx X l.length d ∈ sts X l
        · rw [brn_f (by simp [h2])]
          have e : cr1 n X f l d = [] := by unfold cr1; rw [if_pos (.inr h2)]
          rw [e]
          exact ih p
        · have e : cr1 n X f l d = crs n X f (l ++ [d]) := by unfold cr1; rw [if_neg (by rintro (q | q); exact h1 q; exact h2 q)]
          rw [brn_t (by simp [h2]), grd_t (by omega), grd_t (by rw [iL_len, nL_len]), b_or x hx.lt d (by omega), b_or y hy.lt _ (by omega), nL_app, show tblP n T.1 T.2.1 T.2.2 = tP n T from rfl, hrec d hdn _ _ (hx.add (by omega)) (by rw [sts_app]; exact hy.add (by omega)), bnd_t, getB_t, e]
          cases hb : (runC eF (crs n X f (l ++ [d])) p).1 with
          | true => rw [brn_t rfl, if_pos rfl]; exact ih _
          | false => rw [brn_f rfl, if_neg (by simp)]; rfl
    · rw [brn_df (by rw [toNatN]; omega), show n - d = 0 by omega]; rfl
theorem wxm94_3_A_leaf (N n : Nat) (X : List (List Nat)) (T : T3) (h : Xp n X T) (rec : Nat → Int → Int → List PV → Int → PV → List PV → Option (PV × PV)) (l : List Nat) (hl : l.length = n) (x y : Int) (p : PV) : m94_3_A N rec l.length x y (iL (nL l)) (n : Int) p (tP n T) = some (.bool (runC eF [l] p).1, (runC eF [l] p).2) := by
  have n1 := h.n1
  have n5 := h.n5
  have e : (iL (nL l)).length = l.length := by rw [iL_len, nL_len]
  unfold m94_3_A
  rw [brn_et (by omega), m56_2, grd_t (by omega), grd_t e, grd_t (by omega), bnd_t, getL_t, m75, getL_t, bnd_t]
  show getB _ _ = _
  rw [getB_t]
  simp only [runC, eF, rwP, nL_len, if_true, Bool.false_eq_true, if_false]
theorem wxm94_3_A_node (N n : Nat) (hN : 5000 ≤ N) (X : List (List Nat)) (T : T3) (h : Xp n X T) (rec : Nat → Int → Int → List PV → Int → PV → List PV → Option (PV × PV)) (f : Nat) (l : List Nat) (hl : l.length + (f + 1) = n) (x y : Nat) (hx : Bs x l) (hy : Bs y (sts X l))
    (hrec : ∀ d, d < n → ∀ (x' y' : Nat), Bs x' (l ++ [d]) → Bs y' (sts X (l ++ [d])) → ∀ p, rec (l.length + 1) (x' : Int) (y' : Int) (iL (nL (l ++ [d]))) (n : Int) p (tP n T) = some (.bool (runC eF (crs n X f (l ++ [d])) p).1, (runC eF (crs n X f (l ++ [d])) p).2)) (p : PV) :
    m94_3_A N rec l.length (x : Int) (y : Int) (iL (nL l)) (n : Int) p (tP n T) = some (.bool (runC eF (crs n X (f + 1) l) p).1, (runC eF (crs n X (f + 1) l) p).2) := by
  have n5 := h.n5
  have e : (iL (nL l)).length = l.length := by rw [iL_len, nL_len]
  have hL := wxm94_3_A_L N n X T h rec f l hl x y hx hy hrec n 0 N p (by omega) (by omega) (by omega)
  rw [Nat.sub_zero, ← List.range_eq_range'] at hL
  unfold m94_3_A
  rw [brn_ef (by omega), grd_t (by omega), grd_t (by rw [show tP n T = tblP n T.1 T.2.1 T.2.2 from rfl, tbl_len h.tb]; omega), show m94_3_A_L0 N rec l.length (x : Int) (y : Int) (iL (nL l)) (n : Int) (tP n T) N 0 p = _ from hL, bnd_t]
  show _ = some (PV.bool (runC eF ((List.range n).flatMap (cr1 n X f l)) p).1, (runC eF ((List.range n).flatMap (cr1 n X f l)) p).2)
  unfold outL
  cases hb : (runC eF ((List.range n).flatMap (cr1 n X f l)) p).1 with
  | true => rw [if_pos rfl]
  | false => rw [if_neg (by simp)]
theorem wxm94_3_B_L (N n : Nat) (X : List (List Nat)) (T : T3) (h : Xp n X T) (rec : Nat → Int → Int → List PV → Int → PV → List PV → Option (PV × PV)) (f : Nat) (l : List Nat) (hl : l.length + (f + 1) = n) (x y : Nat) (hx : Bs x l) (hy : Bs y (sts X l))
    (hrec : ∀ d, d < n → ∀ (x' y' : Nat), Bs x' (l ++ [d]) → Bs y' (sts X (l ++ [d])) → ∀ p, rec (l.length + 1) (x' : Int) (y' : Int) (iL (nL (l ++ [d]))) (n : Int) p (tP n T) = some (.bool (runC eF (crs n X f (l ++ [d])) p).1, (runC eF (crs n X f (l ++ [d])) p).2)) :
    ∀ (g d fuel : Nat) (p : PV), n - d = g → g < fuel → d ≤ n → m94_3_B_L0 N rec l.length (x : Int) (y : Int) (iL (nL l)) (n : Int) (tP n T) fuel (d : Int) p = some (outL (runC eF ((List.range' d (n - d)).flatMap (cr1 n X f l)) p))
  | g, d, 0, _, _, hf, _ => by omega
  | g, d, fuel + 1, p, hg, hf, hd => by
    have n5 := h.n5
    rw [m94_3_B_L0]
    by_cases hdn : d < n
    · have ha := h.a l.length d (by omega) hdn
      have hs := h.s l.length d (by omega) hdn
      have ih := fun q => wxm94_3_B_L N n X T h rec f l hl x y hx hy hrec (g - 1) (d + 1) fuel q (by omega) (by omega) (by omega)
      simp only [toNatN]
      rw [brn_dt (by omega), grd_t (by omega), grd_t (by rw [show tP n T = tblP n T.1 T.2.1 T.2.2 from rfl, tbl_len h.tb]; omega), show tP n T = tblP n T.1 T.2.1 T.2.2 from rfl, show 1 + l.length * 5 + d = 1 + (l.length * 5 + d) by omega, gp_a h.tb (by omega), ha, getI_t, b_tst0 x hx.lt d (by omega), hx.b d (by omega), wrapN (by omega), range'_step hdn, List.flatMap_cons, runC_app]
      by_cases h1 : d ∈ l
      · rw [brn_f (by simp [h1])]
        have e : cr1 n X f l d = [] := by unfold cr1; rw [if_pos (.inl h1)]
        rw [e]
        exact ih p
      · rw [brn_t (by simp [h1]), grd_t (by omega), toNatN, b_tst0 y hy.lt _ (by omega), hy.b _ (by omega)]
        by_cases h2 : sx X l.length d ∈ sts X l
        · rw [brn_f (by simp [h2])]
          have e : cr1 n X f l d = [] := by unfold cr1; rw [if_pos (.inr h2)]
          rw [e]
          exact ih p
        · have e : cr1 n X f l d = crs n X f (l ++ [d]) := by unfold cr1; rw [if_neg (by rintro (q | q); exact h1 q; exact h2 q)]
          rw [brn_t (by simp [h2]), b_or x hx.lt d (by omega), b_or y hy.lt _ (by omega), nL_app, show tblP n T.1 T.2.1 T.2.2 = tP n T from rfl, hrec d hdn _ _ (hx.add (by omega)) (by rw [sts_app]; exact hy.add (by omega)), bnd_t, getB_t, e]
          cases hb : (runC eF (crs n X f (l ++ [d])) p).1 with
          | true => rw [brn_t rfl, if_pos rfl]; exact ih _
          | false => rw [brn_f rfl, if_neg (by simp)]; rfl
    · rw [brn_df (by rw [toNatN]; omega), show n - d = 0 by omega]; rfl
theorem wxm94_3_B_leaf (N n : Nat) (X : List (List Nat)) (T : T3) (h : Xp n X T) (rec : Nat → Int → Int → List PV → Int → PV → List PV → Option (PV × PV)) (l : List Nat) (hl : l.length = n) (x y : Int) (p : PV) : m94_3_B N rec l.length x y (iL (nL l)) (n : Int) p (tP n T) = some (.bool (runC eF [l] p).1, (runC eF [l] p).2) := by
  have n1 := h.n1
  have n5 := h.n5
  have e : (iL (nL l)).length = l.length := by rw [iL_len, nL_len]
  unfold m94_3_B
  rw [grd_t e, brn_et (by omega), m56_3, grd_t (by omega), grd_t e, grd_t (by omega), bnd_t, getL_t, m75, getL_t, bnd_t]
  show getB _ _ = _
  rw [getB_t]
  simp only [runC, eF, rwP, nL_len, if_true, Bool.false_eq_true, if_false]
theorem wxm94_3_B_node (N n : Nat) (hN : 5000 ≤ N) (X : List (List Nat)) (T : T3) (h : Xp n X T) (rec : Nat → Int → Int → List PV → Int → PV → List PV → Option (PV × PV)) (f : Nat) (l : List Nat) (hl : l.length + (f + 1) = n) (x y : Nat) (hx : Bs x l) (hy : Bs y (sts X l))
    (hrec : ∀ d, d < n → ∀ (x' y' : Nat), Bs x' (l ++ [d]) → Bs y' (sts X (l ++ [d])) → ∀ p, rec (l.length + 1) (x' : Int) (y' : Int) (iL (nL (l ++ [d]))) (n : Int) p (tP n T) = some (.bool (runC eF (crs n X f (l ++ [d])) p).1, (runC eF (crs n X f (l ++ [d])) p).2)) (p : PV) :
    m94_3_B N rec l.length (x : Int) (y : Int) (iL (nL l)) (n : Int) p (tP n T) = some (.bool (runC eF (crs n X (f + 1) l) p).1, (runC eF (crs n X (f + 1) l) p).2) := by
  have n5 := h.n5
  have e : (iL (nL l)).length = l.length := by rw [iL_len, nL_len]
  have hL := wxm94_3_B_L N n X T h rec f l hl x y hx hy hrec n 0 N p (by omega) (by omega) (by omega)
  rw [Nat.sub_zero, ← List.range_eq_range'] at hL
  unfold m94_3_B
  rw [grd_t e, brn_ef (by omega), grd_t (by omega), grd_t (by rw [show tP n T = tblP n T.1 T.2.1 T.2.2 from rfl, tbl_len h.tb]; omega), show m94_3_B_L0 N rec l.length (x : Int) (y : Int) (iL (nL l)) (n : Int) (tP n T) N 0 p = _ from hL, bnd_t]
  show _ = some (PV.bool (runC eF ((List.range n).flatMap (cr1 n X f l)) p).1, (runC eF ((List.range n).flatMap (cr1 n X f l)) p).2)
  unfold outL
  cases hb : (runC eF ((List.range n).flatMap (cr1 n X f l)) p).1 with
  | true => rw [if_pos rfl]
  | false => rw [if_neg (by simp)]
theorem wxm94_3_ok (N n : Nat) (hN : 5000 ≤ N) (X : List (List Nat)) (T : T3) (h : Xp n X T) : ∀ (f fu : Nat) (l : List Nat) (x y : Nat) (p : PV), l.length + f = n → f < fu → Bs x l → Bs y (sts X l) →
    m94_3 N fu l.length (x : Int) (y : Int) (iL (nL l)) (n : Int) p (tP n T) = some (.bool (runC eF (crs n X f l) p).1, (runC eF (crs n X f l) p).2)
  | f, 0, _, _, _, _, _, hf, _, _ => by omega
  | 0, fu + 1, l, x, y, p, hl, _, _, _ => by
    rw [m94_3]
    exact both_same (wxm94_3_A_leaf N n X T h _ l (by omega) _ _ p) (wxm94_3_B_leaf N n X T h _ l (by omega) _ _ p)
  | f + 1, fu + 1, l, x, y, p, hl, hf, hx, hy => by
    rw [m94_3]
    have hr : ∀ d, d < n → ∀ (x' y' : Nat), Bs x' (l ++ [d]) → Bs y' (sts X (l ++ [d])) → ∀ p, m94_3 N fu (l.length + 1) (x' : Int) (y' : Int) (iL (nL (l ++ [d]))) (n : Int) p (tP n T) = some (.bool (runC eF (crs n X f (l ++ [d])) p).1, (runC eF (crs n X f (l ++ [d])) p).2) := by
      intro d _ x' y' hx' hy' p'
      have := wxm94_3_ok N n hN X T h f fu (l ++ [d]) x' y' p' (by simp; omega) (by omega) hx' hy'
      rwa [List.length_append, List.length_singleton] at this
    exact both_same (wxm94_3_A_node N n hN X T h _ f l hl x y hx hy hr p) (wxm94_3_B_node N n hN X T h _ f l hl x y hx hy hr p)
theorem wxm94_2_L (N n : Nat) (hN : 5000 ≤ N) (X : List (List Nat)) (T : T3) (h : Xp n X T) (f : Nat) (hl : f + 1 = n) :
    ∀ (g d fuel : Nat) (p : PV), n - d = g → g < fuel → d ≤ n → m94_2_L0 N 0 0 (n : Int) (tP n T) fuel (d : Int) p = some (outL (runC eF ((List.range' d (n - d)).flatMap (cr1 n X f [])) p))
  | g, d, 0, _, _, hf, _ => by omega
  | g, d, fuel + 1, p, hg, hf, hd => by
    have n5 := h.n5
    have hx : Bs 0 ([] : List Nat) := ⟨by decide, fun s _ => by simp⟩
    have hy : Bs 0 (sts X []) := ⟨by decide, fun s _ => by simp [sts]⟩
    rw [m94_2_L0]
    by_cases hdn : d < n
    · have ha := h.a 0 d (by omega) hdn
      have hs := h.s 0 d (by omega) hdn
      have ih := fun q => wxm94_2_L N n hN X T h f hl (g - 1) (d + 1) fuel q (by omega) (by omega) (by omega)
      rw [Nat.zero_mul, Nat.zero_add] at ha
      simp only [toNatN]
      rw [brn_dt (by omega), grd_t (by omega), grd_t (by rw [show tP n T = tblP n T.1 T.2.1 T.2.2 from rfl, tbl_len h.tb]; omega), show tP n T = tblP n T.1 T.2.1 T.2.2 from rfl, gp_a h.tb (by omega), ha, getI_t, wrapN (by omega), range'_step hdn, List.flatMap_cons, runC_app]
      have b1 := b_tst0 0 (by decide) d (by omega)
      have b2 := b_tst0 0 (by decide) (sx X 0 d) (by omega)
      have o1 := b_or 0 (by decide) d (by omega)
      have o2 := b_or 0 (by decide) (sx X 0 d) (by omega)
      have hk := wxm94_3_ok N n hN X T h f N [d] (0 ||| 2 ^ d) (0 ||| 2 ^ sx X 0 d) p (by simp; omega) (by omega) (hx.add (l := []) (by omega)) (by
        have := sts_app X [] d
        rw [List.nil_append] at this
        rw [this]; exact hy.add (by show sx X 0 d < 5; omega))
      have e : cr1 n X f [] d = crs n X f [d] := by unfold cr1; rw [if_neg (by simp [sts])]; rfl
      have z1 : (0 : Nat).testBit d = false := Nat.zero_testBit d
      have z2 : (0 : Nat).testBit (sx X 0 d) = false := Nat.zero_testBit _
      rw [z1] at b1
      rw [z2] at b2
      rw [show ((0 : Nat) : Int) = 0 from rfl] at b1 b2 o1 o2
      rw [brn_t b1, grd_t (by omega), toNatN, brn_t b2, o1, o2]
      rw [show m94_3 N N 1 ((0 ||| 2 ^ d : Nat) : Int) ((0 ||| 2 ^ sx X 0 d : Nat) : Int) [PV.int .i64 (d : Int)] (n : Int) p (tblP n T.1 T.2.1 T.2.2) = _ from hk, bnd_t, getB_t, e]
      cases hb : (runC eF (crs n X f [d]) p).1 with
      | true => rw [brn_t rfl, if_pos rfl]; exact ih _
      | false => rw [brn_f rfl, if_neg (by simp)]; rfl
    · rw [brn_df (by rw [toNatN]; omega), show n - d = 0 by omega]; rfl
theorem wxm94_2_ok (N n : Nat) (hN : 5000 ≤ N) (X : List (List Nat)) (T : T3) (h : Xp n X T) (p : PV) : m94_2 N 0 0 (n : Int) p (tP n T) = some (.bool (runC eF (crs n X n []) p).1, (runC eF (crs n X n []) p).2) := by
  have n1 := h.n1
  have n5 := h.n5
  obtain ⟨f, rfl⟩ : ∃ f, n = f + 1 := ⟨n - 1, by omega⟩
  have hL := wxm94_2_L N (f + 1) hN X T h f rfl (f + 1) 0 N p (by omega) (by omega) (by omega)
  rw [Nat.sub_zero, ← List.range_eq_range'] at hL
  unfold m94_2
  rw [brn_ef (by omega), grd_t ⟨by omega, by omega, by rw [show tP (f + 1) T = tblP (f + 1) T.1 T.2.1 T.2.2 from rfl, tbl_len h.tb]; omega⟩, show m94_2_L0 N 0 0 ((f + 1 : Nat) : Int) (tP (f + 1) T) N 0 p = _ from hL, bnd_t]
  show _ = some (PV.bool (runC eF ((List.range (f + 1)).flatMap (cr1 (f + 1) X f [])) p).1, (runC eF ((List.range (f + 1)).flatMap (cr1 (f + 1) X f [])) p).2)
  unfold outL
  cases hb : (runC eF ((List.range (f + 1)).flatMap (cr1 (f + 1) X f [])) p).1 with
  | true => rw [if_pos rfl]
  | false => rw [if_neg (by simp)]
theorem wxm94_6_A_L (N n : Nat) (X : List (List Nat)) (T : T3) (h : Xp n X T) (rec : Nat → Int → Int → List PV → Int → Int → List PV → Option (PV × Int)) (f : Nat) (l : List Nat) (hl : l.length + (f + 1) = n) (x y : Nat) (hx : Bs x l) (hy : Bs y (sts X l))
    (hrec : ∀ d, d < n → ∀ (x' y' : Nat), Bs x' (l ++ [d]) → Bs y' (sts X (l ++ [d])) → ∀ p, rec (l.length + 1) (x' : Int) (y' : Int) (iL (nL (l ++ [d]))) (n : Int) p (tP n T) = some (.bool (runC eC (crs n X f (l ++ [d])) p).1, (runC eC (crs n X f (l ++ [d])) p).2)) :
    ∀ (g d fuel : Nat) (p : Int), n - d = g → g < fuel → d ≤ n → m94_6_A_L0 N rec l.length (x : Int) (y : Int) (iL (nL l)) (n : Int) (tP n T) fuel (d : Int) p = some (outL (runC eC ((List.range' d (n - d)).flatMap (cr1 n X f l)) p))
  | g, d, 0, _, _, hf, _ => by omega
  | g, d, fuel + 1, p, hg, hf, hd => by
    have n5 := h.n5
    rw [m94_6_A_L0]
    by_cases hdn : d < n
    · have ha := h.a l.length d (by omega) hdn
      have hs := h.s l.length d (by omega) hdn
      have ih := fun q => wxm94_6_A_L N n X T h rec f l hl x y hx hy hrec (g - 1) (d + 1) fuel q (by omega) (by omega) (by omega)
      simp only [toNatN]
      rw [brn_dt (by omega), grd_t (by omega), grd_t (by rw [show tP n T = tblP n T.1 T.2.1 T.2.2 from rfl, tbl_len h.tb]; omega), show tP n T = tblP n T.1 T.2.1 T.2.2 from rfl, show 1 + l.length * 5 + d = 1 + (l.length * 5 + d) by omega, gp_a h.tb (by omega), ha, getI_t, b_tst0 x hx.lt d (by omega), hx.b d (by omega), wrapN (by omega), range'_step hdn, List.flatMap_cons, runC_app]
      by_cases h1 : d ∈ l
      · rw [brn_f (by simp [h1])]
        have e : cr1 n X f l d = [] := by unfold cr1; rw [if_pos (.inl h1)]
        rw [e]
        exact ih p
      · rw [brn_t (by simp [h1]), grd_t (by omega), toNatN, b_tst0 y hy.lt _ (by omega), hy.b _ (by omega)]
        by_cases h2 : sx X l.length d ∈ sts X l
        · rw [brn_f (by simp [h2])]
          have e : cr1 n X f l d = [] := by unfold cr1; rw [if_pos (.inr h2)]
          rw [e]
          exact ih p
        · have e : cr1 n X f l d = crs n X f (l ++ [d]) := by unfold cr1; rw [if_neg (by rintro (q | q); exact h1 q; exact h2 q)]
          rw [brn_t (by simp [h2]), grd_t (by omega), grd_t (by rw [iL_len, nL_len]), b_or x hx.lt d (by omega), b_or y hy.lt _ (by omega), nL_app, show tblP n T.1 T.2.1 T.2.2 = tP n T from rfl, hrec d hdn _ _ (hx.add (by omega)) (by rw [sts_app]; exact hy.add (by omega)), bnd_t, getB_t, e]
          cases hb : (runC eC (crs n X f (l ++ [d])) p).1 with
          | true => rw [brn_t rfl, if_pos rfl]; exact ih _
          | false => rw [brn_f rfl, if_neg (by simp)]; rfl
    · rw [brn_df (by rw [toNatN]; omega), show n - d = 0 by omega]; rfl
theorem wxm94_6_A_leaf (N n : Nat) (X : List (List Nat)) (T : T3) (h : Xp n X T) (rec : Nat → Int → Int → List PV → Int → Int → List PV → Option (PV × Int)) (l : List Nat) (hl : l.length = n) (x y : Int) (p : Int) : m94_6_A N rec l.length x y (iL (nL l)) (n : Int) p (tP n T) = some (.bool (runC eC [l] p).1, (runC eC [l] p).2) := by
  have n1 := h.n1
  have n5 := h.n5
  have e : (iL (nL l)).length = l.length := by rw [iL_len, nL_len]
  unfold m94_6_A
  rw [brn_et (by omega), m56_2, grd_t (by omega), grd_t e, grd_t (by omega), bnd_t, getL_t, m78, getL_t, bnd_t]
  show getB _ _ = _
  rw [getB_t]
  simp only [runC, eC, rwP, nL_len, if_true, Bool.false_eq_true, if_false]
theorem wxm94_6_A_node (N n : Nat) (hN : 5000 ≤ N) (X : List (List Nat)) (T : T3) (h : Xp n X T) (rec : Nat → Int → Int → List PV → Int → Int → List PV → Option (PV × Int)) (f : Nat) (l : List Nat) (hl : l.length + (f + 1) = n) (x y : Nat) (hx : Bs x l) (hy : Bs y (sts X l))
    (hrec : ∀ d, d < n → ∀ (x' y' : Nat), Bs x' (l ++ [d]) → Bs y' (sts X (l ++ [d])) → ∀ p, rec (l.length + 1) (x' : Int) (y' : Int) (iL (nL (l ++ [d]))) (n : Int) p (tP n T) = some (.bool (runC eC (crs n X f (l ++ [d])) p).1, (runC eC (crs n X f (l ++ [d])) p).2)) (p : Int) :
    m94_6_A N rec l.length (x : Int) (y : Int) (iL (nL l)) (n : Int) p (tP n T) = some (.bool (runC eC (crs n X (f + 1) l) p).1, (runC eC (crs n X (f + 1) l) p).2) := by
  have n5 := h.n5
  have e : (iL (nL l)).length = l.length := by rw [iL_len, nL_len]
  have hL := wxm94_6_A_L N n X T h rec f l hl x y hx hy hrec n 0 N p (by omega) (by omega) (by omega)
  rw [Nat.sub_zero, ← List.range_eq_range'] at hL
  unfold m94_6_A
  rw [brn_ef (by omega), grd_t (by omega), grd_t (by rw [show tP n T = tblP n T.1 T.2.1 T.2.2 from rfl, tbl_len h.tb]; omega), show m94_6_A_L0 N rec l.length (x : Int) (y : Int) (iL (nL l)) (n : Int) (tP n T) N 0 p = _ from hL, bnd_t]
  show _ = some (PV.bool (runC eC ((List.range n).flatMap (cr1 n X f l)) p).1, (runC eC ((List.range n).flatMap (cr1 n X f l)) p).2)
  unfold outL
  cases hb : (runC eC ((List.range n).flatMap (cr1 n X f l)) p).1 with
  | true => rw [if_pos rfl]
  | false => rw [if_neg (by simp)]
theorem wxm94_6_B_L (N n : Nat) (X : List (List Nat)) (T : T3) (h : Xp n X T) (rec : Nat → Int → Int → List PV → Int → Int → List PV → Option (PV × Int)) (f : Nat) (l : List Nat) (hl : l.length + (f + 1) = n) (x y : Nat) (hx : Bs x l) (hy : Bs y (sts X l))
    (hrec : ∀ d, d < n → ∀ (x' y' : Nat), Bs x' (l ++ [d]) → Bs y' (sts X (l ++ [d])) → ∀ p, rec (l.length + 1) (x' : Int) (y' : Int) (iL (nL (l ++ [d]))) (n : Int) p (tP n T) = some (.bool (runC eC (crs n X f (l ++ [d])) p).1, (runC eC (crs n X f (l ++ [d])) p).2)) :
    ∀ (g d fuel : Nat) (p : Int), n - d = g → g < fuel → d ≤ n → m94_6_B_L0 N rec l.length (x : Int) (y : Int) (iL (nL l)) (n : Int) (tP n T) fuel (d : Int) p = some (outL (runC eC ((List.range' d (n - d)).flatMap (cr1 n X f l)) p))
  | g, d, 0, _, _, hf, _ => by omega
  | g, d, fuel + 1, p, hg, hf, hd => by
    have n5 := h.n5
    rw [m94_6_B_L0]
    by_cases hdn : d < n
    · have ha := h.a l.length d (by omega) hdn
      have hs := h.s l.length d (by omega) hdn
      have ih := fun q => wxm94_6_B_L N n X T h rec f l hl x y hx hy hrec (g - 1) (d + 1) fuel q (by omega) (by omega) (by omega)
      simp only [toNatN]
      rw [brn_dt (by omega), grd_t (by omega), grd_t (by rw [show tP n T = tblP n T.1 T.2.1 T.2.2 from rfl, tbl_len h.tb]; omega), show tP n T = tblP n T.1 T.2.1 T.2.2 from rfl, show 1 + l.length * 5 + d = 1 + (l.length * 5 + d) by omega, gp_a h.tb (by omega), ha, getI_t, b_tst0 x hx.lt d (by omega), hx.b d (by omega), wrapN (by omega), range'_step hdn, List.flatMap_cons, runC_app]
      by_cases h1 : d ∈ l
      · rw [brn_f (by simp [h1])]
        have e : cr1 n X f l d = [] := by unfold cr1; rw [if_pos (.inl h1)]
        rw [e]
        exact ih p
      · rw [brn_t (by simp [h1]), grd_t (by omega), toNatN, b_tst0 y hy.lt _ (by omega), hy.b _ (by omega)]
        by_cases h2 : sx X l.length d ∈ sts X l
        · rw [brn_f (by simp [h2])]
          have e : cr1 n X f l d = [] := by unfold cr1; rw [if_pos (.inr h2)]
          rw [e]
          exact ih p
        · have e : cr1 n X f l d = crs n X f (l ++ [d]) := by unfold cr1; rw [if_neg (by rintro (q | q); exact h1 q; exact h2 q)]
          rw [brn_t (by simp [h2]), b_or x hx.lt d (by omega), b_or y hy.lt _ (by omega), nL_app, show tblP n T.1 T.2.1 T.2.2 = tP n T from rfl, hrec d hdn _ _ (hx.add (by omega)) (by rw [sts_app]; exact hy.add (by omega)), bnd_t, getB_t, e]
          cases hb : (runC eC (crs n X f (l ++ [d])) p).1 with
          | true => rw [brn_t rfl, if_pos rfl]; exact ih _
          | false => rw [brn_f rfl, if_neg (by simp)]; rfl
    · rw [brn_df (by rw [toNatN]; omega), show n - d = 0 by omega]; rfl
theorem wxm94_6_B_leaf (N n : Nat) (X : List (List Nat)) (T : T3) (h : Xp n X T) (rec : Nat → Int → Int → List PV → Int → Int → List PV → Option (PV × Int)) (l : List Nat) (hl : l.length = n) (x y : Int) (p : Int) : m94_6_B N rec l.length x y (iL (nL l)) (n : Int) p (tP n T) = some (.bool (runC eC [l] p).1, (runC eC [l] p).2) := by
  have n1 := h.n1
  have n5 := h.n5
  have e : (iL (nL l)).length = l.length := by rw [iL_len, nL_len]
  unfold m94_6_B
  rw [grd_t e, brn_et (by omega), m56_3, grd_t (by omega), grd_t e, grd_t (by omega), bnd_t, getL_t, m78, getL_t, bnd_t]
  show getB _ _ = _
  rw [getB_t]
  simp only [runC, eC, rwP, nL_len, if_true, Bool.false_eq_true, if_false]
theorem wxm94_6_B_node (N n : Nat) (hN : 5000 ≤ N) (X : List (List Nat)) (T : T3) (h : Xp n X T) (rec : Nat → Int → Int → List PV → Int → Int → List PV → Option (PV × Int)) (f : Nat) (l : List Nat) (hl : l.length + (f + 1) = n) (x y : Nat) (hx : Bs x l) (hy : Bs y (sts X l))
    (hrec : ∀ d, d < n → ∀ (x' y' : Nat), Bs x' (l ++ [d]) → Bs y' (sts X (l ++ [d])) → ∀ p, rec (l.length + 1) (x' : Int) (y' : Int) (iL (nL (l ++ [d]))) (n : Int) p (tP n T) = some (.bool (runC eC (crs n X f (l ++ [d])) p).1, (runC eC (crs n X f (l ++ [d])) p).2)) (p : Int) :
    m94_6_B N rec l.length (x : Int) (y : Int) (iL (nL l)) (n : Int) p (tP n T) = some (.bool (runC eC (crs n X (f + 1) l) p).1, (runC eC (crs n X (f + 1) l) p).2) := by
  have n5 := h.n5
  have e : (iL (nL l)).length = l.length := by rw [iL_len, nL_len]
  have hL := wxm94_6_B_L N n X T h rec f l hl x y hx hy hrec n 0 N p (by omega) (by omega) (by omega)
  rw [Nat.sub_zero, ← List.range_eq_range'] at hL
  unfold m94_6_B
  rw [grd_t e, brn_ef (by omega), grd_t (by omega), grd_t (by rw [show tP n T = tblP n T.1 T.2.1 T.2.2 from rfl, tbl_len h.tb]; omega), show m94_6_B_L0 N rec l.length (x : Int) (y : Int) (iL (nL l)) (n : Int) (tP n T) N 0 p = _ from hL, bnd_t]
  show _ = some (PV.bool (runC eC ((List.range n).flatMap (cr1 n X f l)) p).1, (runC eC ((List.range n).flatMap (cr1 n X f l)) p).2)
  unfold outL
  cases hb : (runC eC ((List.range n).flatMap (cr1 n X f l)) p).1 with
  | true => rw [if_pos rfl]
  | false => rw [if_neg (by simp)]
theorem wxm94_6_ok (N n : Nat) (hN : 5000 ≤ N) (X : List (List Nat)) (T : T3) (h : Xp n X T) : ∀ (f fu : Nat) (l : List Nat) (x y : Nat) (p : Int), l.length + f = n → f < fu → Bs x l → Bs y (sts X l) →
    m94_6 N fu l.length (x : Int) (y : Int) (iL (nL l)) (n : Int) p (tP n T) = some (.bool (runC eC (crs n X f l) p).1, (runC eC (crs n X f l) p).2)
  | f, 0, _, _, _, _, _, hf, _, _ => by omega
  | 0, fu + 1, l, x, y, p, hl, _, _, _ => by
    rw [m94_6]
    exact both_same (wxm94_6_A_leaf N n X T h _ l (by omega) _ _ p) (wxm94_6_B_leaf N n X T h _ l (by omega) _ _ p)
  | f + 1, fu + 1, l, x, y, p, hl, hf, hx, hy => by
    rw [m94_6]
    have hr : ∀ d, d < n → ∀ (x' y' : Nat), Bs x' (l ++ [d]) → Bs y' (sts X (l ++ [d])) → ∀ p, m94_6 N fu (l.length + 1) (x' : Int) (y' : Int) (iL (nL (l ++ [d]))) (n : Int) p (tP n T) = some (.bool (runC eC (crs n X f (l ++ [d])) p).1, (runC eC (crs n X f (l ++ [d])) p).2) := by
      intro d _ x' y' hx' hy' p'
      have := wxm94_6_ok N n hN X T h f fu (l ++ [d]) x' y' p' (by simp; omega) (by omega) hx' hy'
      rwa [List.length_append, List.length_singleton] at this
    exact both_same (wxm94_6_A_node N n hN X T h _ f l hl x y hx hy hr p) (wxm94_6_B_node N n hN X T h _ f l hl x y hx hy hr p)
theorem wxm94_5_L (N n : Nat) (hN : 5000 ≤ N) (X : List (List Nat)) (T : T3) (h : Xp n X T) (f : Nat) (hl : f + 1 = n) :
    ∀ (g d fuel : Nat) (p : Int), n - d = g → g < fuel → d ≤ n → m94_5_L0 N 0 0 (n : Int) (tP n T) fuel (d : Int) p = some (outL (runC eC ((List.range' d (n - d)).flatMap (cr1 n X f [])) p))
  | g, d, 0, _, _, hf, _ => by omega
  | g, d, fuel + 1, p, hg, hf, hd => by
    have n5 := h.n5
    have hx : Bs 0 ([] : List Nat) := ⟨by decide, fun s _ => by simp⟩
    have hy : Bs 0 (sts X []) := ⟨by decide, fun s _ => by simp [sts]⟩
    rw [m94_5_L0]
    by_cases hdn : d < n
    · have ha := h.a 0 d (by omega) hdn
      have hs := h.s 0 d (by omega) hdn
      have ih := fun q => wxm94_5_L N n hN X T h f hl (g - 1) (d + 1) fuel q (by omega) (by omega) (by omega)
      rw [Nat.zero_mul, Nat.zero_add] at ha
      simp only [toNatN]
      rw [brn_dt (by omega), grd_t (by omega), grd_t (by rw [show tP n T = tblP n T.1 T.2.1 T.2.2 from rfl, tbl_len h.tb]; omega), show tP n T = tblP n T.1 T.2.1 T.2.2 from rfl, gp_a h.tb (by omega), ha, getI_t, wrapN (by omega), range'_step hdn, List.flatMap_cons, runC_app]
      have b1 := b_tst0 0 (by decide) d (by omega)
      have b2 := b_tst0 0 (by decide) (sx X 0 d) (by omega)
      have o1 := b_or 0 (by decide) d (by omega)
      have o2 := b_or 0 (by decide) (sx X 0 d) (by omega)
      have hk := wxm94_6_ok N n hN X T h f N [d] (0 ||| 2 ^ d) (0 ||| 2 ^ sx X 0 d) p (by simp; omega) (by omega) (hx.add (l := []) (by omega)) (by
        have := sts_app X [] d
        rw [List.nil_append] at this
        rw [this]; exact hy.add (by show sx X 0 d < 5; omega))
      have e : cr1 n X f [] d = crs n X f [d] := by unfold cr1; rw [if_neg (by simp [sts])]; rfl
      have z1 : (0 : Nat).testBit d = false := Nat.zero_testBit d
      have z2 : (0 : Nat).testBit (sx X 0 d) = false := Nat.zero_testBit _
      rw [z1] at b1
      rw [z2] at b2
      rw [show ((0 : Nat) : Int) = 0 from rfl] at b1 b2 o1 o2
      rw [brn_t b1, grd_t (by omega), toNatN, brn_t b2, o1, o2]
      rw [show m94_6 N N 1 ((0 ||| 2 ^ d : Nat) : Int) ((0 ||| 2 ^ sx X 0 d : Nat) : Int) [PV.int .i64 (d : Int)] (n : Int) p (tblP n T.1 T.2.1 T.2.2) = _ from hk, bnd_t, getB_t, e]
      cases hb : (runC eC (crs n X f [d]) p).1 with
      | true => rw [brn_t rfl, if_pos rfl]; exact ih _
      | false => rw [brn_f rfl, if_neg (by simp)]; rfl
    · rw [brn_df (by rw [toNatN]; omega), show n - d = 0 by omega]; rfl
theorem wxm94_5_ok (N n : Nat) (hN : 5000 ≤ N) (X : List (List Nat)) (T : T3) (h : Xp n X T) (p : Int) : m94_5 N 0 0 (n : Int) p (tP n T) = some (.bool (runC eC (crs n X n []) p).1, (runC eC (crs n X n []) p).2) := by
  have n1 := h.n1
  have n5 := h.n5
  obtain ⟨f, rfl⟩ : ∃ f, n = f + 1 := ⟨n - 1, by omega⟩
  have hL := wxm94_5_L N (f + 1) hN X T h f rfl (f + 1) 0 N p (by omega) (by omega) (by omega)
  rw [Nat.sub_zero, ← List.range_eq_range'] at hL
  unfold m94_5
  rw [brn_ef (by omega), grd_t ⟨by omega, by omega, by rw [show tP (f + 1) T = tblP (f + 1) T.1 T.2.1 T.2.2 from rfl, tbl_len h.tb]; omega⟩, show m94_5_L0 N 0 0 ((f + 1 : Nat) : Int) (tP (f + 1) T) N 0 p = _ from hL, bnd_t]
  show _ = some (PV.bool (runC eC ((List.range (f + 1)).flatMap (cr1 (f + 1) X f [])) p).1, (runC eC ((List.range (f + 1)).flatMap (cr1 (f + 1) X f [])) p).2)
  unfold outL
  cases hb : (runC eC ((List.range (f + 1)).flatMap (cr1 (f + 1) X f [])) p).1 with
  | true => rw [if_pos rfl]
  | false => rw [if_neg (by simp)]
theorem ext_pre {n : Nat} : ∀ (f : Nat) (l x : List Nat), x ∈ ext n f l → ∃ m, x = l ++ m
  | 0, l, x, h => ⟨[], by rw [List.mem_singleton.1 h]; simp⟩
  | f + 1, l, x, h => by
    unfold ext at h
    obtain ⟨s, _, h⟩ := List.mem_flatMap.1 h
    by_cases g : s ∈ l
    · rw [if_pos g] at h; cases h
    · rw [if_neg g] at h
      obtain ⟨m, e⟩ := ext_pre f (l ++ [s]) x h
      exact ⟨s :: m, by rw [e]; simp⟩
theorem sts_len (X : List (List Nat)) (l : List Nat) : (sts X l).length = l.length := by simp [sts]
theorem sts_pre (X : List (List Nat)) (l : List Nat) : ∀ m, ∃ m', sts X (l ++ m) = sts X l ++ m'
  | [] => ⟨[], by simp⟩
  | d :: m => by
    obtain ⟨m', e⟩ := sts_pre X (l ++ [d]) m
    refine ⟨sx X l.length d :: m', ?_⟩
    rw [show l ++ d :: m = l ++ [d] ++ m by simp, e, sts_app]; simp
theorem filter_none {α : Type} {p : α → Bool} : ∀ {l : List α}, (∀ x ∈ l, p x = false) → l.filter p = []
  | [], _ => rfl
  | x :: l, h => by
    rw [List.filter_cons, h x (.head _), if_neg (by simp)]
    exact filter_none fun y hy => h y (.tail _ hy)
theorem flat_filter {α β : Type} {p : β → Bool} {g h : α → List β} : ∀ {l : List α}, (∀ x ∈ l, g x = (h x).filter p) → l.flatMap g = (l.flatMap h).filter p
  | [], _ => rfl
  | x :: l, e => by
    rw [List.flatMap_cons, List.flatMap_cons, List.filter_append, e x (.head _), flat_filter fun y hy => e y (.tail _ hy)]
theorem crs_ext (n : Nat) (X : List (List Nat)) : ∀ (f : Nat) (l : List Nat), (sts X l).Nodup → crs n X f l = (ext n f l).filter fun x => decide (sts X x).Nodup
  | 0, l, h => by simp [crs, ext, h]
  | f + 1, l, h => by
    unfold crs ext
    refine flat_filter fun d _ => ?_
    by_cases h1 : d ∈ l
    · rw [if_pos (.inl h1), if_pos h1]; rfl
    · rw [if_neg h1]
      by_cases h2 : sx X l.length d ∈ sts X l
      · rw [if_pos (.inr h2)]
        symm
        refine filter_none fun x hx => ?_
        obtain ⟨m, e⟩ := ext_pre f (l ++ [d]) x hx
        obtain ⟨m', e'⟩ := sts_pre X (l ++ [d]) m
        rw [decide_eq_false_iff_not, e, e', sts_app]
        intro hn
        have := (List.nodup_append.1 (List.nodup_append.1 hn).1).2.2 _ h2 (sx X l.length d) (by simp)
        exact this rfl
      · rw [if_neg (by rintro (q | q); exact h1 q; exact h2 q)]
        refine crs_ext n X f (l ++ [d]) ?_
        rw [sts_app, List.nodup_append]
        refine ⟨h, by simp, fun a ha b hb e => ?_⟩
        simp only [List.mem_singleton] at hb
        exact h2 (hb ▸ e ▸ ha)
theorem vp_ext {n : Nat} {X : List (List Nat)} {D : List Nat} (h : Vp n X D) : ∀ x ∈ X, x ∈ ext n n [] := by
  induction h with
  | nil => intro x hx; cases hx
  | snoc X D x h hx hf ih =>
    intro y hy
    rcases List.mem_append.1 hy with hy | hy
    · exact ih y hy
    · rw [List.mem_singleton.1 hy]; exact hx
theorem vp_sx {n : Nat} {X : List (List Nat)} {D : List Nat} (h : Vp n X D) {j d : Nat} (hj : j < X.length) (hd : d < n) : sx X j d < n ∧ (X.getD j []).length = n := by
  have hm : X.getD j [] ∈ X := by simp [List.getD, hj]
  have he := vp_ext h _ hm
  have hl := (ext_get he).1
  rw [List.length_nil, Nat.zero_add] at hl
  exact ⟨ext_lt (by simp) he _ (gn_mem (by omega)), hl⟩
theorem rp_xp {n : Nat} (n1 : 1 ≤ n) (n5 : n ≤ 5) {X : List (List Nat)} {D : List Nat} (h : Vp n X D) (hX : X.length = n) {T : T3} (hT : Rp (X.map nL) n [] 0 T) : Xp n X T := ⟨n1, n5, hT.tv.tb, fun j d hj hd => by
  have hv := vp_sx h (j := j) (d := d) (by omega) hd
  have e1 : ro (X.map nL) j = nL (X.getD j []) := by simp [ro, List.getD, hX, hj]
  rw [hT.a j d (by omega) (by omega), if_pos hj, e1, if_pos (by rw [nL_len]; omega), nL_en (by omega)]; rfl, fun j d hj hd => (vp_sx h (by omega) hd).1⟩
def crx (n : Nat) (X : List (List Nat)) : List (List Nat) := (ext n n []).filter fun x => decide (sts X x).Nodup
theorem crs_all (n : Nat) (X : List (List Nat)) : crs n X n [] = crx n X := crs_ext n X n [] (by simp [sts])
theorem crx_le {n : Nat} (hn : n ≤ 5) (X : List (List Nat)) : (crx n X).length ≤ 3125 := by
  have h1 := ext_card (n := n) n []
  have h2 := pow5 (f := n) hn hn
  have h3 := List.length_filter_le (fun x => decide (sts X x).Nodup) (ext n n [])
  unfold crx; omega
theorem runC_eF : ∀ (l : List (List Nat)) (p : PV), runC eF l p = match l with | [] => (true, p) | x :: _ => (false, rwP (nL x))
  | [], _ => rfl
  | _ :: _, _ => rfl
theorem runC_eC : ∀ (l : List (List Nat)) (k : Nat), k + l.length ≤ 100000 → runC eC l (k : Int) = (true, ((k + l.length : Nat) : Int))
  | [], k, _ => rfl
  | x :: l, k, h => by
    rw [List.length_cons] at h
    show (if (eC x (k : Int)).1 then runC eC l (eC x (k : Int)).2 else _) = _
    simp only [eC, if_true]
    rw [wrapN (by omega), runC_eC l (k + 1) (by omega), List.length_cons, show k + 1 + l.length = k + (l.length + 1) by omega]
theorem made2_L (N n : Nat) (hN : 5000 ≤ N) (hn1 : 1 ≤ n) (hn : n ≤ 5) (a b c0 c1 c2 c3 c4 : Nat) (ha : a < 256) (hb : b < 256) (h0 : c0 < 256) (h1 : c1 < 256) (h2 : c2 < 256) (h3 : c3 < 256) (h4 : c4 < 256) (en' : n = 1 + a % 5) : ∀ (f fuel : Nat) (X : List (List Nat)) (D : List Nat), b % (n + 1) - X.length = f → f < fuel → Vp n X D → X.length ≤ b % (n + 1) →
    ∃ X' D', Vp n X' D' ∧ X'.length ≤ n ∧ m37_2_L0 N 5 (.int .u8 (c0 : Int)) (.int .u8 (c1 : Int)) (.int .u8 (c2 : Int)) (.int .u8 (c3 : Int)) (.int .u8 (c4 : Int)) (a : Int) (b : Int) fuel X.length (X.length : Int) (rwsP (X.map nL)) = some (X'.length, rwsP (X'.map nL))
  | f, 0, _, _, _, h, _, _ => by omega
  | f, fuel + 1, X, D, hf, hfu, hV, hX => by
    have hm : b % (n + 1) < n + 1 := Nat.mod_lt _ (by omega)
    rw [m37_2_L0, wr8 a ha, ← en', wr9 n (by omega) b hb]
    by_cases h : X.length < b % (n + 1)
    · have hk := fit_many hn hV (by omega)
      have hp := fac_pos (n - X.length)
      have hl := vp_len hV
      have e38 := m38_3_ok N n hN hn1 hn (X.map nL) (by simp; omega) hl
      rw [List.length_map] at e38
      have e : [PV.int .u8 (a : Int), .int .u8 (b : Int), .int .u8 (c0 : Int), .int .u8 (c1 : Int), .int .u8 (c2 : Int), .int .u8 (c3 : Int), .int .u8 (c4 : Int)] = u8s [a, b, c0, c1, c2, c3, c4] := rfl
      have hg : gn [a, b, c0, c1, c2, c3, c4] (2 + X.length) < 256 := by
        have hx : X.length < 5 := by omega
        generalize X.length = j at hx
        match j, hx with
        | 0, _ => exact h0
        | 1, _ => exact h1
        | 2, _ => exact h2
        | 3, _ => exact h3
        | 4, _ => exact h4
      rw [brn_dt (by omega), e38, bnd_t]
      dsimp only
      rw [getL_t, grd_t ⟨by omega, by omega⟩, toNatN, grd_t (by omega), e, u8_gp (by simp; omega)]
      generalize gn [a, b, c0, c1, c2, c3, c4] (2 + X.length) = y at hg
      have hM : (fitn n (X.map nL)).length ≤ 3125 := fitn_le hn _
      have hlt : y % (fitn n (X.map nL)).length < (fitn n (X.map nL)).length := Nat.mod_lt _ (by omega)
      have hmem : (fitn n (X.map nL)).getD (y % (fitn n (X.map nL)).length) [] ∈ fitn n (X.map nL) := by
        rw [List.getD, List.getElem?_eq_getElem hlt]; exact List.getElem_mem hlt
      have e2 : gp (rwsP ((fitn n (X.map nL)).map nL)) (y % (fitn n (X.map nL)).length) = rwP (nL ((fitn n (X.map nL)).getD (y % (fitn n (X.map nL)).length) [])) := by
        rw [rws_gp (by simpa using hlt)]
        unfold ro
        rw [List.getD, List.getElem?_map, List.getD, List.getElem?_eq_getElem hlt]; rfl
      generalize (fitn n (X.map nL)).getD (y % (fitn n (X.map nL)).length) [] = x at hmem e2
      obtain ⟨hx, hf'⟩ := List.mem_filter.1 hmem
      obtain ⟨X', D', g1, g2, g3⟩ := made2_L N n hN hn1 hn a b c0 c1 c2 c3 c4 ha hb h0 h1 h2 h3 h4 en' (f - 1) fuel (X ++ [x]) _ (by simp; omega) (by omega) (.snoc X D x hV hx hf') (by simp; omega)
      rw [List.length_append, List.length_singleton, List.map_append, List.map_singleton, ← rws_app] at g3
      rw [getI_t, grd_t (by omega), wr0 hg, grd_t ⟨by omega, by omega⟩, toNatN, grd_t (by rw [List.length_drop, rws_len, List.length_map]; omega), e2]
      unfold rwP at g3 ⊢
      rw [getL_t, grd_t (by omega), grd_t (by rw [rws_len, List.length_map]), wrapN (by omega)]
      exact ⟨X', D', g1, g2, g3⟩
    · rw [brn_df (by omega)]
      exact ⟨X, D, hV, by omega, rfl⟩
theorem made2_ok (N : Nat) (hN : 5000 ≤ N) (a b c0 c1 c2 c3 c4 : Nat) (ha : a < 256) (hb : b < 256) (h0 : c0 < 256) (h1 : c1 < 256) (h2 : c2 < 256) (h3 : c3 < 256) (h4 : c4 < 256) : ∃ n X D, 1 ≤ n ∧ n ≤ 5 ∧ Vp n X D ∧ X.length ≤ n ∧ m37_2 N (.agg [.int .u8 (a : Int), .int .u8 (b : Int), .int .u8 (c0 : Int), .int .u8 (c1 : Int), .int .u8 (c2 : Int), .int .u8 (c3 : Int), .int .u8 (c4 : Int)]) 5 = some ((n : Int), X.length, rwsP (X.map nL)) := by
  have hn : 1 + a % 5 ≤ 5 := by have := Nat.mod_lt a (show 0 < 5 by omega); omega
  have hm : b % (1 + a % 5 + 1) < 1 + a % 5 + 1 := Nat.mod_lt _ (by omega)
  obtain ⟨X, D, g1, g2, g3⟩ := made2_L N (1 + a % 5) hN (by omega) hn a b c0 c1 c2 c3 c4 ha hb h0 h1 h2 h3 h4 rfl (b % (1 + a % 5 + 1) - 0) N [] _ rfl (by omega) .nil (by simp)
  refine ⟨1 + a % 5, X, D, by omega, hn, g1, g2, ?_⟩
  rw [m37_2, getA7_t, getI_t, grd_t (by decide), getI_t, grd_t (by rw [wr8 a ha, wrapN (by omega)]; omega), show m37_2_L0 N 5 (.int .u8 (c0 : Int)) (.int .u8 (c1 : Int)) (.int .u8 (c2 : Int)) (.int .u8 (c3 : Int)) (.int .u8 (c4 : Int)) (a : Int) (b : Int) N 0 0 [] = _ from g3, bnd_t]
  dsimp only
  rw [wr8 a ha]
theorem grow_L (N n : Nat) (hN : 5000 ≤ N) (hn1 : 1 ≤ n) (hn : n ≤ 5) (a c0 c1 c2 c3 c4 : Nat) (h0 : c0 < 256) (h1 : c1 < 256) (h2 : c2 < 256) (h3 : c3 < 256) (h4 : c4 < 256) : ∀ (f fuel : Nat) (X : List (List Nat)) (D : List Nat), n - X.length = f → f < fuel → Vp n X D → X.length ≤ n →
    ∃ X' D', Vp n X' D' ∧ X'.length = n ∧ m8_L0 N (.int .u8 (a : Int)) (.int .u8 (c0 : Int)) (.int .u8 (c1 : Int)) (.int .u8 (c2 : Int)) (.int .u8 (c3 : Int)) (.int .u8 (c4 : Int)) (n : Int) fuel X.length (rwsP (X.map nL)) = some (n, rwsP (X'.map nL))
  | f, 0, _, _, _, h, _, _ => by omega
  | f, fuel + 1, X, D, hf, hfu, hV, hX => by
    rw [m8_L0]
    by_cases h : X.length < n
    · have hk := fit_many hn hV (by omega)
      have hp := fac_pos (n - X.length)
      have hl := vp_len hV
      have e38 := m38_3_ok N n hN hn1 hn (X.map nL) (by simp; omega) hl
      rw [List.length_map] at e38
      have e : [PV.int .u8 (a : Int), .int .u8 255, .int .u8 (c0 : Int), .int .u8 (c1 : Int), .int .u8 (c2 : Int), .int .u8 (c3 : Int), .int .u8 (c4 : Int)] = u8s [a, 255, c0, c1, c2, c3, c4] := rfl
      have hg : gn [a, 255, c0, c1, c2, c3, c4] (2 + X.length) < 256 := by
        have hx : X.length < 5 := by omega
        generalize X.length = j at hx
        match j, hx with
        | 0, _ => exact h0
        | 1, _ => exact h1
        | 2, _ => exact h2
        | 3, _ => exact h3
        | 4, _ => exact h4
      rw [brn_dt (by omega), e38, bnd_t]
      dsimp only
      rw [getL_t, grd_t ⟨by omega, by omega⟩, grd_t (by omega), e, u8_gp (by simp; omega)]
      generalize gn [a, 255, c0, c1, c2, c3, c4] (2 + X.length) = y at hg
      have hM : (fitn n (X.map nL)).length ≤ 3125 := fitn_le hn _
      have hlt : y % (fitn n (X.map nL)).length < (fitn n (X.map nL)).length := Nat.mod_lt _ (by omega)
      have hmem : (fitn n (X.map nL)).getD (y % (fitn n (X.map nL)).length) [] ∈ fitn n (X.map nL) := by
        rw [List.getD, List.getElem?_eq_getElem hlt]; exact List.getElem_mem hlt
      have e2 : gp (rwsP ((fitn n (X.map nL)).map nL)) (y % (fitn n (X.map nL)).length) = rwP (nL ((fitn n (X.map nL)).getD (y % (fitn n (X.map nL)).length) [])) := by
        rw [rws_gp (by simpa using hlt)]
        unfold ro
        rw [List.getD, List.getElem?_map, List.getD, List.getElem?_eq_getElem hlt]; rfl
      generalize (fitn n (X.map nL)).getD (y % (fitn n (X.map nL)).length) [] = x at hmem e2
      obtain ⟨hx, hf'⟩ := List.mem_filter.1 hmem
      obtain ⟨X', D', g1, g2, g3⟩ := grow_L N n hN hn1 hn a c0 c1 c2 c3 c4 h0 h1 h2 h3 h4 (f - 1) fuel (X ++ [x]) _ (by simp; omega) (by omega) (.snoc X D x hV hx hf') (by simp; omega)
      rw [List.length_append, List.length_singleton, List.map_append, List.map_singleton, ← rws_app] at g3
      rw [getI_t, grd_t (by omega), wr0 hg, grd_t ⟨by omega, by omega⟩, toNatN, grd_t (by rw [List.length_drop, rws_len, List.length_map]; omega), e2]
      unfold rwP at g3 ⊢
      rw [getL_t, grd_t (by omega), grd_t (by rw [rws_len, List.length_map])]
      exact ⟨X', D', g1, g2, g3⟩
    · rw [brn_df (by omega), show X.length = n by omega]
      exact ⟨X, D, hV, by omega, rfl⟩
theorem mem_nLs {A : List Nat} {s : Nat} : ((s : Int) ∈ nL A) ↔ s ∈ A := by
  unfold nL
  rw [List.mem_map]
  constructor
  · rintro ⟨t, ht, e⟩
    have : t = s := by omega
    exact this ▸ ht
  · exact fun h => ⟨s, h, rfl⟩
theorem own_L (N n : Nat) (hN : 5000 ≤ N) (n1 : 1 ≤ n) (n5 : n ≤ 5) (X : List (List Nat)) (D : List Nat) (hV : Vp n X D) (hX : X.length = n) (P : PV) (rec : PV → PV → List PV → Nat → List PV → List PV → Option (List PV × Nat × List PV × List PV)) (f : Nat) (l : List Nat) (hl : l.length + (f + 1) = n)
    (hrec : ∀ d, d < n → ∀ A : List (List Nat), A.length + (crs n X f (l ++ [d])).length ≤ 100000 → rec (rwP (nL (l ++ [d]))) (rwP (nL (sts X (l ++ [d])))) [.int .i64 (n : Int)] A.length (rwsP (A.map nL)) [P] = some ([.int .i64 (n : Int)], (A ++ crs n X f (l ++ [d])).length, [P], rwsP ((A ++ crs n X f (l ++ [d])).map nL))) :
    ∀ (g d fuel : Nat) (A : List (List Nat)), n - d = g → g < fuel → d ≤ n → A.length + ((List.range' d (n - d)).flatMap (cr1 n X f l)).length ≤ 100000 →
      m80_3_L0 N rec l.length (iL (nL l)) l.length (iL (nL (sts X l))) n (iL (nL (X.getD l.length []))) fuel (d : Int) [.int .i64 (n : Int)] A.length [P] (rwsP (A.map nL)) = some ([.int .i64 (n : Int)], (A ++ (List.range' d (n - d)).flatMap (cr1 n X f l)).length, [P], rwsP ((A ++ (List.range' d (n - d)).flatMap (cr1 n X f l)).map nL))
  | g, d, 0, _, _, hf, _, _ => by omega
  | g, d, fuel + 1, A, hg, hf, hd, hA => by
    rw [m80_3_L0]
    by_cases hdn : d < n
    · have hv := vp_sx hV (j := l.length) (d := d) (by omega) hdn
      have hs1 := cont_ok N (by omega) (d : Int) (nL l) (by rw [nL_len]; omega)
      have hs2 := cont_ok N (by omega) (sx X l.length d : Int) (nL (sts X l)) (by rw [nL_len, sts_len]; omega)
      unfold rwP at hs1 hs2
      rw [nL_len] at hs1 hs2
      rw [sts_len] at hs2
      rw [range'_step hdn, List.flatMap_cons, List.length_append] at hA
      rw [brn_dt (by omega), grd_t ⟨by omega, by omega⟩, toNatN, grd_t (by rw [List.length_drop, iL_len, nL_len]; omega), iL_gp (by rw [nL_len]; omega), getI_t, nL_en (by omega), hs1, bnd_t, getB_t, wrapN (by omega), range'_step hdn, List.flatMap_cons]
      by_cases h1 : d ∈ l
      · have e : cr1 n X f l d = [] := by unfold cr1; rw [if_pos (.inl h1)]
        rw [brn_dt (mem_nLs.2 h1), e]
        rw [e] at hA
        exact own_L N n hN n1 n5 X D hV hX P rec f l hl hrec (g - 1) (d + 1) fuel A (by omega) (by omega) (by omega) (by simp only [List.length_nil] at hA; omega)
      · rw [brn_df (fun w => h1 (mem_nLs.1 w)), show m57 N (.lst false l.length (iL (nL (sts X l)))) ((gn (X.getD l.length []) d : Nat) : Int) = _ from hs2, bnd_t, getB_t]
        by_cases h2 : sx X l.length d ∈ sts X l
        · have e : cr1 n X f l d = [] := by unfold cr1; rw [if_pos (.inr h2)]
          rw [brn_dt (mem_nLs.2 h2), e]
          rw [e] at hA
          exact own_L N n hN n1 n5 X D hV hX P rec f l hl hrec (g - 1) (d + 1) fuel A (by omega) (by omega) (by omega) (by simp only [List.length_nil] at hA; omega)
        · have e : cr1 n X f l d = crs n X f (l ++ [d]) := by unfold cr1; rw [if_neg (by rintro (q | q); exact h1 q; exact h2 q)]
          rw [e] at hA
          have ih := own_L N n hN n1 n5 X D hV hX P rec f l hl hrec (g - 1) (d + 1) fuel (A ++ crs n X f (l ++ [d])) (by omega) (by omega) (by omega) (by rw [List.length_append]; omega)
          have hr := hrec d hdn A (by omega)
          have e1 : PV.lst false (l.length + 1) (iL (nL l) ++ [.int .i64 (d : Int)]) = rwP (nL (l ++ [d])) := by
            unfold rwP; rw [nL_app, nL_len, List.length_append, List.length_singleton]
          have e2 : PV.lst false (l.length + 1) (iL (nL (sts X l)) ++ [.int .i64 ((gn (X.getD l.length []) d : Nat) : Int)]) = rwP (nL (sts X (l ++ [d]))) := by
            unfold rwP; rw [nL_app, nL_len, sts_len, List.length_append, List.length_singleton, sts_app]; rfl
          rw [brn_df (fun w => h2 (mem_nLs.1 w)), grd_t (by omega), grd_t (by rw [iL_len, nL_len]), grd_t (by omega), grd_t ⟨by omega, by omega⟩, grd_t (by rw [iL_len, nL_len, sts_len]), grd_t (by omega), e1, e2, hr, bnd_t, e, ← List.append_assoc]
          exact ih
    · rw [brn_df (by omega), show n - d = 0 by omega]
      simp
theorem own_ok (N n : Nat) (hN : 5000 ≤ N) (n1 : 1 ≤ n) (n5 : n ≤ 5) (X : List (List Nat)) (D : List Nat) (hV : Vp n X D) (hX : X.length = n) : ∀ (f fu : Nat) (l : List Nat) (A : List (List Nat)), l.length + f = n → f < fu → A.length + (crs n X f l).length ≤ 100000 →
    m80_3 N fu (rwP (nL l)) (rwP (nL (sts X l))) [.int .i64 (n : Int)] A.length (rwsP (A.map nL)) [.lst false n (rwsP (X.map nL))] = some ([.int .i64 (n : Int)], (A ++ crs n X f l).length, [.lst false n (rwsP (X.map nL))], rwsP ((A ++ crs n X f l).map nL))
  | f, 0, _, _, _, hf, _ => by omega
  | 0, fu + 1, l, A, hl, _, hA => by
    rw [m80_3]
    simp only [crs, List.length_singleton] at hA
    unfold rwP
    rw [getL_t, getL_t, grd_t (by simp), show gp [PV.int .i64 (n : Int)] 0 = .int .i64 (n : Int) from rfl, getI_t, nL_len, brn_et (by omega), grd_t (by omega), grd_t (by rw [rws_len, List.length_map])]
    simp only [crs]
    rw [show rwsP (A.map nL) ++ [PV.lst false l.length (iL (nL l))] = rwsP ((A ++ [l]).map nL) by simp [rwsP, rwP, nL_len], List.length_append, List.length_singleton]
  | f + 1, fu + 1, l, A, hl, hf, hA => by
    rw [m80_3]
    have hv := vp_sx hV (j := l.length) (d := 0) (by omega) (by omega)
    have e2 : ro (X.map nL) l.length = nL (X.getD l.length []) := by simp [ro, List.getD, show l.length < X.length by omega]
    have l2 : (X.map nL).length = X.length := by simp
    have hL := own_L N n hN n1 n5 X D hV hX (.lst false n (rwsP (X.map nL))) (m80_3 N fu) f l hl (fun d hd A hA => own_ok N n hN n1 n5 X D hV hX f fu (l ++ [d]) A (by simp; omega) (by omega) hA) n 0 N A (by omega) (by omega) (by omega) (by rw [Nat.sub_zero, ← List.range_eq_range']; exact hA)
    rw [Nat.sub_zero, ← List.range_eq_range'] at hL
    unfold rwP
    rw [getL_t, getL_t, grd_t (by simp), show gp [PV.int .i64 (n : Int)] 0 = .int .i64 (n : Int) from rfl, getI_t, nL_len, nL_len, sts_len, brn_ef (by omega), grd_t (by simp), show gp [PV.lst false n (rwsP (X.map nL))] 0 = .lst false n (rwsP (X.map nL)) from rfl, getL_t, grd_t ⟨by omega, by omega⟩, grd_t (by rw [List.length_drop, rws_len, l2]; omega), rws_gp (by omega), getL_t, e2, nL_len, hv.2]
    rw [show m80_3_L0 N (m80_3 N fu) l.length (iL (nL l)) l.length (iL (nL (sts X l))) n (iL (nL (X.getD l.length []))) N 0 [.int .i64 (n : Int)] A.length [.lst false n (rwsP (X.map nL))] (rwsP (A.map nL)) = _ from hL, bnd_t]
    rfl
theorem top_own (N n : Nat) (hN : 5000 ≤ N) (n1 : 1 ≤ n) (n5 : n ≤ 5) (X : List (List Nat)) (D : List Nat) (hV : Vp n X D) (hX : X.length = n) (f : Nat) (hl : f + 1 = n) :
    ∀ (g d fuel : Nat) (A : List (List Nat)), n - d = g → g < fuel → d ≤ n → A.length + ((List.range' d (n - d)).flatMap (cr1 n X f [])).length ≤ 100000 →
      m80_L0 N n (iL (nL (X.getD 0 []))) fuel (d : Int) [.int .i64 (n : Int)] A.length [.lst false n (rwsP (X.map nL))] (rwsP (A.map nL)) = some ([.int .i64 (n : Int)], (A ++ (List.range' d (n - d)).flatMap (cr1 n X f [])).length, [.lst false n (rwsP (X.map nL))], rwsP ((A ++ (List.range' d (n - d)).flatMap (cr1 n X f [])).map nL))
  | g, d, 0, _, _, hf, _, _ => by omega
  | g, d, fuel + 1, A, hg, hf, hd, hA => by
    rw [m80_L0]
    by_cases hdn : d < n
    · have hv := vp_sx hV (j := 0) (d := d) (by omega) hdn
      have hs1 := cont_ok N (by omega) (d : Int) [] (by simp)
      have hs2 := cont_ok N (by omega) (sx X 0 d : Int) [] (by simp)
      have e : cr1 n X f [] d = crs n X f [d] := by unfold cr1; rw [if_neg (by simp [sts])]; rfl
      rw [range'_step hdn, List.flatMap_cons, List.length_append, e] at hA
      have hr := own_ok N n hN n1 n5 X D hV hX f N [d] A (by simp; omega) (by omega) (by omega)
      have ih := top_own N n hN n1 n5 X D hV hX f hl (g - 1) (d + 1) fuel (A ++ crs n X f [d]) (by omega) (by omega) (by omega) (by rw [List.length_append]; omega)
      rw [brn_dt (by omega), grd_t ⟨by omega, by omega⟩, toNatN, grd_t (by rw [List.length_drop, iL_len, nL_len]; omega), iL_gp (by rw [nL_len]; omega), getI_t, nL_en (by omega), show m57 N (.lst false 0 []) (d : Int) = _ from hs1, bnd_t, getB_t, brn_f (by simp), show m57 N (.lst false 0 []) ((gn (X.getD 0 []) d : Nat) : Int) = _ from hs2, bnd_t, getB_t, brn_f (by simp), wrapN (by omega), range'_step hdn, List.flatMap_cons, e, ← List.append_assoc]
      rw [show m80_3 N N (.lst false 1 [.int .i64 (d : Int)]) (.lst false 1 [.int .i64 ((gn (X.getD 0 []) d : Nat) : Int)]) [.int .i64 (n : Int)] A.length (rwsP (A.map nL)) [.lst false n (rwsP (X.map nL))] = _ from hr, bnd_t]
      exact ih
    · rw [brn_df (by omega), show n - d = 0 by omega]
      simp
theorem law_crs (N n : Nat) (hN : 5000 ≤ N) (n1 : 1 ≤ n) (n5 : n ≤ 5) (X : List (List Nat)) (D : List Nat) (hV : Vp n X D) (hX : X.length = n) : m41 N (.lst false n (rwsP (X.map nL))) = some (.lst false (crx n X).length (rwsP ((crx n X).map nL))) := by
  obtain ⟨f, rfl⟩ : ∃ f, n = f + 1 := ⟨n - 1, by omega⟩
  have hle := crx_le (n := f + 1) n5 X
  rw [← crs_all] at hle ⊢
  have hv := vp_sx hV (j := 0) (d := 0) (by omega) (by omega)
  have e2 : ro (X.map nL) 0 = nL (X.getD 0 []) := by simp [ro, List.getD, show 0 < X.length by omega]
  have l2 : (X.map nL).length = X.length := by simp
  have h := top_own N (f + 1) hN n1 n5 X D hV hX f rfl (f + 1) 0 N [] (by omega) (by omega) (by omega) (by rw [Nat.sub_zero, ← List.range_eq_range']; show 0 + (crs (f + 1) X (f + 1) []).length ≤ _; omega)
  rw [Nat.sub_zero, ← List.range_eq_range', List.nil_append, show (List.range (f + 1)).flatMap (cr1 (f + 1) X f []) = crs (f + 1) X (f + 1) [] from rfl] at h
  rw [m41, getL_t, m80, brn_ef (by omega), getL_t, grd_t (by omega), grd_t (by rw [rws_len, l2]; omega), rws_gp (by omega), getL_t, e2, nL_len, hv.2]
  rw [show m80_L0 N (f + 1) (iL (nL (X.getD 0 []))) N 0 [.int .i64 ((f + 1 : Nat) : Int)] 0 [.lst false (f + 1) (rwsP (X.map nL))] [] = _ from h, bnd_t, bnd_t]
  dsimp only
  rw [grd_t (by rw [rws_len, List.length_map])]
theorem cross_n (N : Nat) (hN : 5000 ≤ N) (n : Nat) (n1 : 1 ≤ n) (n5 : n ≤ 5) (X : List (List Nat)) (D : List Nat) (hV : Vp n X D) (hX : X.length = n) :
    m33 N (n : Int) (.lst false n (rwsP (X.map nL))) = some (.tup [rwP (match crx n X with | [] => [] | y :: _ => nL y), .int .i64 (match crx n X with | [] => 12 | _ :: _ => 0)]) ∧ m35 N (n : Int) (.lst false n (rwsP (X.map nL))) = some (.tup [.int .i64 ((crx n X).length : Nat), .int .i64 0]) := by
  have hlen : (X.map nL).length = X.length := List.length_map ..
  have hl := vp_len hV
  have hch := vp_chk n1 n5 hV (by omega)
  obtain ⟨T, e, hT⟩ := opened_ok N (by omega) n n (X.map nL) (by omega) (fun r hr => by rw [hl r hr]; omega)
  have hT' := hT hch []
  rw [hlen] at e hT'
  rw [hX, hch] at e
  rw [hX] at hT'
  have hxp := rp_xp n1 n5 hV hX hT'
  have hle := crx_le (n := n) n5 X
  constructor
  · rw [m33, getL_t, m74, getL_t, e, bnd_t]
    unfold opE
    rw [if_pos rfl, toNatN]
    dsimp only
    rw [brn_nf rfl, brn_df (by omega), wxm94_2_ok N n hN X T hxp .nl, crs_all, runC_eF, bnd_t]
    cases hcx : crx n X with
    | nil => dsimp only; rw [getB_t, bnd_t]; rfl
    | cons y l =>
      have hy := (ext_get (List.mem_filter.1 (show y ∈ (ext n n []).filter _ from hcx ▸ List.Mem.head _)).1).1
      rw [List.length_nil] at hy
      dsimp only
      rw [getB_t, bnd_t]
      dsimp only
      rw [getI_t, brn_et rfl]
      unfold rwP
      rw [show ∀ (n : Nat) (c : List PV) (a : Option PV) (f : Nat → List PV → Option PV), getN (.lst false n c) a f = f n c from fun _ _ _ _ => rfl, grd_t (by rw [nL_len]; omega)]
  · rw [m35, getL_t, m74_2, getL_t, e, bnd_t]
    unfold opE
    rw [if_pos rfl, toNatN]
    dsimp only
    have hk := runC_eC (crx n X) 0 (by omega)
    rw [Nat.zero_add] at hk
    rw [brn_nf rfl, brn_df (by omega), wxm94_5_ok N n hN X T hxp 0, crs_all, show runC eC (crx n X) 0 = _ from hk, bnd_t]
    rfl
theorem cross_o (N : Nat) (hN : 5000 ≤ N) (n : Nat) (L : List (List Int)) (hr : ∀ r ∈ L, r.length ≤ 1000) (hc : chkE n n L = 0) (hL : L.length < n) (hL2 : L.length ≤ 1000) : m33 N (n : Int) (.lst false L.length (rwsP L)) = some (.tup [.lst false 0 [], .int .i64 21]) := by
  obtain ⟨T, e, hT⟩ := opened_ok N (by omega) n n L hL2 hr
  rw [hc] at e
  rw [m33, getL_t, m74, getL_t, e, bnd_t]
  unfold opE
  rw [if_pos rfl]
  dsimp only
  rw [brn_nf rfl, brn_dt (by omega), bnd_t]
  rfl
theorem met_tail {r : List Int} {P : List (List Int)} {d : Nat} {s : Int} (h : metB (r :: P) d s = false) : metB P d s = false := by
  unfold metB at h ⊢
  rw [List.any_cons, Bool.or_eq_false_iff] at h
  exact h.2
theorem fit_tail {r : List Int} {P : List (List Int)} {x : List Nat} : ∀ {f d : Nat}, fitB (r :: P) x f d = true → fitB P x f d = true
  | 0, _, _ => rfl
  | f + 1, d, h => by
    unfold fitB at h ⊢
    rw [Bool.and_eq_true, Bool.not_eq_true'] at h ⊢
    exact ⟨met_tail h.1, fit_tail h.2⟩
theorem vp_tail {n : Nat} {X : List (List Nat)} {D : List Nat} (h : Vp n X D) : ∃ D', Vp n X.tail D' := by
  induction h with
  | nil => exact ⟨_, .nil⟩
  | snoc X D x h hx hf ih =>
    obtain ⟨D', h'⟩ := ih
    cases X with
    | nil => exact ⟨_, .nil⟩
    | cons y X => exact ⟨_, .snoc X D' x h' hx (fit_tail hf)⟩
theorem law8 (a b c0 c1 c2 c3 c4 : Nat) (ha : a < 256) (h0 : c0 < 256) (h1 : c1 < 256) (h2 : c2 < 256) (h3 : c3 < 256) (h4 : c4 < 256) : m8 5000 (.agg [.int .u8 (a : Int), .int .u8 (b : Int), .int .u8 (c0 : Int), .int .u8 (c1 : Int), .int .u8 (c2 : Int), .int .u8 (c3 : Int), .int .u8 (c4 : Int)]) = some (.bool true) := by
  obtain ⟨n, X0, D0, n1, n5, hV0, hX0, e37⟩ := made2_ok 5000 (by omega) a 255 c0 c1 c2 c3 c4 ha (by omega) h0 h1 h2 h3 h4
  obtain ⟨X, D, hV, hX, eg⟩ := grow_L 5000 n (by omega) n1 n5 a c0 c1 c2 c3 c4 h0 h1 h2 h3 h4 (n - X0.length) 5000 X0 D0 rfl (by omega) hV0 hX0
  have e41 := law_crs 5000 n (by omega) n1 n5 X D hV hX
  obtain ⟨e33, e35⟩ := cross_n 5000 (by omega) n n1 n5 X D hV hX
  obtain ⟨D', hV'⟩ := vp_tail hV
  have ht : X.tail.length = n - 1 := by rw [List.length_tail]; omega
  have eo := cross_o 5000 (by omega) n (X.tail.map nL) (fun r hr => by rw [vp_len hV' r hr]; omega) (vp_chk n1 n5 hV' (by omega)) (by rw [List.length_map]; omega) (by rw [List.length_map]; omega)
  rw [List.length_map, ht] at eo
  have hd : List.drop 1 (rwsP (X.map nL)) = rwsP (X.tail.map nL) := by cases X <;> rfl
  have hle := crx_le (n := n) n5 X
  have m16t : m16 5000 = some (.bool true) := rfl
  rw [m8, getA7_t, show (255 : Int) = ((255 : Nat) : Int) from rfl, e37, bnd_t]
  dsimp only
  rw [eg, bnd_t]
  dsimp only
  rw [grd_t (by rw [rws_len, List.length_map, hX]), e41, bnd_t, getL_t, e33, bnd_t, getT2_t]
  unfold rwP
  rw [getL_t, getI_t, e35, bnd_t, getT2_t, getI_t, getI_t, grd_t (by omega), hd, show (((n : Nat) : Int) - 1).toNat = n - 1 by omega, eo, bnd_t, getT2_t, getL_t, getI_t, brn_nf rfl, brn_nf rfl, brn_nf rfl]
  cases hcx : crx n X with
  | nil => rfl
  | cons y l =>
    have hy := (ext_get (List.mem_filter.1 (show y ∈ (ext n n []).filter _ from hcx ▸ List.Mem.head _)).1).1
    rw [List.length_nil] at hy
    have s3 := isame_ok 5000 (by omega) (nL y) (by rw [nL_len]; omega)
    rw [brn_ef (by simp only [List.length_cons]; omega)]
    dsimp only
    rw [brn_et rfl, grd_t (by simp only [List.length_cons]; omega), grd_t (by simp [rwsP]), show gp (rwsP ((y :: l).map nL)) 0 = .lst false (nL y).length (iL (nL y)) from rfl, getL_t, s3, bnd_t, getB_t, brn_t rfl, m16t, bnd_t, getB_t]
end Go.Proofs.YtcaecfofgdogbaaDoor
namespace Go.Proofs.YtcaecfofgdogbaaDoor
open Go.V
theorem oct_of {x : List PV} (h : PT tab 5 x) : ∃ n : Nat, n < 256 ∧ x = [.int .u8 (n : Int)] := by
  obtain ⟨a, e, h1, h2⟩ := h.int' tl5 rfl
  have h1' : (0 : Int) ≤ a := h1
  have h2' : a ≤ 255 := h2
  exact ⟨a.toNat, by omega, by rw [e]; congr 2; omega⟩
theorem rota_of {qs : List PV} (h : PT tab 40 qs) : ∃ a b c0 c1 c2 c3 c4 : Nat, (a < 256 ∧ b < 256 ∧ c0 < 256 ∧ c1 < 256 ∧ c2 < 256 ∧ c3 < 256 ∧ c4 < 256) ∧ qs = [.int .u8 (a : Int), .int .u8 (b : Int), .int .u8 (c0 : Int), .int .u8 (c1 : Int), .int .u8 (c2 : Int), .int .u8 (c3 : Int), .int .u8 (c4 : Int)] := by
  obtain ⟨x, rs, rfl, hx, h⟩ := (h.structs tl40 rfl).cons'
  obtain ⟨y, rs, rfl, hy, h⟩ := h.cons'
  obtain ⟨z, rs, rfl, hz, h⟩ := h.cons'
  obtain rfl := h.nil'
  obtain ⟨a, ha, rfl⟩ := oct_of hx
  obtain ⟨b, hb, rfl⟩ := oct_of hy
  obtain ⟨xs, rfl, hl, hxs⟩ := hz.arr' tl38 rfl
  match xs, hl with
  | [p, q, r, s, t], _ =>
    obtain ⟨c0, h0, rfl⟩ := oct_of (hxs p (by simp))
    obtain ⟨c1, h1, rfl⟩ := oct_of (hxs q (by simp))
    obtain ⟨c2, h2, rfl⟩ := oct_of (hxs r (by simp))
    obtain ⟨c3, h3, rfl⟩ := oct_of (hxs s (by simp))
    obtain ⟨c4, h4, rfl⟩ := oct_of (hxs t (by simp))
    exact ⟨a, b, c0, c1, c2, c3, c4, ⟨ha, hb, h0, h1, h2, h3, h4⟩, rfl⟩
theorem con8 (x0 : List PV) (hx : PT tab 40 x0) : FnP Tryd.prog 8 [.agg x0] (.bool true) := by
  obtain ⟨a, b, c0, c1, c2, c3, c4, ⟨ha, hb, h0, h1, h2, h3, h4⟩, rfl⟩ := rota_of hx
  exact FnP_le (c8 5000 _ _ (law8 a b c0 c1 c2 c3 c4 ha h0 h1 h2 h3 h4)) (.cons _ _ _ _ (.refl _) .nil) (.refl _)
end Go.Proofs.YtcaecfofgdogbaaDoor
namespace Go.Proofs.YtcaecfofgdogbaaDoor.weekCrossed
open Go.ChangeShapes Go.WideShapes Go.ChangeAt Go.RowKit Go.V
theorem own : ownKnob Tryd.prog.godebug = none := by kernel_rfl
theorem laid : laidOutB Tryd.prog = true := by kernel_rfl
set_option maxRecDepth 100000 in
theorem lifted (os : Os) (started : os.Started) (H : Type) (enc : TypeId × Value → H) :
    ReturnsInHanded {} Tryd.checked os 8 .any (fun w args => (Rows.weekCrossedSpec.pre enc Tryd.prog Tryd.f8 [] false w args ∧ laidMetH Tryd.prog [("math/bits.deBruijn32tab", Rows.laid_math_bits_deBruijn32tab), ("math/bits.deBruijn64tab", Rows.laid_math_bits_deBruijn64tab)] w) ∧ sizedMet enc Tryd.prog Tryd.f8 (OpenSpec.ofChange Rows.weekCrossedSpec) false w args)
      (Rows.weekCrossedSpec.post enc Tryd.prog Tryd.f8 false true false false) := by
  refine returnsInHanded_of_change_and (C := Tryd.checked) (X := fun w _ => laidMetH Tryd.prog [("math/bits.deBruijn32tab", Rows.laid_math_bits_deBruijn32tab), ("math/bits.deBruijn64tab", Rows.laid_math_bits_deBruijn64tab)] w) (fun _ _ _ hh h => h.of_heap hh) own started (by kernel_rfl) Tryd.func8
    (ChangeSpec.witness_shaped (enc := enc) (C := Tryd.checked) (os := os) (X := fun w _ => laidMetH Tryd.prog [("math/bits.deBruijn32tab", Rows.laid_math_bits_deBruijn32tab), ("math/bits.deBruijn64tab", Rows.laid_math_bits_deBruijn64tab)] w) false (World.laidAll Tryd.prog os [("math/bits.deBruijn32tab", Rows.laid_math_bits_deBruijn32tab), ("math/bits.deBruijn64tab", Rows.laid_math_bits_deBruijn64tab)]) #[.agg #[.int .u8 0, .int .u8 0, .int .u8 0, .int .u8 0, .int .u8 0, .int .u8 0, .int .u8 0]] 8 (World.laidAll_os _ _ _)
      (World.shaped_of_ZipB (by kernel_rfl) (by kernel_rfl)) (by kernel_rfl) (by kernel_rfl) (by kernel_rfl)
      (by rw [MakeChecks.laidMetH_plain _ _ _ (by kernel_rfl)]; exact laidMet_laidAll _ (by kernel_rfl) (by kernel_rfl))) ?_
  intro W base args ds gs before hval0 hW _ _ hL _
  have hW' := hW
  obtain ⟨p, q, hA0, hV, rfl, hfz, hnd⟩ := hW
  have hA : DataW.TrodAll enc Tryd.prog W 0 (fun _ => true) true Tryd.f8.params.toList args.toList ds p := hA0
  rw [Tryd.params8] at hA
  obtain ⟨v0, vs0, d0, ds0, p0, q0, e0, rfl, rfl, h0, hr0⟩ := trodAll_cons hA
  obtain ⟨rfl, rfl, rfl⟩ := trodAll_nil hr0
  obtain rfl : args = #[v0] := by cases args; simp_all
  obtain ⟨x0, k0, t0⟩ := arg_agg (n := 8) tab_ok (hval0 0 40 v0 rfl rfl) h0 (by kernel_rfl) (by kernel_rfl)
  obtain ⟨rfl, rfl⟩ := trodVars_none hV
  clear hA0 hval0
  simp only [List.append_nil] at hW'
  refine (FnP.calls (W := W) (vals := #[v0]) (con8 x0 t0) (.cons _ _ _ _ k0 .nil) (laidG hL)).mono fun e W' ⟨he, hg⟩ => ?_
  subst he
  exact ⟨_, rfl, post_of_kept (pv := []) hW' (fun _ _ _ => trodAll_cons_mk (shut_bool Tryd.underlying4 _) trodAll_mk0) (fun sp hsp => trodAll_cons_mk (Kept.trod hg laid (by kernel_rfl) (of_decide_eq_true (by kernel_rfl)) h0 (fun y hy => hsp y (by simp [hy]))) (trodAll_mk0)) (fun _ _ => rfl) (by simp)
    hg (ok_one (by kernel_rfl) rfl (okWide_bool_mk Tryd.underlying4 _))⟩
theorem over : Rows.weekCrossedRow.holds Tryd.pinned (OpenSpec.ofChange Rows.weekCrossedSpec) :=
  OpenClaim.holds_of_wide 8 Tryd.f8 rfl rfl rfl rfl rfl rfl rfl ⟨rfl, rfl, rfl, rfl, rfl⟩ rfl rfl rfl rfl rfl (by kernel_rfl) Tryd.func8 (by kernel_rfl)
    (of_decide_eq_true (by kernel_rfl)) (by unfold Func.isWrapper; first | (rw [if_pos (by decide +kernel)]; kernel_rfl) | (rw [if_neg (by decide +kernel)]; exact ⟨rfl, rfl⟩))
    (fun os started H enc _ => lifted os started H enc)
theorem card : Rows.WeekCrossedCardSaid :=
  Claim7.holds_tied_plain_at .later [] [.data, .data] true (true, "b10945a5c0c6bbe518806a5b2982a3effa3ad2c65afd0553d66b8bf8a483c2f3") true (over) (fun _ h => by cases h) (by kernel_rfl) (fun _ h => by cases h) weekCrossed_row_tie rfl ⟨rfl, rfl⟩ (by kernel_rfl) rfl
    (fun f fn hf hfn => by
      obtain rfl : f = 8 := Option.some.inj ((show Tryd.prog.funcNamed "breeze/breezelaw03.WeekCrossed" = some 8 by kernel_rfl).symm.trans hf) |>.symm
      obtain rfl : fn = Tryd.f8 := (Option.some.inj (Tryd.func8.symm.trans hfn)).symm
      exact ⟨by kernel_rfl, fun j t ht => by
        rw [Tryd.params8] at ht
        rcases j with _ | j
        · obtain rfl : t = 40 := by simpa using ht.symm
          exact (show Tryd.prog.wantsStandIn 40 = false by kernel_rfl)
        · simp at ht⟩)
    (by kernel_rfl)
end Go.Proofs.YtcaecfofgdogbaaDoor.weekCrossed
namespace Go.Proofs.YtcaecfofgdogbaaDoor
/-- the statement -/
theorem weekCrossed_holds : Rows.WeekCrossedCardSaid := weekCrossed.card
#print axioms weekCrossed_holds
end Go.Proofs.YtcaecfofgdogbaaDoor
