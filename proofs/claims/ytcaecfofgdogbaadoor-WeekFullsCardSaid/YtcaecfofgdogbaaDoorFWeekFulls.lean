/-
  WeekFulls: the law returns true.
-/
import Derived.Test.YtcaecfofgdogbaaDoorFWxA
import Derived.Test.YtcaecfofgdogbaaDoorFLCorn
import Derived.KernelRfl
import Derived.Test.YtcaecfofgdogbaaDoorFV32
import Derived.Test.YtcaecfofgdogbaaDoorRows
import Derived.Test.YtcaecfofgdogbaaDoorCards
import Derived.Test.YtcaecfofgdogbaaDoorTie
import Derived.Test.YtcaecfofgdogbaaDoorFWpB
import Derived.Test.YtcaecfofgdogbaaDoorFV31
import Derived.WalkKit
import Derived.ProofKit
import Derived.OpenShut
import Derived.Lay
import Derived.SevenTiedAt
import Derived.MakeChecks
set_option linter.unusedSimpArgs false
set_option linter.unusedVariables false
namespace Go.Proofs.YtcaecfofgdogbaaDoor
open Go.V
set_option linter.unusedSectionVars false
def sx (X : List (List Nat)) (j d : Nat) : Nat := gn (X.getD j []) d
def sts (X : List (List Nat)) (l : List Nat) : List Nat := (List.range l.length).map fun i => sx X i (gn l i)
def crs (n : Nat) (X : List (List Nat)) : Nat → List Nat → List (List Nat)
  | 0, l => [l]
  | f + 1, l => (List.range n).flatMap fun d => if d ∈ l ∨ sx X l.length d ∈ sts X l then [] else crs n X f (l ++ [d])
def cr1 (n : Nat) (X : List (List Nat)) (f : Nat) (l : List Nat) (d : Nat) : List (List Nat) := if d ∈ l ∨ sx X l.length d ∈ sts X l then [] else crs n X f (l ++ [d])
def runC {σ : Type} (e : List Nat → σ → Bool × σ) : List (List Nat) → σ → Bool × σ
  | [], p => (true, p)
  | x :: xs, p => if (e x p).1 then runC e xs (e x p).2 else (false, (e x p).2)
theorem runC_app {σ : Type} (e : List Nat → σ → Bool × σ) : ∀ (a b : List (List Nat)) (p : σ), runC e (a ++ b) p = if (runC e a p).1 then runC e b (runC e a p).2 else (false, (runC e a p).2)
  | [], b, p => by simp [runC]
  | x :: a, b, p => by
    simp only [List.cons_append, runC]
    by_cases h : (e x p).1 = true
    · simp only [h, if_true]; exact runC_app e a b _
    · simp only [h]; rfl
def outL {σ : Type} (r : Bool × σ) : (PV × σ) ⊕ σ := if r.1 then .inr r.2 else .inl (.bool false, r.2)
def eF (x : List Nat) (_ : PV) : Bool × PV := (false, rwP (nL x))
def eC (_ : List Nat) (k : Int) : Bool × Int := (true, IntKind.i64.wrap (k + 1))
theorem b_tst0 : ∀ x : Nat, x < 32 → ∀ s : Nat, s < 5 → (bitsI .and .u64 (Int.fdiv (x : Int) (2 ^ (min s 64))) 1 == 0) = !x.testBit s := by decide +kernel
structure Xp (n : Nat) (X : List (List Nat)) (T : T3) : Prop where
  n1 : 1 ≤ n
  n5 : n ≤ 5
  tb : Tb T.1 T.2.1 T.2.2
  a : ∀ j d, j < n → d < n → en T.1 (j * 5 + d) = (sx X j d : Int)
  s : ∀ j d, j < n → d < n → sx X j d < n
structure Bs (x : Nat) (l : List Nat) : Prop where
  lt : x < 32
  b : ∀ s, s < 5 → x.testBit s = decide (s ∈ l)
theorem Bs.add {x : Nat} {l : List Nat} (h : Bs x l) {d : Nat} (hd : d < 5) : Bs (x ||| 2 ^ d) (l ++ [d]) := ⟨or_lt x h.lt d hd, fun s hs => by
  rw [tst_or x h.lt d hd s hs, h.b s hs]
  simp⟩
theorem sts_app (X : List (List Nat)) (l : List Nat) (d : Nat) : sts X (l ++ [d]) = sts X l ++ [sx X l.length d] := by
  unfold sts
  rw [List.length_append, List.length_singleton, List.range_succ, List.map_append]
  congr 1
  · refine List.map_congr_left fun i hi => ?_
    rw [gn_app1 (List.mem_range.1 hi)]
  · simp [gn]
theorem nL_app (l : List Nat) (d : Nat) : iL (nL l) ++ [.int .i64 (d : Int)] = iL (nL (l ++ [d])) := by simp [nL, iL]
theorem wxm94_3_A_L (N n : Nat) (X : List (List Nat)) (T : T3) (h : Xp n X T) (rec : Nat → Int → Int → List PV → Int → PV → List PV → Option (PV × PV)) (f : Nat) (l : List Nat) (hl : l.length + (f + 1) = n) (x y : Nat) (hx : Bs x l) (hy : Bs y (sts X l))
    (hrec : ∀ d, d < n → ∀ (x' y' : Nat), Bs x' (l ++ [d]) → Bs y' (sts X (l ++ [d])) → ∀ p, rec (l.length + 1) (x' : Int) (y' : Int) (iL (nL (l ++ [d]))) (n : Int) p (tP n T) = some (.bool (runC eF (crs n X f (l ++ [d])) p).1, (runC eF (crs n X f (l ++ [d])) p).2)) :
    ∀ (g d fuel : Nat) (p : PV), n - d = g → g < fuel → d ≤ n → m94_3_A_L0 N rec l.length (x : Int) (y : Int) (iL (nL l)) (n : Int) (tP n T) fuel (d : Int) p = some (outL (runC eF ((List.range' d (n - d)).flatMap (cr1 n X f l)) p))
  | g, d, 0, _, _, hf, _ => by omega
  | g, d, fuel + 1, p, hg, hf, hd => by
    have n5 := h.n5
    rw [m94_3_A_L0]
    by_cases hdn : d < n
    · have ha := h.a l.length d (by omega) hdn
      have hs := h.s l.length d (by omega) hdn
      have ih := fun q => wxm94_3_A_L N n X T h rec f l hl x y hx hy hrec (g - 1) (d + 1) fuel q (by omega) (by omega) (by omega)
      simp only [toNatN]
      rw [brn_dt (by omega), grd_t (by omega), grd_t (by rw [show tP n T = tblP n T.1 T.2.1 T.2.2 from rfl, tbl_len h.tb]; omega), show tP n T = tblP n T.1 T.2.1 T.2.2 from rfl, show 1 + l.length * 5 + d = 1 + (l.length * 5 + d) by omega, gp_a h.tb (by omega), ha, getI_t, b_tst0 x hx.lt d (by omega), hx.b d (by omega), wrapN (by omega), range'_step hdn, List.flatMap_cons, runC_app]
      by_cases h1 : d ∈ l
      · rw [brn_f (by simp [h1])]
        have e : cr1 n X f l d = [] := by unfold cr1; rw [if_pos (.inl h1)]
        rw [e]
        exact ih p
      · rw [brn_t (by simp [h1]), grd_t (by omega), toNatN, b_tst0 y hy.lt _ (by omega), hy.b _ (by omega)]
        by_cases h2 : sx X l.length d ∈ sts X l
        · rw [brn_f (by simp [h2])]
          have e : cr1 n X f l d = [] := by unfold cr1; rw [if_pos (.inr h2)]
          rw [e]
          exact ih p
        · have e : cr1 n X f l d = crs n X f (l ++ [d]) := by unfold cr1; rw [if_neg (by rintro (q | q); exact h1 q; exact h2 q)]
          rw [brn_t (by simp [h2]), grd_t (by omega), grd_t (by rw [iL_len, nL_len]), b_or x hx.lt d (by omega), b_or y hy.lt _ (by omega), nL_app, show tblP n T.1 T.2.1 T.2.2 = tP n T from rfl, hrec d hdn _ _ (hx.add (by omega)) (by rw [sts_app]; exact hy.add (by omega)), bnd_t, getB_t, e]
          cases hb : (runC eF (crs n X f (l ++ [d])) p).1 with
          | true => rw [brn_t rfl, if_pos rfl]; exact ih _
          | false => rw [brn_f rfl, if_neg (by simp)]; rfl
    · rw [brn_df (by rw [toNatN]; omega), show n - d = 0 by omega]; rfl
theorem wxm94_3_A_leaf (N n : Nat) (X : List (List Nat)) (T : T3) (h : Xp n X T) (rec : Nat → Int → Int → List PV → Int → PV → List PV → Option (PV × PV)) (l : List Nat) (hl : l.length = n) (x y : Int) (p : PV) : m94_3_A N rec l.length x y (iL (nL l)) (n : Int) p (tP n T) = some (.bool (runC eF [l] p).1, (runC eF [l] p).2) := by
  have n1 := h.n1
  have n5 := h.n5
  have e : (iL (nL l)).length = l.length := by rw [iL_len, nL_len]
  unfold m94_3_A
  rw [brn_et (by omega), m56_2, grd_t (by omega), grd_t e, grd_t (by omega), bnd_t, getL_t, m75, getL_t, bnd_t]
  show getB _ _ = _
  rw [getB_t]
  simp only [runC, eF, rwP, nL_len, if_true, Bool.false_eq_true, if_false]
theorem wxm94_3_A_node (N n : Nat) (hN : 5000 ≤ N) (X : List (List Nat)) (T : T3) (h : Xp n X T) (rec : Nat → Int → Int → List PV → Int → PV → List PV → Option (PV × PV)) (f : Nat) (l : List Nat) (hl : l.length + (f + 1) = n) (x y : Nat) (hx : Bs x l) (hy : Bs y (sts X l))
    (hrec : ∀ d, d < n → ∀ (x' y' : Nat), Bs x' (l ++ [d]) → Bs y' (sts X (l ++ [d])) → ∀ p, rec (l.length + 1) (x' : Int) (y' : Int) (iL (nL (l ++ [d]))) (n : Int) p (tP n T) = some (.bool (runC eF (crs n X f (l ++ [d])) p).1, (runC eF (crs n X f (l ++ [d])) p).2)) (p : PV) :
    m94_3_A N rec l.length (x : Int) (y : Int) (iL (nL l)) (n : Int) p (tP n T) = some (.bool (runC eF (crs n X (f + 1) l) p).1, (runC eF (crs n X (f + 1) l) p).2) := by
  have n5 := h.n5
  have e : (iL (nL l)).length = l.length := by rw [iL_len, nL_len]
  have hL := wxm94_3_A_L N n X T h rec f l hl x y hx hy hrec n 0 N p (by omega) (by omega) (by omega)
  rw [Nat.sub_zero, ← List.range_eq_range'] at hL
  unfold m94_3_A
  rw [brn_ef (by omega), grd_t (by omega), grd_t (by rw [show tP n T = tblP n T.1 T.2.1 T.2.2 from rfl, tbl_len h.tb]; omega), show m94_3_A_L0 N rec l.length (x : Int) (y : Int) (iL (nL l)) (n : Int) (tP n T) N 0 p = _ from hL, bnd_t]
  show _ = some (PV.bool (runC eF ((List.range n).flatMap (cr1 n X f l)) p).1, (runC eF ((List.range n).flatMap (cr1 n X f l)) p).2)
  unfold outL
  cases hb : (runC eF ((List.range n).flatMap (cr1 n X f l)) p).1 with
  | true => rw [if_pos rfl]
  | false => rw [if_neg (by simp)]
theorem wxm94_3_B_L (N n : Nat) (X : List (List Nat)) (T : T3) (h : Xp n X T) (rec : Nat → Int → Int → List PV → Int → PV → List PV → Option (PV × PV)) (f : Nat) (l : List Nat) (hl : l.length + (f + 1) = n) (x y : Nat) (hx : Bs x l) (hy : Bs y (sts X l))
    (hrec : ∀ d, d < n → ∀ (x' y' : Nat), Bs x' (l ++ [d]) → Bs y' (sts X (l ++ [d])) → ∀ p, rec (l.length + 1) (x' : Int) (y' : Int) (iL (nL (l ++ [d]))) (n : Int) p (tP n T) = some (.bool (runC eF (crs n X f (l ++ [d])) p).1, (runC eF (crs n X f (l ++ [d])) p).2)) :
    ∀ (g d fuel : Nat) (p : PV), n - d = g → g < fuel → d ≤ n → m94_3_B_L0 N rec l.length (x : Int) (y : Int) (iL (nL l)) (n : Int) (tP n T) fuel (d : Int) p = some (outL (runC eF ((List.range' d (n - d)).flatMap (cr1 n X f l)) p))
  | g, d, 0, _, _, hf, _ => by omega
  | g, d, fuel + 1, p, hg, hf, hd => by
    have n5 := h.n5
    rw [m94_3_B_L0]
    by_cases hdn : d < n
    · have ha := h.a l.length d (by omega) hdn
      have hs := h.s l.length d (by omega) hdn
      have ih := fun q => wxm94_3_B_L N n X T h rec f l hl x y hx hy hrec (g - 1) (d + 1) fuel q (by omega) (by omega) (by omega)
      simp only [toNatN]
      rw [brn_dt (by omega), grd_t (by omega), grd_t (by rw [show tP n T = tblP n T.1 T.2.1 T.2.2 from rfl, tbl_len h.tb]; omega), show tP n T = tblP n T.1 T.2.1 T.2.2 from rfl, show 1 + l.length * 5 + d = 1 + (l.length * 5 + d) by omega, gp_a h.tb (by omega), ha, getI_t, b_tst0 x hx.lt d (by omega), hx.b d (by omega), wrapN (by omega), range'_step hdn, List.flatMap_cons, runC_app]
      by_cases h1 : d ∈ l
      · rw [brn_f (by simp [h1])]
        have e : cr1 n X f l d = [] := by unfold cr1; rw [if_pos (.inl h1)]
        rw [e]
        exact ih p
      · rw [brn_t (by simp [h1]), grd_t (by omega), toNatN, b_tst0 y hy.lt _ (by omega), hy.b _ (by omega)]
        by_cases h2 : sx X l.length d ∈ sts X l
        · rw [brn_f (by simp [h2])]
          have e : cr1 n X f l d = [] := by unfold cr1; rw [if_pos (.inr h2)]
          rw [e]
          exact ih p
        · have e : cr1 n X f l d = crs n X f (l ++ [d]) := by unfold cr1; rw [if_neg (by rintro (q | q); exact h1 q; exact h2 q)]
          rw [brn_t (by simp [h2]), b_or x hx.lt d (by omega), b_or y hy.lt _ (by omega), nL_app, show tblP n T.1 T.2.1 T.2.2 = tP n T from rfl, hrec d hdn _ _ (hx.add (by omega)) (by rw [sts_app]; exact hy.add (by omega)), bnd_t, getB_t, e]
          cases hb : (runC eF (crs n X f (l ++ [d])) p).1 with
          | true => rw [brn_t rfl, if_pos rfl]; exact ih _
          | false => rw [brn_f rfl, if_neg (by simp)]; rfl
    · rw [brn_df (by rw [toNatN]; omega), show n - d = 0 by omega]; rfl
theorem wxm94_3_B_leaf (N n : Nat) (X : List (List Nat)) (T : T3) (h : Xp n X T) (rec : Nat → Int → Int → List PV → Int → PV → List PV → Option (PV × PV)) (l : List Nat) (hl : l.length = n) (x y : Int) (p : PV) : m94_3_B N rec l.length x y (iL (nL l)) (n : Int) p (tP n T) = some (.bool (runC eF [l] p).1, (runC eF [l] p).2) := by
  have n1 := h.n1
  have n5 := h.n5
  have e : (iL (nL l)).length = l.length := by rw [iL_len, nL_len]
  unfold m94_3_B
  rw [grd_t e, brn_et (by omega), m56_3, grd_t (by omega), grd_t e, grd_t (by omega), bnd_t, getL_t, m75, getL_t, bnd_t]
  show getB _ _ = _
  rw [getB_t]
  simp only [runC, eF, rwP, nL_len, if_true, Bool.false_eq_true, if_false]
theorem wxm94_3_B_node (N n : Nat) (hN : 5000 ≤ N) (X : List (List Nat)) (T : T3) (h : Xp n X T) (rec : Nat → Int → Int → List PV → Int → PV → List PV → Option (PV × PV)) (f : Nat) (l : List Nat) (hl : l.length + (f + 1) = n) (x y : Nat) (hx : Bs x l) (hy : Bs y (sts X l))
    (hrec : ∀ d, d < n → ∀ (x' y' : Nat), Bs x' (l ++ [d]) → Bs y' (sts X (l ++ [d])) → ∀ p, rec (l.length + 1) (x' : Int) (y' : Int) (iL (nL (l ++ [d]))) (n : Int) p (tP n T) = some (.bool (runC eF (crs n X f (l ++ [d])) p).1, (runC eF (crs n X f (l ++ [d])) p).2)) (p : PV) :
    m94_3_B N rec l.length (x : Int) (y : Int) (iL (nL l)) (n : Int) p (tP n T) = some (.bool (runC eF (crs n X (f + 1) l) p).1, (runC eF (crs n X (f + 1) l) p).2) := by
  have n5 := h.n5
  have e : (iL (nL l)).length = l.length := by rw [iL_len, nL_len]
  have hL := wxm94_3_B_L N n X T h rec f l hl x y hx hy hrec n 0 N p (by omega) (by omega) (by omega)
  rw [Nat.sub_zero, ← List.range_eq_range'] at hL
  unfold m94_3_B
  rw [grd_t e, brn_ef (by omega), grd_t (by omega), grd_t (by rw [show tP n T = tblP n T.1 T.2.1 T.2.2 from rfl, tbl_len h.tb]; omega), show m94_3_B_L0 N rec l.length (x : Int) (y : Int) (iL (nL l)) (n : Int) (tP n T) N 0 p = _ from hL, bnd_t]
  show _ = some (PV.bool (runC eF ((List.range n).flatMap (cr1 n X f l)) p).1, (runC eF ((List.range n).flatMap (cr1 n X f l)) p).2)
  unfold outL
  cases hb : (runC eF ((List.range n).flatMap (cr1 n X f l)) p).1 with
  | true => rw [if_pos rfl]
  | false => rw [if_neg (by simp)]
theorem wxm94_3_ok (N n : Nat) (hN : 5000 ≤ N) (X : List (List Nat)) (T : T3) (h : Xp n X T) : ∀ (f fu : Nat) (l : List Nat) (x y : Nat) (p : PV), l.length + f = n → f < fu → Bs x l → Bs y (sts X l) →
    m94_3 N fu l.length (x : Int) (y : Int) (iL (nL l)) (n : Int) p (tP n T) = some (.bool (runC eF (crs n X f l) p).1, (runC eF (crs n X f l) p).2)
  | f, 0, _, _, _, _, _, hf, _, _ => by omega
  | 0, fu + 1, l, x, y, p, hl, _, _, _ => by
    rw [m94_3]
    exact both_same (wxm94_3_A_leaf N n X T h _ l (by omega) _ _ p) (wxm94_3_B_leaf N n X T h _ l (by omega) _ _ p)
  | f + 1, fu + 1, l, x, y, p, hl, hf, hx, hy => by
    rw [m94_3]
    have hr : ∀ d, d < n → ∀ (x' y' : Nat), Bs x' (l ++ [d]) → Bs y' (sts X (l ++ [d])) → ∀ p, m94_3 N fu (l.length + 1) (x' : Int) (y' : Int) (iL (nL (l ++ [d]))) (n : Int) p (tP n T) = some (.bool (runC eF (crs n X f (l ++ [d])) p).1, (runC eF (crs n X f (l ++ [d])) p).2) := by
      intro d _ x' y' hx' hy' p'
      have := wxm94_3_ok N n hN X T h f fu (l ++ [d]) x' y' p' (by simp; omega) (by omega) hx' hy'
      rwa [List.length_append, List.length_singleton] at this
    exact both_same (wxm94_3_A_node N n hN X T h _ f l hl x y hx hy hr p) (wxm94_3_B_node N n hN X T h _ f l hl x y hx hy hr p)
theorem wxm94_2_L (N n : Nat) (hN : 5000 ≤ N) (X : List (List Nat)) (T : T3) (h : Xp n X T) (f : Nat) (hl : f + 1 = n) :
    ∀ (g d fuel : Nat) (p : PV), n - d = g → g < fuel → d ≤ n → m94_2_L0 N 0 0 (n : Int) (tP n T) fuel (d : Int) p = some (outL (runC eF ((List.range' d (n - d)).flatMap (cr1 n X f [])) p))
  | g, d, 0, _, _, hf, _ => by omega
  | g, d, fuel + 1, p, hg, hf, hd => by
    have n5 := h.n5
    have hx : Bs 0 ([] : List Nat) := ⟨by decide, fun s _ => by simp⟩
    have hy : Bs 0 (sts X []) := ⟨by decide, fun s _ => by simp [sts]⟩
    rw [m94_2_L0]
    by_cases hdn : d < n
    · have ha := h.a 0 d (by omega) hdn
      have hs := h.s 0 d (by omega) hdn
      have ih := fun q => wxm94_2_L N n hN X T h f hl (g - 1) (d + 1) fuel q (by omega) (by omega) (by omega)
      rw [Nat.zero_mul, Nat.zero_add] at ha
      simp only [toNatN]
      rw [brn_dt (by omega), grd_t (by omega), grd_t (by rw [show tP n T = tblP n T.1 T.2.1 T.2.2 from rfl, tbl_len h.tb]; omega), show tP n T = tblP n T.1 T.2.1 T.2.2 from rfl, gp_a h.tb (by omega), ha, getI_t, wrapN (by omega), range'_step hdn, List.flatMap_cons, runC_app]
      have b1 := b_tst0 0 (by decide) d (by omega)
      have b2 := b_tst0 0 (by decide) (sx X 0 d) (by omega)
      have o1 := b_or 0 (by decide) d (by omega)
      have o2 := b_or 0 (by decide) (sx X 0 d) (by omega)
      have hk := wxm94_3_ok N n hN X T h f N [d] (0 ||| 2 ^ d) (0 ||| 2 ^ sx X 0 d) p (by simp; omega) (by omega) (hx.add (l := []) (by omega)) (by
        have := sts_app X [] d
        rw [List.nil_append] at this
        rw [this]; exact hy.add (by show sx X 0 d < 5; omega))
      have e : cr1 n X f [] d = crs n X f [d] := by unfold cr1; rw [if_neg (by simp [sts])]; rfl
      have z1 : (0 : Nat).testBit d = false := Nat.zero_testBit d
      have z2 : (0 : Nat).testBit (sx X 0 d) = false := Nat.zero_testBit _
      rw [z1] at b1
      rw [z2] at b2
      rw [show ((0 : Nat) : Int) = 0 from rfl] at b1 b2 o1 o2
      rw [brn_t b1, grd_t (by omega), toNatN, brn_t b2, o1, o2]
      rw [show m94_3 N N 1 ((0 ||| 2 ^ d : Nat) : Int) ((0 ||| 2 ^ sx X 0 d : Nat) : Int) [PV.int .i64 (d : Int)] (n : Int) p (tblP n T.1 T.2.1 T.2.2) = _ from hk, bnd_t, getB_t, e]
      cases hb : (runC eF (crs n X f [d]) p).1 with
      | true => rw [brn_t rfl, if_pos rfl]; exact ih _
      | false => rw [brn_f rfl, if_neg (by simp)]; rfl
    · rw [brn_df (by rw [toNatN]; omega), show n - d = 0 by omega]; rfl
theorem wxm94_2_ok (N n : Nat) (hN : 5000 ≤ N) (X : List (List Nat)) (T : T3) (h : Xp n X T) (p : PV) : m94_2 N 0 0 (n : Int) p (tP n T) = some (.bool (runC eF (crs n X n []) p).1, (runC eF (crs n X n []) p).2) := by
  have n1 := h.n1
  have n5 := h.n5
  obtain ⟨f, rfl⟩ : ∃ f, n = f + 1 := ⟨n - 1, by omega⟩
  have hL := wxm94_2_L N (f + 1) hN X T h f rfl (f + 1) 0 N p (by omega) (by omega) (by omega)
  rw [Nat.sub_zero, ← List.range_eq_range'] at hL
  unfold m94_2
  rw [brn_ef (by omega), grd_t ⟨by omega, by omega, by rw [show tP (f + 1) T = tblP (f + 1) T.1 T.2.1 T.2.2 from rfl, tbl_len h.tb]; omega⟩, show m94_2_L0 N 0 0 ((f + 1 : Nat) : Int) (tP (f + 1) T) N 0 p = _ from hL, bnd_t]
  show _ = some (PV.bool (runC eF ((List.range (f + 1)).flatMap (cr1 (f + 1) X f [])) p).1, (runC eF ((List.range (f + 1)).flatMap (cr1 (f + 1) X f [])) p).2)
  unfold outL
  cases hb : (runC eF ((List.range (f + 1)).flatMap (cr1 (f + 1) X f [])) p).1 with
  | true => rw [if_pos rfl]
  | false => rw [if_neg (by simp)]
theorem wxm94_6_A_L (N n : Nat) (X : List (List Nat)) (T : T3) (h : Xp n X T) (rec : Nat → Int → Int → List PV → Int → Int → List PV → Option (PV × Int)) (f : Nat) (l : List Nat) (hl : l.length + (f + 1) = n) (x y : Nat) (hx : Bs x l) (hy : Bs y (sts X l))
    (hrec : ∀ d, d < n → ∀ (x' y' : Nat), Bs x' (l ++ [d]) → Bs y' (sts X (l ++ [d])) → ∀ p, rec (l.length + 1) (x' : Int) (y' : Int) (iL (nL (l ++ [d]))) (n : Int) p (tP n T) = some (.bool (runC eC (crs n X f (l ++ [d])) p).1, (runC eC (crs n X f (l ++ [d])) p).2)) :
    ∀ (g d fuel : Nat) (p : Int), n - d = g → g < fuel → d ≤ n → m94_6_A_L0 N rec l.length (x : Int) (y : Int) (iL (nL l)) (n : Int) (tP n T) fuel (d : Int) p = some (outL (runC eC ((List.range' d (n - d)).flatMap (cr1 n X f l)) p))
  | g, d, 0, _, _, hf, _ => by omega
  | g, d, fuel + 1, p, hg, hf, hd => by
    have n5 := h.n5
    rw [m94_6_A_L0]
    by_cases hdn : d < n
    · have ha := h.a l.length d (by omega) hdn
      have hs := h.s l.length d (by omega) hdn
      have ih := fun q => wxm94_6_A_L N n X T h rec f l hl x y hx hy hrec (g - 1) (d + 1) fuel q (by omega) (by omega) (by omega)
      simp only [toNatN]
      rw [brn_dt (by omega), grd_t (by omega), grd_t (by rw [show tP n T = tblP n T.1 T.2.1 T.2.2 from rfl, tbl_len h.tb]; omega), show tP n T = tblP n T.1 T.2.1 T.2.2 from rfl, show 1 + l.length * 5 + d = 1 + (l.length * 5 + d) by omega, gp_a h.tb (by omega), ha, getI_t, b_tst0 x hx.lt d (by omega), hx.b d (by omega), wrapN (by omega), range'_step hdn, List.flatMap_cons, runC_app]
      by_cases h1 : d ∈ l
      · rw [brn_f (by simp [h1])]
        have e : cr1 n X f l d = [] := by unfold cr1; rw [if_pos (.inl h1)]
        rw [e]
        exact ih p
      · rw [brn_t (by simp [h1]), grd_t (by omega), toNatN, b_tst0 y hy.lt _ (by omega), hy.b _ (by omega)]
        by_cases h2 : sx X l.length d ∈ sts X l
        · rw [brn_f (by simp [h2])]
          have e : cr1 n X f l d = [] := by unfold cr1; rw [if_pos (.inr h2)]
          rw [e]
          exact ih p
        · have e : cr1 n X f l d = crs n X f (l ++ [d]) := by unfold cr1; rw [if_neg (by rintro (q | q); exact h1 q; exact h2 q)]
          rw [brn_t (by simp [h2]), grd_t (by omega), grd_t (by rw [iL_len, nL_len]), b_or x hx.lt d (by omega), b_or y hy.lt _ (by omega), nL_app, show tblP n T.1 T.2.1 T.2.2 = tP n T from rfl, hrec d hdn _ _ (hx.add (by omega)) (by rw [sts_app]; exact hy.add (by omega)), bnd_t, getB_t, e]
          cases hb : (runC eC (crs n X f (l ++ [d])) p).1 with
          | true => rw [brn_t rfl, if_pos rfl]; exact ih _
          | false => rw [brn_f rfl, if_neg (by simp)]; rfl
    · rw [brn_df (by rw [toNatN]; omega), show n - d = 0 by omega]; rfl
theorem wxm94_6_A_leaf (N n : Nat) (X : List (List Nat)) (T : T3) (h : Xp n X T) (rec : Nat → Int → Int → List PV → Int → Int → List PV → Option (PV × Int)) (l : List Nat) (hl : l.length = n) (x y : Int) (p : Int) : m94_6_A N rec l.length x y (iL (nL l)) (n : Int) p (tP n T) = some (.bool (runC eC [l] p).1, (runC eC [l] p).2) := by
  have n1 := h.n1
  have n5 := h.n5
  have e : (iL (nL l)).length = l.length := by rw [iL_len, nL_len]
  unfold m94_6_A
  rw [brn_et (by omega), m56_2, grd_t (by omega), grd_t e, grd_t (by omega), bnd_t, getL_t, m78, getL_t, bnd_t]
  show getB _ _ = _
  rw [getB_t]
  simp only [runC, eC, rwP, nL_len, if_true, Bool.false_eq_true, if_false]
theorem wxm94_6_A_node (N n : Nat) (hN : 5000 ≤ N) (X : List (List Nat)) (T : T3) (h : Xp n X T) (rec : Nat → Int → Int → List PV → Int → Int → List PV → Option (PV × Int)) (f : Nat) (l : List Nat) (hl : l.length + (f + 1) = n) (x y : Nat) (hx : Bs x l) (hy : Bs y (sts X l))
    (hrec : ∀ d, d < n → ∀ (x' y' : Nat), Bs x' (l ++ [d]) → Bs y' (sts X (l ++ [d])) → ∀ p, rec (l.length + 1) (x' : Int) (y' : Int) (iL (nL (l ++ [d]))) (n : Int) p (tP n T) = some (.bool (runC eC (crs n X f (l ++ [d])) p).1, (runC eC (crs n X f (l ++ [d])) p).2)) (p : Int) :
    m94_6_A N rec l.length (x : Int) (y : Int) (iL (nL l)) (n : Int) p (tP n T) = some (.bool (runC eC (crs n X (f + 1) l) p).1, (runC eC (crs n X (f + 1) l) p).2) := by
  have n5 := h.n5
  have e : (iL (nL l)).length = l.length := by rw [iL_len, nL_len]
  have hL := wxm94_6_A_L N n X T h rec f l hl x y hx hy hrec n 0 N p (by omega) (by omega) (by omega)
  rw [Nat.sub_zero, ← List.range_eq_range'] at hL
  unfold m94_6_A
  rw [brn_ef (by omega), grd_t (by omega), grd_t (by rw [show tP n T = tblP n T.1 T.2.1 T.2.2 from rfl, tbl_len h.tb]; omega), show m94_6_A_L0 N rec l.length (x : Int) (y : Int) (iL (nL l)) (n : Int) (tP n T) N 0 p = _ from hL, bnd_t]
  show _ = some (PV.bool (runC eC ((List.range n).flatMap (cr1 n X f l)) p).1, (runC eC ((List.range n).flatMap (cr1 n X f l)) p).2)
  unfold outL
  cases hb : (runC eC ((List.range n).flatMap (cr1 n X f l)) p).1 with
  | true => rw [if_pos rfl]
  | false => rw [if_neg (by simp)]
theorem wxm94_6_B_L (N n : Nat) (X : List (List Nat)) (T : T3) (h : Xp n X T) (rec : Nat → Int → Int → List PV → Int → Int → List PV → Option (PV × Int)) (f : Nat) (l : List Nat) (hl : l.length + (f + 1) = n) (x y : Nat) (hx : Bs x l) (hy : Bs y (sts X l))
    (hrec : ∀ d, d < n → ∀ (x' y' : Nat), Bs x' (l ++ [d]) → Bs y' (sts X (l ++ [d])) → ∀ p, rec (l.length + 1) (x' : Int) (y' : Int) (iL (nL (l ++ [d]))) (n : Int) p (tP n T) = some (.bool (runC eC (crs n X f (l ++ [d])) p).1, (runC eC (crs n X f (l ++ [d])) p).2)) :
    ∀ (g d fuel : Nat) (p : Int), n - d = g → g < fuel → d ≤ n → m94_6_B_L0 N rec l.length (x : Int) (y : Int) (iL (nL l)) (n : Int) (tP n T) fuel (d : Int) p = some (outL (runC eC ((List.range' d (n - d)).flatMap (cr1 n X f l)) p))
  | g, d, 0, _, _, hf, _ => by omega
  | g, d, fuel + 1, p, hg, hf, hd => by
    have n5 := h.n5
    rw [m94_6_B_L0]
    by_cases hdn : d < n
    · have ha := h.a l.length d (by omega) hdn
      have hs := h.s l.length d (by omega) hdn
      have ih := fun q => wxm94_6_B_L N n X T h rec f l hl x y hx hy hrec (g - 1) (d + 1) fuel q (by omega) (by omega) (by omega)
      simp only [toNatN]
      rw [brn_dt (by omega), grd_t (by omega), grd_t (by rw [show tP n T = tblP n T.1 T.2.1 T.2.2 from rfl, tbl_len h.tb]; omega), show tP n T = tblP n T.1 T.2.1 T.2.2 from rfl, show 1 + l.length * 5 + d = 1 + (l.length * 5 + d) by omega, gp_a h.tb (by omega), ha, getI_t, b_tst0 x hx.lt d (by omega), hx.b d (by omega), wrapN (by omega), range'_step hdn, List.flatMap_cons, runC_app]
      by_cases h1 : d ∈ l
      · rw [brn_f (by simp [h1])]
        have e : cr1 n X f l d = [] := by unfold cr1; rw [if_pos (.inl h1)]
        rw [e]
        exact ih p
      · rw [brn_t (by simp [h1]), grd_t (by omega), toNatN, b_tst0 y hy.lt _ (by omega), hy.b _ (by omega)]
        by_cases h2 : sx X l.length d ∈ sts X l
        · rw [brn_f (by simp [h2])]
          have e : cr1 n X f l d = [] := by unfold cr1; rw [if_pos (.inr h2)]
          rw [e]
          exact ih p
        · have e : cr1 n X f l d = crs n X f (l ++ [d]) := by unfold cr1; rw [if_neg (by rintro (q | q); exact h1 q; exact h2 q)]
          rw [brn_t (by simp [h2]), b_or x hx.lt d (by omega), b_or y hy.lt _ (by omega), nL_app, show tblP n T.1 T.2.1 T.2.2 = tP n T from rfl, hrec d hdn _ _ (hx.add (by omega)) (by rw [sts_app]; exact hy.add (by omega)), bnd_t, getB_t, e]
          cases hb : (runC eC (crs n X f (l ++ [d])) p).1 with
          | true => rw [brn_t rfl, if_pos rfl]; exact ih _
          | false => rw [brn_f rfl, if_neg (by simp)]; rfl
    · rw [brn_df (by rw [toNatN]; omega), show n - d = 0 by omega]; rfl
theorem wxm94_6_B_leaf (N n : Nat) (X : List (List Nat)) (T : T3) (h : Xp n X T) (rec : Nat → Int → Int → List PV → Int → Int → List PV → Option (PV × Int)) (l : List Nat) (hl : l.length = n) (x y : Int) (p : Int) : m94_6_B N rec l.length x y (iL (nL l)) (n : Int) p (tP n T) = some (.bool (runC eC [l] p).1, (runC eC [l] p).2) := by
  have n1 := h.n1
  have n5 := h.n5
  have e : (iL (nL l)).length = l.length := by rw [iL_len, nL_len]
  unfold m94_6_B
  rw [grd_t e, brn_et (by omega), m56_3, grd_t (by omega), grd_t e, grd_t (by omega), bnd_t, getL_t, m78, getL_t, bnd_t]
  show getB _ _ = _
  rw [getB_t]
  simp only [runC, eC, rwP, nL_len, if_true, Bool.false_eq_true, if_false]
theorem wxm94_6_B_node (N n : Nat) (hN : 5000 ≤ N) (X : List (List Nat)) (T : T3) (h : Xp n X T) (rec : Nat → Int → Int → List PV → Int → Int → List PV → Option (PV × Int)) (f : Nat) (l : List Nat) (hl : l.length + (f + 1) = n) (x y : Nat) (hx : Bs x l) (hy : Bs y (sts X l))
    (hrec : ∀ d, d < n → ∀ (x' y' : Nat), Bs x' (l ++ [d]) → Bs y' (sts X (l ++ [d])) → ∀ p, rec (l.length + 1) (x' : Int) (y' : Int) (iL (nL (l ++ [d]))) (n : Int) p (tP n T) = some (.bool (runC eC (crs n X f (l ++ [d])) p).1, (runC eC (crs n X f (l ++ [d])) p).2)) (p : Int) :
    m94_6_B N rec l.length (x : Int) (y : Int) (iL (nL l)) (n : Int) p (tP n T) = some (.bool (runC eC (crs n X (f + 1) l) p).1, (runC eC (crs n X (f + 1) l) p).2) := by
  have n5 := h.n5
  have e : (iL (nL l)).length = l.length := by rw [iL_len, nL_len]
  have hL := wxm94_6_B_L N n X T h rec f l hl x y hx hy hrec n 0 N p (by omega) (by omega) (by omega)
  rw [Nat.sub_zero, ← List.range_eq_range'] at hL
  unfold m94_6_B
  rw [grd_t e, brn_ef (by omega), grd_t (by omega), grd_t (by rw [show tP n T = tblP n T.1 T.2.1 T.2.2 from rfl, tbl_len h.tb]; omega), show m94_6_B_L0 N rec l.length (x : Int) (y : Int) (iL (nL l)) (n : Int) (tP n T) N 0 p = _ from hL, bnd_t]
  show _ = some (PV.bool (runC eC ((List.range n).flatMap (cr1 n X f l)) p).1, (runC eC ((List.range n).flatMap (cr1 n X f l)) p).2)
  unfold outL
  cases hb : (runC eC ((List.range n).flatMap (cr1 n X f l)) p).1 with
  | true => rw [if_pos rfl]
  | false => rw [if_neg (by simp)]
theorem wxm94_6_ok (N n : Nat) (hN : 5000 ≤ N) (X : List (List Nat)) (T : T3) (h : Xp n X T) : ∀ (f fu : Nat) (l : List Nat) (x y : Nat) (p : Int), l.length + f = n → f < fu → Bs x l → Bs y (sts X l) →
    m94_6 N fu l.length (x : Int) (y : Int) (iL (nL l)) (n : Int) p (tP n T) = some (.bool (runC eC (crs n X f l) p).1, (runC eC (crs n X f l) p).2)
  | f, 0, _, _, _, _, _, hf, _, _ => by omega
  | 0, fu + 1, l, x, y, p, hl, _, _, _ => by
    rw [m94_6]
    exact both_same (wxm94_6_A_leaf N n X T h _ l (by omega) _ _ p) (wxm94_6_B_leaf N n X T h _ l (by omega) _ _ p)
  | f + 1, fu + 1, l, x, y, p, hl, hf, hx, hy => by
    rw [m94_6]
    have hr : ∀ d, d < n → ∀ (x' y' : Nat), Bs x' (l ++ [d]) → Bs y' (sts X (l ++ [d])) → ∀ p, m94_6 N fu (l.length + 1) (x' : Int) (y' : Int) (iL (nL (l ++ [d]))) (n : Int) p (tP n T) = some (.bool (runC eC (crs n X f (l ++ [d])) p).1, (runC eC (crs n X f (l ++ [d])) p).2) := by
      intro d _ x' y' hx' hy' p'
      have := wxm94_6_ok N n hN X T h f fu (l ++ [d]) x' y' p' (by simp; omega) (by omega) hx' hy'
      rwa [List.length_append, List.length_singleton] at this
    exact both_same (wxm94_6_A_node N n hN X T h _ f l hl x y hx hy hr p) (wxm94_6_B_node N n hN X T h _ f l hl x y hx hy hr p)
theorem wxm94_5_L (N n : Nat) (hN : 5000 ≤ N) (X : List (List Nat)) (T : T3) (h : Xp n X T) (f : Nat) (hl : f + 1 = n) :
    ∀ (g d fuel : Nat) (p : Int), n - d = g → g < fuel → d ≤ n → m94_5_L0 N 0 0 (n : Int) (tP n T) fuel (d : Int) p = some (outL (runC eC ((List.range' d (n - d)).flatMap (cr1 n X f [])) p))
  | g, d, 0, _, _, hf, _ => by omega
  | g, d, fuel + 1, p, hg, hf, hd => by
    have n5 := h.n5
    have hx : Bs 0 ([] : List Nat) := ⟨by decide, fun s _ => by simp⟩
    have hy : Bs 0 (sts X []) := ⟨by decide, fun s _ => by simp [sts]⟩
    rw [m94_5_L0]
    by_cases hdn : d < n
    · have ha := h.a 0 d (by omega) hdn
      have hs := h.s 0 d (by omega) hdn
      have ih := fun q => wxm94_5_L N n hN X T h f hl (g - 1) (d + 1) fuel q (by omega) (by omega) (by omega)
      rw [Nat.zero_mul, Nat.zero_add] at ha
      simp only [toNatN]
      rw [brn_dt (by omega), grd_t (by omega), grd_t (by rw [show tP n T = tblP n T.1 T.2.1 T.2.2 from rfl, tbl_len h.tb]; omega), show tP n T = tblP n T.1 T.2.1 T.2.2 from rfl, gp_a h.tb (by omega), ha, getI_t, wrapN (by omega), range'_step hdn, List.flatMap_cons, runC_app]
      have b1 := b_tst0 0 (by decide) d (by omega)
      have b2 := b_tst0 0 (by decide) (sx X 0 d) (by omega)
      have o1 := b_or 0 (by decide) d (by omega)
      have o2 := b_or 0 (by decide) (sx X 0 d) (by omega)
      have hk := wxm94_6_ok N n hN X T h f N [d] (0 ||| 2 ^ d) (0 ||| 2 ^ sx X 0 d) p (by simp; omega) (by omega) (hx.add (l := []) (by omega)) (by
        have := sts_app X [] d
        rw [List.nil_append] at this
        rw [this]; exact hy.add (by show sx X 0 d < 5; omega))
      have e : cr1 n X f [] d = crs n X f [d] := by unfold cr1; rw [if_neg (by simp [sts])]; rfl
      have z1 : (0 : Nat).testBit d = false := Nat.zero_testBit d
      have z2 : (0 : Nat).testBit (sx X 0 d) = false := Nat.zero_testBit _
      rw [z1] at b1
      rw [z2] at b2
      rw [show ((0 : Nat) : Int) = 0 from rfl] at b1 b2 o1 o2
      rw [brn_t b1, grd_t (by omega), toNatN, brn_t b2, o1, o2]
      rw [show m94_6 N N 1 ((0 ||| 2 ^ d : Nat) : Int) ((0 ||| 2 ^ sx X 0 d : Nat) : Int) [PV.int .i64 (d : Int)] (n : Int) p (tblP n T.1 T.2.1 T.2.2) = _ from hk, bnd_t, getB_t, e]
      cases hb : (runC eC (crs n X f [d]) p).1 with
      | true => rw [brn_t rfl, if_pos rfl]; exact ih _
      | false => rw [brn_f rfl, if_neg (by simp)]; rfl
    · rw [brn_df (by rw [toNatN]; omega), show n - d = 0 by omega]; rfl
theorem wxm94_5_ok (N n : Nat) (hN : 5000 ≤ N) (X : List (List Nat)) (T : T3) (h : Xp n X T) (p : Int) : m94_5 N 0 0 (n : Int) p (tP n T) = some (.bool (runC eC (crs n X n []) p).1, (runC eC (crs n X n []) p).2) := by
  have n1 := h.n1
  have n5 := h.n5
  obtain ⟨f, rfl⟩ : ∃ f, n = f + 1 := ⟨n - 1, by omega⟩
  have hL := wxm94_5_L N (f + 1) hN X T h f rfl (f + 1) 0 N p (by omega) (by omega) (by omega)
  rw [Nat.sub_zero, ← List.range_eq_range'] at hL
  unfold m94_5
  rw [brn_ef (by omega), grd_t ⟨by omega, by omega, by rw [show tP (f + 1) T = tblP (f + 1) T.1 T.2.1 T.2.2 from rfl, tbl_len h.tb]; omega⟩, show m94_5_L0 N 0 0 ((f + 1 : Nat) : Int) (tP (f + 1) T) N 0 p = _ from hL, bnd_t]
  show _ = some (PV.bool (runC eC ((List.range (f + 1)).flatMap (cr1 (f + 1) X f [])) p).1, (runC eC ((List.range (f + 1)).flatMap (cr1 (f + 1) X f [])) p).2)
  unfold outL
  cases hb : (runC eC ((List.range (f + 1)).flatMap (cr1 (f + 1) X f [])) p).1 with
  | true => rw [if_pos rfl]
  | false => rw [if_neg (by simp)]
theorem ext_pre {n : Nat} : ∀ (f : Nat) (l x : List Nat), x ∈ ext n f l → ∃ m, x = l ++ m
  | 0, l, x, h => ⟨[], by rw [List.mem_singleton.1 h]; simp⟩
  | f + 1, l, x, h => by
    unfold ext at h
    obtain ⟨s, _, h⟩ := List.mem_flatMap.1 h
    by_cases g : s ∈ l
    · rw [if_pos g] at h; cases h
    · rw [if_neg g] at h
      obtain ⟨m, e⟩ := ext_pre f (l ++ [s]) x h
      exact ⟨s :: m, by rw [e]; simp⟩
theorem sts_len (X : List (List Nat)) (l : List Nat) : (sts X l).length = l.length := by simp [sts]
theorem sts_pre (X : List (List Nat)) (l : List Nat) : ∀ m, ∃ m', sts X (l ++ m) = sts X l ++ m'
  | [] => ⟨[], by simp⟩
  | d :: m => by
    obtain ⟨m', e⟩ := sts_pre X (l ++ [d]) m
    refine ⟨sx X l.length d :: m', ?_⟩
    rw [show l ++ d :: m = l ++ [d] ++ m by simp, e, sts_app]; simp
theorem filter_none {α : Type} {p : α → Bool} : ∀ {l : List α}, (∀ x ∈ l, p x = false) → l.filter p = []
  | [], _ => rfl
  | x :: l, h => by
    rw [List.filter_cons, h x (.head _), if_neg (by simp)]
    exact filter_none fun y hy => h y (.tail _ hy)
theorem flat_filter {α β : Type} {p : β → Bool} {g h : α → List β} : ∀ {l : List α}, (∀ x ∈ l, g x = (h x).filter p) → l.flatMap g = (l.flatMap h).filter p
  | [], _ => rfl
  | x :: l, e => by
    rw [List.flatMap_cons, List.flatMap_cons, List.filter_append, e x (.head _), flat_filter fun y hy => e y (.tail _ hy)]
theorem crs_ext (n : Nat) (X : List (List Nat)) : ∀ (f : Nat) (l : List Nat), (sts X l).Nodup → crs n X f l = (ext n f l).filter fun x => decide (sts X x).Nodup
  | 0, l, h => by simp [crs, ext, h]
  | f + 1, l, h => by
    unfold crs ext
    refine flat_filter fun d _ => ?_
    by_cases h1 : d ∈ l
    · rw [if_pos (.inl h1), if_pos h1]; rfl
    · rw [if_neg h1]
      by_cases h2 : sx X l.length d ∈ sts X l
      · rw [if_pos (.inr h2)]
        symm
        refine filter_none fun x hx => ?_
        obtain ⟨m, e⟩ := ext_pre f (l ++ [d]) x hx
        obtain ⟨m', e'⟩ := sts_pre X (l ++ [d]) m
        rw [decide_eq_false_iff_not, e, e', sts_app]
        intro hn
        have := (List.nodup_append.1 (List.nodup_append.1 hn).1).2.2 _ h2 (sx X l.length d) (by simp)
        exact this rfl
      · rw [if_neg (by rintro (q | q); exact h1 q; exact h2 q)]
        refine crs_ext n X f (l ++ [d]) ?_
        rw [sts_app, List.nodup_append]
        refine ⟨h, by simp, fun a ha b hb e => ?_⟩
        simp only [List.mem_singleton] at hb
        exact h2 (hb ▸ e ▸ ha)
def ddp : List Nat → List Nat → List Nat
  | acc, [] => acc
  | acc, s :: t => if s ∈ acc then ddp acc t else ddp (acc ++ [s]) t
theorem ddp_le : ∀ (t acc : List Nat), (ddp acc t).length ≤ acc.length + t.length
  | [], acc => by simp [ddp]
  | s :: t, acc => by
    unfold ddp
    by_cases h : s ∈ acc
    · rw [if_pos h]; have := ddp_le t acc; simp only [List.length_cons]; omega
    · rw [if_neg h]; have := ddp_le t (acc ++ [s]); simp only [List.length_append, List.length_cons, List.length_nil] at this ⊢; omega
theorem ddp_nd : ∀ (t acc : List Nat), acc.Nodup → ((ddp acc t).length = acc.length + t.length ↔ (acc ++ t).Nodup)
  | [], acc, h => by simp [ddp, h]
  | s :: t, acc, h => by
    unfold ddp
    by_cases g : s ∈ acc
    · rw [if_pos g]
      have := ddp_le t acc
      constructor
      · intro e; simp only [List.length_cons] at e; omega
      · intro e
        exact absurd rfl ((List.nodup_append.1 e).2.2 s g s (.head _))
    · rw [if_neg g]
      have ih := ddp_nd t (acc ++ [s]) (by
        rw [List.nodup_append]
        refine ⟨h, by simp, fun a ha b hb e => ?_⟩
        simp only [List.mem_singleton] at hb
        exact g (hb ▸ e ▸ ha))
      rw [show acc ++ [s] ++ t = acc ++ s :: t by simp] at ih
      rw [← ih]
      simp only [List.length_append, List.length_cons, List.length_nil]
      omega
theorem vp_ext {n : Nat} {X : List (List Nat)} {D : List Nat} (h : Vp n X D) : ∀ x ∈ X, x ∈ ext n n [] := by
  induction h with
  | nil => intro x hx; cases hx
  | snoc X D x h hx hf ih =>
    intro y hy
    rcases List.mem_append.1 hy with hy | hy
    · exact ih y hy
    · rw [List.mem_singleton.1 hy]; exact hx
theorem vp_sx {n : Nat} {X : List (List Nat)} {D : List Nat} (h : Vp n X D) {j d : Nat} (hj : j < X.length) (hd : d < n) : sx X j d < n ∧ (X.getD j []).length = n := by
  have hm : X.getD j [] ∈ X := by simp [List.getD, hj]
  have he := vp_ext h _ hm
  have hl := (ext_get he).1
  rw [List.length_nil, Nat.zero_add] at hl
  exact ⟨ext_lt (by simp) he _ (gn_mem (by omega)), hl⟩
theorem rp_xp {n : Nat} (n1 : 1 ≤ n) (n5 : n ≤ 5) {X : List (List Nat)} {D : List Nat} (h : Vp n X D) (hX : X.length = n) {T : T3} (hT : Rp (X.map nL) n [] 0 T) : Xp n X T := ⟨n1, n5, hT.tv.tb, fun j d hj hd => by
  have hv := vp_sx h (j := j) (d := d) (by omega) hd
  have e1 : ro (X.map nL) j = nL (X.getD j []) := by simp [ro, List.getD, hX, hj]
  rw [hT.a j d (by omega) (by omega), if_pos hj, e1, if_pos (by rw [nL_len]; omega), nL_en (by omega)]; rfl, fun j d hj hd => (vp_sx h (by omega) hd).1⟩
def crx (n : Nat) (X : List (List Nat)) : List (List Nat) := (ext n n []).filter fun x => decide (sts X x).Nodup
theorem crs_all (n : Nat) (X : List (List Nat)) : crs n X n [] = crx n X := crs_ext n X n [] (by simp [sts])
theorem crx_le {n : Nat} (hn : n ≤ 5) (X : List (List Nat)) : (crx n X).length ≤ 3125 := by
  have h1 := ext_card (n := n) n []
  have h2 := pow5 (f := n) hn hn
  have h3 := List.length_filter_le (fun x => decide (sts X x).Nodup) (ext n n [])
  unfold crx; omega
theorem runC_eF : ∀ (l : List (List Nat)) (p : PV), runC eF l p = match l with | [] => (true, p) | x :: _ => (false, rwP (nL x))
  | [], _ => rfl
  | _ :: _, _ => rfl
theorem runC_eC : ∀ (l : List (List Nat)) (k : Nat), k + l.length ≤ 100000 → runC eC l (k : Int) = (true, ((k + l.length : Nat) : Int))
  | [], k, _ => rfl
  | x :: l, k, h => by
    rw [List.length_cons] at h
    show (if (eC x (k : Int)).1 then runC eC l (eC x (k : Int)).2 else _) = _
    simp only [eC, if_true]
    rw [wrapN (by omega), runC_eC l (k + 1) (by omega), List.length_cons, show k + 1 + l.length = k + (l.length + 1) by omega]
theorem has3_L (N : Nat) (s : Int) (X : List Int) (hX : X.length ≤ 1000) : ∀ (f i fuel : Nat), X.length - i = f → f < fuel → m92_3_L0 N X.length s (iL X) fuel (i : Int) = some (if s ∈ X.drop i then .inl (.bool true) else .inr ())
  | f, i, 0, _, h => by omega
  | f, i, fuel + 1, hf, hfu => by
    rw [m92_3_L0]
    by_cases h : i < X.length
    · have ih := has3_L N s X hX (f - 1) (i + 1) fuel (by omega) (by omega)
      rw [brn_dt (by omega)]
      simp (disch := (try simp only [List.length_drop, iL_len, rws_len, toNatN]) <;> omega) only [↓grd_t, ↓gI_n]
      rw [drop_en h]
      by_cases e : en X i = s
      · rw [brn_et e, if_pos (by rw [e]; exact .head _)]
      · rw [brn_ef e, wrapN (by omega), ih]
        by_cases g : s ∈ X.drop (i + 1)
        · rw [if_pos g, if_pos (.tail _ g)]
        · rw [if_neg g, if_neg]
          intro h2
          rcases List.mem_cons.1 h2 with h2 | h2
          · exact e h2.symm
          · exact g h2
    · rw [brn_df (by omega), List.drop_eq_nil_of_le (by omega)]; rfl
theorem has3_ok (N : Nat) (hN : 2000 ≤ N) (s : Int) (X : List Int) (hX : X.length ≤ 1000) : m92_3 N X.length s (iL X) = some (.bool (decide (s ∈ X))) := by
  have := has3_L N s X hX X.length 0 N (by omega) (by omega)
  rw [m92_3, show m92_3_L0 N X.length s (iL X) N 0 = _ from this, List.drop_zero, bnd_t]
  by_cases h : s ∈ X
  · rw [if_pos h, decide_eq_true h]
  · rw [if_neg h, decide_eq_false h]
theorem mem_nLs {A : List Nat} {s : Nat} : ((s : Int) ∈ nL A) ↔ s ∈ A := by
  unfold nL
  rw [List.mem_map]
  constructor
  · rintro ⟨t, ht, e⟩
    have : t = s := by omega
    exact this ▸ ht
  · exact fun h => ⟨s, h, rfl⟩
theorem rcr_L1 (N n : Nat) (hN : 5000 ≤ N) (n5 : n ≤ 5) (X : List (List Nat)) (D : List Nat) (hV : Vp n X D) (hX : X.length = n) (R : List (List Nat)) (hR : ∀ x ∈ R, x ∈ ext n n []) (k : Nat) (hk : k < R.length) (m : Nat) (kk : Int) (hkk : kk = (k : Int)) (cm : List PV) : ∀ (g i fuel : Nat) (A : List Nat), n - i = g → g < fuel → i ≤ n → A.length ≤ i →
    m77_L1 N n (rwsP (X.map nL)) R.length (rwsP (R.map nL)) m kk cm fuel A.length (i : Int) (iL (nL A)) = some ((ddp A ((List.range' i (n - i)).map fun j => sx X j (gn (R.getD k []) j))).length, iL (nL (ddp A ((List.range' i (n - i)).map fun j => sx X j (gn (R.getD k []) j)))))
  | g, i, 0, _, _, h, _, _ => by omega
  | g, i, fuel + 1, A, hg, hf, hi, hA => by
    subst hkk
    rw [m77_L1]
    by_cases h : i < n
    · have hm : R.getD k [] ∈ R := by simp [List.getD, hk]
      have he := hR _ hm
      have hl := (ext_get he).1
      rw [List.length_nil, Nat.zero_add] at hl
      have hd : gn (R.getD k []) i < n := ext_lt (by simp) he _ (gn_mem (by omega))
      have hv := vp_sx hV (j := i) (d := gn (R.getD k []) i) (by omega) hd
      have e1 : ro (R.map nL) k = nL (R.getD k []) := by simp [ro, List.getD, hk]
      have e2 : ro (X.map nL) i = nL (X.getD i []) := by simp [ro, List.getD, show i < X.length by omega]
      have l1 : (R.map nL).length = R.length := by simp
      have l2 : (X.map nL).length = X.length := by simp
      have hh := has3_ok N (by omega) (sx X i (gn (R.getD k []) i) : Int) (nL A) (by rw [nL_len]; omega)
      rw [nL_len] at hh
      rw [brn_dt (by omega), grd_t ⟨by omega, by omega⟩, toNatN, toNatN, grd_t (by rw [List.length_drop, rws_len, l2]; omega), rws_gp (by rw [l2]; omega), getL_t, e2, grd_t ⟨by omega, by omega⟩, grd_t (by rw [List.length_drop, rws_len, l1]; omega), rws_gp (by rw [l1]; exact hk), getL_t, e1, nL_len, nL_len, hl, hv.2, grd_t (by omega), grd_t (by rw [List.length_drop, iL_len, nL_len]; omega), iL_gp (by rw [nL_len]; omega), getI_t, nL_en (by omega), grd_t ⟨by omega, by omega⟩, toNatN, grd_t (by rw [List.length_drop, iL_len, nL_len]; omega), iL_gp (by rw [nL_len]; omega), getI_t, nL_en (by omega)]
      rw [show m92_3 N A.length ((gn (X.getD i []) (gn (R.getD k []) i) : Nat) : Int) (iL (nL A)) = _ from hh, bnd_t, getB_t, wrapN (by omega), range'_step h, List.map_cons]
      by_cases q : sx X i (gn (R.getD k []) i) ∈ A
      · rw [brn_dt (mem_nLs.2 q), ddp, if_pos q]
        exact rcr_L1 N n hN n5 X D hV hX R hR k hk m _ rfl cm (g - 1) (i + 1) fuel A (by omega) (by omega) (by omega) (by omega)
      · have ih := rcr_L1 N n hN n5 X D hV hX R hR k hk m _ rfl cm (g - 1) (i + 1) fuel (A ++ [sx X i (gn (R.getD k []) i)]) (by omega) (by omega) (by omega) (by simp; omega)
        rw [List.length_append, List.length_singleton, ← nL_app] at ih
        rw [brn_df (fun w => q (mem_nLs.1 w)), ddp, if_neg q, grd_t (by omega), grd_t (by rw [iL_len, nL_len])]
        exact ih
    · rw [brn_df (by omega), show n - i = 0 by omega]; rfl
theorem sts_full (X : List (List Nat)) {l : List Nat} {n : Nat} (h : l.length = n) : ((List.range' 0 (n - 0)).map fun j => sx X j (gn l j)) = sts X l := by
  rw [Nat.sub_zero, ← List.range_eq_range', sts, h]
theorem rcr_L0 (N n : Nat) (hN : 5000 ≤ N) (n5 : n ≤ 5) (X : List (List Nat)) (D : List Nat) (hV : Vp n X D) (hX : X.length = n) (R : List (List Nat)) (hRl : R.length ≤ 4000) (hR : ∀ x ∈ R, x ∈ ext n n []) : ∀ (f k fuel : Nat) (A : List (List Nat)), R.length - k = f → f < fuel → A.length ≤ k →
    m77_L0 N n (rwsP (X.map nL)) R.length (rwsP (R.map nL)) fuel A.length (k : Int) (rwsP (A.map nL)) = some ((A ++ (R.drop k).filter fun x => decide (sts X x).Nodup).length, rwsP ((A ++ (R.drop k).filter fun x => decide (sts X x).Nodup).map nL))
  | f, k, 0, _, _, h, _ => by omega
  | f, k, fuel + 1, A, hf, hfu, hA => by
    rw [m77_L0]
    by_cases h : k < R.length
    · have l1 : (R.map nL).length = R.length := by simp
      have e1 : ro (R.map nL) k = nL (R.getD k []) := by simp [ro, List.getD, h]
      have ed : R.drop k = R.getD k [] :: R.drop (k + 1) := by rw [List.drop_eq_getElem_cons h]; simp [List.getD, h]
      have hl := (ext_get (hR (R.getD k []) (by simp [List.getD, h]))).1
      rw [List.length_nil, Nat.zero_add] at hl
      have hw := rcr_L1 N n hN n5 X D hV hX R hR k h A.length (k : Int) rfl (rwsP (A.map nL)) n 0 N [] (by omega) (by omega) (by omega) (by simp)
      rw [sts_full X hl] at hw
      have hnd := ddp_nd (sts X (R.getD k [])) [] (by simp)
      rw [List.nil_append, sts_len, hl, List.length_nil, Nat.zero_add] at hnd
      rw [brn_dt (by omega), show m77_L1 N n (rwsP (X.map nL)) R.length (rwsP (R.map nL)) A.length (k : Int) (rwsP (A.map nL)) N 0 0 [] = _ from hw, bnd_t]
      dsimp only
      rw [ed, List.filter_cons, wrapN (by omega)]
      by_cases q : (sts X (R.getD k [])).Nodup
      · have ih := rcr_L0 N n hN n5 X D hV hX R hRl hR (f - 1) (k + 1) fuel (A ++ [R.getD k []]) (by omega) (by omega) (by simp; omega)
        have e4 : rwsP (A.map nL) ++ [rwP (nL (R.getD k []))] = rwsP ((A ++ [R.getD k []]).map nL) := by simp [rwsP]
        have hq := hnd.2 q
        rw [List.length_append, List.length_singleton, List.append_assoc, List.singleton_append] at ih
        rw [brn_et (by omega), grd_t ⟨by omega, by omega⟩, toNatN, grd_t (by rw [List.length_drop, rws_len, l1]; omega), rws_gp (by rw [l1]; exact h), getL_t, e1, grd_t (by omega), grd_t (by rw [rws_len, List.length_map]), if_pos (decide_eq_true q)]
        rw [show rwsP (A.map nL) ++ [PV.lst false (nL (R.getD k [])).length (iL (nL (R.getD k [])))] = _ from e4]
        exact ih
      · have hq : ¬ (ddp [] (sts X (R.getD k []))).length = n := fun w => q (hnd.1 w)
        rw [brn_ef (by omega), if_neg (by simpa using q)]
        exact rcr_L0 N n hN n5 X D hV hX R hRl hR (f - 1) (k + 1) fuel A (by omega) (by omega) (by omega)
    · rw [brn_df (by omega), List.drop_eq_nil_of_le (by omega)]; simp
theorem rcr_ok (N n : Nat) (hN : 5000 ≤ N) (n5 : n ≤ 5) (X : List (List Nat)) (D : List Nat) (hV : Vp n X D) (hX : X.length = n) : m77 N (.lst false n (rwsP (X.map nL))) = some (.lst false (crx n X).length (rwsP ((crx n X).map nL))) := by
  have hc := ext_card (n := n) n []
  have hp := pow5 (f := n) n5 n5
  have hr := rows_ok N n hN n5 n N [] (by simp) (by omega)
  have h0 := rcr_L0 N n hN n5 X D hV hX (ext n n []) (by omega) (fun x hx => hx) _ 0 N [] rfl (by omega) (by simp)
  rw [List.drop_zero, List.nil_append] at h0
  rw [m77, getL_t, show m91 N N (n : Int) (.lst false 0 []) = _ from hr, bnd_t, getL_t, show m77_L0 N n (rwsP (X.map nL)) (ext n n []).length (rwsP ((ext n n []).map nL)) N 0 0 [] = _ from h0, bnd_t]
  dsimp only
  rw [grd_t (by rw [rws_len, List.length_map])]; rfl
theorem getN_l {α : Type} {n : Nat} {c : List PV} {a : Option α} {f : Nat → List PV → Option α} : getN (.lst false n c) a f = f n c := rfl
def c1E (x : Int) (L : List (List Int)) (R : List (List Nat)) : List Int × Int := if chkE x x L ≠ 0 then ([], chkE x x L) else if (L.length : Int) < x then ([], 21) else match R with | [] => ([], 12) | y :: _ => (nL y, 0)
def c2E (x : Int) (L : List (List Int)) (R : List (List Nat)) : Int × Int := if chkE x x L ≠ 0 then (0, chkE x x L) else if (L.length : Int) < x then (0, 21) else ((R.length : Nat), 0)
theorem cross_ok (N : Nat) (hN : 5000 ≤ N) (x : Int) (L : List (List Int)) (hL : L.length ≤ 1000) (hr : ∀ r ∈ L, r.length ≤ 1000) : ∃ R : List (List Nat), R.length ≤ 3125 ∧ (∀ y ∈ R, (1 : Int) ≤ x ∧ y.length ≤ 5 ∧ 0 < y.length) ∧
    m33 N x (.lst false L.length (rwsP L)) = some (.tup [rwP (c1E x L R).1, .int .i64 (c1E x L R).2]) ∧ m34 N x (.lst false L.length (rwsP L)) = some (.tup [rwP (c1E x L R).1, .int .i64 (c1E x L R).2]) ∧
    m35 N x (.lst false L.length (rwsP L)) = some (.tup [.int .i64 (c2E x L R).1, .int .i64 (c2E x L R).2]) ∧ m36 N x (.lst false L.length (rwsP L)) = some (.tup [.int .i64 (c2E x L R).1, .int .i64 (c2E x L R).2]) := by
  obtain ⟨T, e, hT⟩ := opened_ok N (by omega) x x L hL hr
  have hc := (check_ok N (by omega) x L hL hr).2
  by_cases h : chkE x x L = 0
  · obtain ⟨h1, h2, h3, h4⟩ := chkE_zero h
    rw [h] at e hc
    by_cases h5 : (L.length : Int) < x
    · refine ⟨[], by simp, (fun y hy => nomatch hy), ?_, ?_, ?_, ?_⟩
      · rw [m33, getL_t, m74, getL_t, e, bnd_t]
        unfold opE
        rw [if_pos rfl]
        unfold c1E
        rw [h, if_neg (by simp), if_pos h5]
        dsimp only
        rw [brn_nf rfl, brn_dt h5, bnd_t]
        rfl
      · rw [m34, getL_t, m76, getL_t, hc, bnd_t, getI_t, brn_et rfl, brn_dt h5, bnd_t, getI_t]
        unfold c1E
        rw [h, if_neg (by simp), if_pos h5]
        rfl
      · rw [m35, getL_t, m74_2, getL_t, e, bnd_t]
        unfold opE
        rw [if_pos rfl]
        unfold c2E
        rw [h, if_neg (by simp), if_pos h5]
        dsimp only
        rw [brn_nf rfl, brn_dt h5, bnd_t]
        rfl
      · rw [m36, getL_t, m76, getL_t, hc, bnd_t, getI_t, brn_et rfl, brn_dt h5, bnd_t, getI_t]
        unfold c2E
        rw [h, if_neg (by simp), if_pos h5]
        rfl
    · obtain ⟨n, rfl⟩ : ∃ n : Nat, x = (n : Int) := ⟨x.toNat, by omega⟩
      obtain ⟨X, D, hV, rfl⟩ := plan_ok h
      have hlen : (X.map nL).length = X.length := List.length_map ..
      have hX : X.length = n := by omega
      have hT' := hT h []
      rw [hlen] at e hT' hc ⊢
      rw [hX] at e hT' hc ⊢
      have hxp := rp_xp (by omega) (by omega) hV hX hT'
      have hq := rcr_ok N n hN (by omega) X D hV hX
      have hle := crx_le (n := n) (by omega) X
      refine ⟨crx n X, hle, fun y hy => ⟨h1, ?_⟩, ?_, ?_, ?_, ?_⟩
      · have := (ext_get (List.mem_filter.1 hy).1).1
        rw [List.length_nil] at this; omega
      · rw [m33, getL_t, m74, getL_t, e, bnd_t]
        unfold opE
        rw [if_pos rfl]
        unfold c1E
        rw [h, if_neg (by simp), if_neg (by omega), toNatN]
        dsimp only
        rw [brn_nf rfl, brn_df (by omega), wxm94_2_ok N n hN X T hxp .nl, crs_all, runC_eF, bnd_t]
        cases hcx : crx n X with
        | nil => dsimp only; rw [getB_t, bnd_t]; rfl
        | cons y l =>
          have hy := (ext_get (List.mem_filter.1 (show y ∈ (ext n n []).filter _ from hcx ▸ List.Mem.head _)).1).1
          rw [List.length_nil] at hy
          dsimp only
          rw [getB_t, bnd_t]
          dsimp only
          rw [getI_t, brn_et rfl]
          unfold rwP
          rw [getN_l, grd_t (by rw [nL_len]; omega)]
      · rw [m34, getL_t, m76, getL_t, hc, bnd_t, getI_t, brn_et rfl, brn_df (by omega), bnd_t, getI_t, brn_nf rfl, hq, bnd_t, getL_t]
        unfold c1E
        rw [h, if_neg (by simp), if_neg (by omega)]
        cases hcx : crx n X with
        | nil => rfl
        | cons y l =>
          rw [brn_ef (by simp only [List.length_cons]; omega), grd_t (by simp only [List.length_cons]; omega), grd_t (by simp [rwsP])]
          rfl
      · rw [m35, getL_t, m74_2, getL_t, e, bnd_t]
        unfold opE
        rw [if_pos rfl]
        unfold c2E
        rw [h, if_neg (by simp), if_neg (by omega), toNatN]
        dsimp only
        have hk := runC_eC (crx n X) 0 (by omega)
        rw [Nat.zero_add] at hk
        rw [brn_nf rfl, brn_df (by omega), wxm94_5_ok N n hN X T hxp 0, crs_all, show runC eC (crx n X) 0 = _ from hk, bnd_t]
        rfl
      · rw [m36, getL_t, m76, getL_t, hc, bnd_t, getI_t, brn_et rfl, brn_df (by omega), bnd_t, getI_t, brn_nf rfl, hq, bnd_t, getL_t]
        unfold c2E
        rw [h, if_neg (by simp), if_neg (by omega)]
  · refine ⟨[], by simp, (fun y hy => nomatch hy), ?_, ?_, ?_, ?_⟩
    · rw [m33, getL_t, m74, getL_t, e, bnd_t]
      unfold opE c1E
      rw [if_pos h]
      simp only [if_neg h]
      rw [brn_nt h, bnd_t]
      dsimp only
      rw [getI_t, brn_ef h, getN_l]; rfl
    · rw [m34, getL_t, m76, getL_t, hc, bnd_t, getI_t, brn_ef h, bnd_t, getI_t, brn_nt h]
      unfold c1E
      rw [if_pos h]; rfl
    · rw [m35, getL_t, m74_2, getL_t, e, bnd_t]
      unfold opE c2E
      rw [if_pos h]
      simp only [if_neg h]
      rw [brn_nt h, bnd_t]
      dsimp only
      rw [getI_t]
    · rw [m36, getL_t, m76, getL_t, hc, bnd_t, getI_t, brn_ef h, bnd_t, getI_t, brn_nt h]
      unfold c2E
      rw [if_pos h]
def rndE (n : Nat) : List (List Int) := (List.range n).map fun i => (List.range n).map fun j => (((i + j) % n : Nat) : Int)
set_option maxRecDepth 100000 in
theorem rnd_1 : m31 5000 1 = some (.tup [.lst false 1 (rwsP (rndE 1)), .int .i64 0]) ∧ m32 5000 1 = some (.tup [.lst false 1 (rwsP (rndE 1)), .int .i64 0]) := ⟨by kernel_rfl, by kernel_rfl⟩
set_option maxRecDepth 100000 in
theorem rnd_2 : m31 5000 2 = some (.tup [.lst false 2 (rwsP (rndE 2)), .int .i64 0]) ∧ m32 5000 2 = some (.tup [.lst false 2 (rwsP (rndE 2)), .int .i64 0]) := ⟨by kernel_rfl, by kernel_rfl⟩
set_option maxRecDepth 100000 in
theorem rnd_3 : m31 5000 3 = some (.tup [.lst false 3 (rwsP (rndE 3)), .int .i64 0]) ∧ m32 5000 3 = some (.tup [.lst false 3 (rwsP (rndE 3)), .int .i64 0]) := ⟨by kernel_rfl, by kernel_rfl⟩
set_option maxRecDepth 100000 in
theorem rnd_4 : m31 5000 4 = some (.tup [.lst false 4 (rwsP (rndE 4)), .int .i64 0]) ∧ m32 5000 4 = some (.tup [.lst false 4 (rwsP (rndE 4)), .int .i64 0]) := ⟨by kernel_rfl, by kernel_rfl⟩
set_option maxRecDepth 100000 in
theorem rnd_5 : m31 5000 5 = some (.tup [.lst false 5 (rwsP (rndE 5)), .int .i64 0]) ∧ m32 5000 5 = some (.tup [.lst false 5 (rwsP (rndE 5)), .int .i64 0]) := ⟨by kernel_rfl, by kernel_rfl⟩
theorem fullx_ok (N n : Nat) (hN : 5000 ≤ N) (hn1 : 1 ≤ n) (hn : n ≤ 5) (X : List (List Nat)) (D : List Nat) (h : Vp n X D) (hX : X.length ≤ n) :
    m29 N (n : Int) (.lst false X.length (rwsP (X.map nL))) = some (.tup [.lst false n (rwsP ((gre n (n - X.length) X).map nL)), .int .i64 0]) := by
  have hl := vp_len h
  have hlen : (X.map nL).length = X.length := List.length_map ..
  have hc := vp_chk hn1 hn h hX
  obtain ⟨T, e, hT⟩ := opened_ok N (by omega) (n : Int) (n : Int) (X.map nL) (by omega) (fun r hr => by rw [hl r hr]; omega)
  rw [hc] at e hT
  have hT' := hT rfl
  rw [hlen] at e hT'
  obtain ⟨D', hg⟩ := gre_vp hn1 hn (n - X.length) h (by omega)
  have hgl := gre_len n (n - X.length) X
  obtain ⟨T1, R, c1, c2⟩ := full_hd hn1 hn (n - X.length) X D T h (by omega) hT' 100 (by
    have : (n - X.length) * (n + 1) ≤ 5 * 6 := Nat.mul_le_mul (by omega) (by omega)
    omega)
  have hsk := cmpl_skip n X.length hX T (fun i k hi hk => by
    rw [(hT' []).a i k (by omega) (by omega), if_pos hi]
    obtain ⟨r1, r2⟩ := vp_rows hn h i hi
    rw [if_pos (by omega)]
    exact (dayE_zero r2 k (by omega) (by omega)).1) 100 0 0 100 (by
      have : (n - 0) * (n + 1) ≤ 5 * 6 := Nat.mul_le_mul (by omega) (by omega)
      omega) (by
      have : (n - X.length) * (n + 1) ≤ 5 * 6 := Nat.mul_le_mul (by omega) (by omega)
      omega) (by omega) (by omega) (fun _ => rfl)
  have c := one_ok N n n 0 n (by omega) (by omega) (by omega) false (List.replicate 25 0) (by simp) 100 N 0 0 T (hT' []).tv (by omega) (by
      have : (n - 0) * (n + 1) ≤ 5 * 6 := Nat.mul_le_mul (by omega) (by omega)
      omega) (by omega) (by omega)
  rw [hsk, c1] at c
  have sg := search_one N n hN 0 n (List.replicate 25 0) (by simp) T _ c
  have hT2 : T1.1.length = 25 := (c2 []).tv.tb.la
  have hro := full_rows hn (L := (gre n (n - X.length) X).map nL) (by rw [List.length_map, hgl]; omega) (vp_len hg) c2
  rw [m29, getL_t, e, bnd_t]
  unfold opE
  rw [if_pos rfl]
  dsimp only
  rw [brn_nf rfl, toNatN]
  show bnd' (m64 N (tP n T) (oneP 0 n false (List.replicate 25 0))) _ = _
  rw [sg, bnd_t]
  show getT0 (.tup []) _ = _
  rw [getT0_t]
  show grd (28 ≤ List.length (oneP 0 n true T1.1)) _ = _
  rw [grd_t (by simp [oneP, iL_len, hT2]), show List.take 25 (List.drop 3 (oneR n 0 n false (List.replicate 25 0) T (T1 :: R)).2.1) = iL T1.1 from oneP_A _ _ _ _ hT2, rows_ok' N n hN hn1 hn T1.1 hT2, bnd_t, getL_t, hro]
theorem full_both (x : Int) (L : List (List Int)) (hL : L.length ≤ 1000) (hr : ∀ r ∈ L, r.length ≤ 1000) : ∃ (F : List (List Int)) (er : Int), F.length ≤ 1000 ∧ (∀ r ∈ F, r.length ≤ 1000) ∧
    m29 5000 x (.lst false L.length (rwsP L)) = some (.tup [.lst false F.length (rwsP F), .int .i64 er]) ∧ m30 5000 x (.lst false L.length (rwsP L)) = some (.tup [.lst false F.length (rwsP F), .int .i64 er]) := by
  obtain ⟨T, e, hT⟩ := opened_ok 5000 (by omega) x x L hL hr
  have hc := (check_ok 5000 (by omega) x L hL hr).2
  by_cases h : chkE x x L = 0
  · obtain ⟨h1, h2, h3, h4⟩ := chkE_zero h
    obtain ⟨n, rfl⟩ : ∃ n : Nat, x = (n : Int) := ⟨x.toNat, by omega⟩
    obtain ⟨X, D, hV, rfl⟩ := plan_ok h
    have hlen : (X.map nL).length = X.length := List.length_map ..
    obtain ⟨D', hg⟩ := gre_vp (by omega) (by omega) (n - X.length) hV (by omega)
    have hgl : ((gre n (n - X.length) X).map nL).length = n := by rw [List.length_map, gre_len]; omega
    have hfx := fullx_ok 5000 n (by omega) (by omega) (by omega) X D hV (by omega)
    have hcp := copy_ok 5000 (by omega) (X.map nL) (by omega) hr
    have hgr := gre_L 5000 n (by omega) (by omega) (by omega) (n - X.length) 5000 X D (by omega) hV (by omega)
    rw [hlen] at hcp hc ⊢
    refine ⟨(gre n (n - X.length) X).map nL, 0, by omega, fun r hr => by rw [vp_len hg r hr]; omega, ?_, ?_⟩
    · rw [hgl]; exact hfx
    · rw [m30, getL_t, hc, bnd_t, getI_t, brn_nf h, m70, getL_t, hcp, bnd_t]
      dsimp only
      rw [hgr, bnd_t]
      dsimp only
      rw [grd_t (by rw [rws_len]; exact hgl), bnd_t, getL_t, hgl]
  · refine ⟨[], chkE x x L, by simp, by simp, ?_, ?_⟩
    · rw [m29, getL_t, e, bnd_t]
      unfold opE
      simp only [if_neg h]
      rw [brn_nt h]; rfl
    · rw [m30, getL_t, hc, bnd_t, getI_t, brn_nt h]; rfl
theorem rnd_both (x : Int) : ∃ (F : List (List Int)) (er : Int), F.length ≤ 1000 ∧ (∀ r ∈ F, r.length ≤ 1000) ∧ m31 5000 x = some (.tup [.lst false F.length (rwsP F), .int .i64 er]) ∧ m32 5000 x = some (.tup [.lst false F.length (rwsP F), .int .i64 er]) := by
  by_cases h1 : x < 1
  · refine ⟨[], 1, by simp, by simp, ?_, ?_⟩
    · rw [m31, brn_dt h1]; rfl
    · have : m73 5000 x 1 5 = some (.bool false) := by
        unfold m73
        rw [brn_df (by omega)]
      rw [m32, this, bnd_t, getB_t, brn_f rfl]; rfl
  · by_cases h2 : 5 < x
    · refine ⟨[], 1, by simp, by simp, ?_, ?_⟩
      · rw [m31, brn_df h1, brn_dt h2]; rfl
      · have : m73 5000 x 1 5 = some (.bool false) := by
          unfold m73
          rw [brn_dt (by omega), decide_eq_false (by omega)]
        rw [m32, this, bnd_t, getB_t, brn_f rfl]; rfl
    · have hx : x = 1 ∨ x = 2 ∨ x = 3 ∨ x = 4 ∨ x = 5 := by omega
      rcases hx with rfl | rfl | rfl | rfl | rfl
      · exact ⟨rndE 1, 0, by decide, by decide, rnd_1.1, rnd_1.2⟩
      · exact ⟨rndE 2, 0, by decide, by decide, rnd_2.1, rnd_2.2⟩
      · exact ⟨rndE 3, 0, by decide, by decide, rnd_3.1, rnd_3.2⟩
      · exact ⟨rndE 4, 0, by decide, by decide, rnd_4.1, rnd_4.2⟩
      · exact ⟨rndE 5, 0, by decide, by decide, rnd_5.1, rnd_5.2⟩
theorem law4 (x : Int) (L : List (List Int)) : m4 5000 x (.lst false L.length (rwsP L)) = some (.bool true) := by
  rw [m4, getL_t, large_ok 5000 (by omega) L, bnd_t, getB_t]
  cases hl : lgL L with
  | true => rfl
  | false =>
    have hb : L.length ≤ 1000 ∧ ∀ r ∈ L, r.length ≤ 1000 := by
      simp only [lgL, Bool.or_eq_false_iff, decide_eq_false_iff_not] at hl
      refine ⟨by omega, fun r hr => ?_⟩
      have := List.any_eq_false.1 hl.2 r hr
      simp at this; omega
    obtain ⟨h1, h2⟩ := hb
    obtain ⟨F, e1, f1, f2, f3, f4⟩ := full_both x L h1 h2
    obtain ⟨G, e2, g1, g2, g3, g4⟩ := rnd_both x
    obtain ⟨R, r1, r2, r3, r4, r5, r6⟩ := cross_ok 5000 (by omega) x L h1 h2
    have hc : (c1E x L R).1.length ≤ 1000 := by
      unfold c1E
      split
      · simp
      · split
        · simp
        · split
          · simp
          · rename_i y l
            have := (r2 y (.head _)).2.1
            rw [nL_len]; omega
    have s1 := lsame_ok 5000 (by omega) F f1 f2
    have s2 := lsame_ok 5000 (by omega) G g1 g2
    have s3 := isame_ok 5000 (by omega) (c1E x L R).1 hc
    have m16t : m16 5000 = some (.bool true) := rfl
    unfold rwP at r3 r4
    rw [brn_f rfl, f3, bnd_t, getT2_t, getL_t, getI_t, f4, bnd_t, getT2_t, getL_t, getI_t, g3, bnd_t, getT2_t, getL_t, getI_t, g4, bnd_t, getT2_t, getL_t, getI_t, s1, bnd_t, getB_t, brn_t rfl, brn_nf rfl, s2, bnd_t, getB_t, brn_t rfl, brn_nf rfl,
      r3, bnd_t, getT2_t, getL_t, getI_t, r4, bnd_t, getT2_t, getL_t, getI_t, r5, bnd_t, getT2_t, getI_t, getI_t, r6, bnd_t, getT2_t, getI_t, getI_t, s3, bnd_t, getB_t, brn_t rfl, brn_et rfl, brn_et rfl, brn_et rfl, m16t, bnd_t, getB_t]
end Go.Proofs.YtcaecfofgdogbaaDoor
namespace Go.Proofs.YtcaecfofgdogbaaDoor
open Go.V
theorem row_of {x : List PV} (h : PT tab 28 x) : ∃ (y : PV) (r : List Int), x = [y] ∧ PLe y (rwP r) := by
  rcases h.slice' tl28 rfl with h | ⟨xs, h, hx⟩
  · exact ⟨.nl, [], h, .nl false⟩
  · obtain ⟨L, h1, h2, _⟩ := opened (fun p : Int => [PV.int .i64 p]) (fun x => PT tab 3 x) (fun _ => True)
      (fun x hx => by obtain ⟨n, e, _⟩ := hx.int' tl3 rfl; exact ⟨n, e, trivial⟩) xs hx
    refine ⟨_, L, h, ?_⟩
    rw [h2, ← h1]
    have : L.flatMap (fun p : Int => [PV.int .i64 p]) = iL L := by
      clear h1 h2
      induction L with
      | nil => rfl
      | cons a L ih => simpa [iL] using ih
    rw [this]
    exact .refl _
theorem rows_of' : ∀ (xs : List (List PV)), (∀ x ∈ xs, PT tab 28 x) → ∃ L : List (List Int), L.length = xs.length ∧ PLes xs.flatten (rwsP L)
  | [], _ => ⟨[], rfl, .nil⟩
  | x :: xs, h => by
    obtain ⟨L, h1, h2⟩ := rows_of' xs fun y hy => h y (.tail _ hy)
    obtain ⟨y, r, rfl, hr⟩ := row_of (h x (.head _))
    exact ⟨r :: L, by simp [h1], .cons _ _ _ _ hr h2⟩
theorem rows_of {x : PV} (h : PT tab 22 [x]) : ∃ L : List (List Int), PLe x (.lst false L.length (rwsP L)) := by
  rcases h.slice' tl22 rfl with h | ⟨xs, h, hx⟩
  · cases h; exact ⟨[], .nl false⟩
  · cases h
    obtain ⟨L, h1, h2⟩ := rows_of' xs hx
    refine ⟨L, ?_⟩
    rw [h1]
    exact .lst false false _ _ _ (fun h => h) h2
theorem con4 (x0 : PV) (h0 : PT tab 3 [x0]) (x1 : PV) (h1 : PT tab 22 [x1]) : FnP Tryd.prog 4 [x0, x1] (.bool true) := by
  obtain ⟨n, e, _⟩ := h0.int' tl3 rfl
  cases e
  obtain ⟨L, hL⟩ := rows_of h1
  exact FnP_le (c4 5000 _ _ _ (law4 n L)) (.cons _ _ _ _ (.refl _) (.cons _ _ _ _ hL .nil)) (.refl _)
end Go.Proofs.YtcaecfofgdogbaaDoor
namespace Go.Proofs.YtcaecfofgdogbaaDoor.weekFulls
open Go.ChangeShapes Go.WideShapes Go.ChangeAt Go.RowKit Go.V
theorem own : ownKnob Tryd.prog.godebug = none := by kernel_rfl
theorem laid : laidOutB Tryd.prog = true := by kernel_rfl
set_option maxRecDepth 100000 in
theorem lifted (os : Os) (started : os.Started) (H : Type) (enc : TypeId × Value → H) :
    ReturnsInHanded {} Tryd.checked os 4 .any (fun w args => (Rows.weekFullsSpec.pre enc Tryd.prog Tryd.f4 [] false w args ∧ laidMetH Tryd.prog [("math/bits.deBruijn32tab", Rows.laid_math_bits_deBruijn32tab), ("math/bits.deBruijn64tab", Rows.laid_math_bits_deBruijn64tab)] w) ∧ sizedMet enc Tryd.prog Tryd.f4 (OpenSpec.ofChange Rows.weekFullsSpec) false w args)
      (Rows.weekFullsSpec.post enc Tryd.prog Tryd.f4 false true false false) := by
  refine returnsInHanded_of_change_and (C := Tryd.checked) (X := fun w _ => laidMetH Tryd.prog [("math/bits.deBruijn32tab", Rows.laid_math_bits_deBruijn32tab), ("math/bits.deBruijn64tab", Rows.laid_math_bits_deBruijn64tab)] w) (fun _ _ _ hh h => h.of_heap hh) own started (by kernel_rfl) Tryd.func4
    (ChangeSpec.witness_shaped (enc := enc) (C := Tryd.checked) (os := os) (X := fun w _ => laidMetH Tryd.prog [("math/bits.deBruijn32tab", Rows.laid_math_bits_deBruijn32tab), ("math/bits.deBruijn64tab", Rows.laid_math_bits_deBruijn64tab)] w) false (World.laidAll Tryd.prog os [("math/bits.deBruijn32tab", Rows.laid_math_bits_deBruijn32tab), ("math/bits.deBruijn64tab", Rows.laid_math_bits_deBruijn64tab)]) #[.int .i64 0, .slice none 0 0] 8 (World.laidAll_os _ _ _)
      (World.shaped_of_ZipB (by kernel_rfl) (by kernel_rfl)) (by kernel_rfl) (by kernel_rfl) (by kernel_rfl)
      (by rw [MakeChecks.laidMetH_plain _ _ _ (by kernel_rfl)]; exact laidMet_laidAll _ (by kernel_rfl) (by kernel_rfl))) ?_
  intro W base args ds gs before hval0 hW _ _ hL _
  have hW' := hW
  obtain ⟨p, q, hA0, hV, rfl, hfz, hnd⟩ := hW
  have hA : DataW.TrodAll enc Tryd.prog W 0 (fun _ => true) true Tryd.f4.params.toList args.toList ds p := hA0
  rw [Tryd.params4] at hA
  obtain ⟨v0, vs0, d0, ds0, p0, q0, e0, rfl, rfl, h0, hr0⟩ := trodAll_cons hA
  obtain ⟨v1, vs1, d1, ds1, p1, q1, e1, rfl, rfl, h1, hr1⟩ := trodAll_cons hr0
  obtain ⟨rfl, rfl, rfl⟩ := trodAll_nil hr1
  subst e1
  obtain rfl : args = #[v0, v1] := by cases args; simp_all
  obtain ⟨x0, k0, t0⟩ := arg_one (n := 8) tab_ok (hval0 0 3 v0 rfl rfl) h0 (by kernel_rfl) (by kernel_rfl)
  obtain ⟨x1, k1, t1⟩ := arg_one (n := 8) tab_ok (hval0 1 22 v1 rfl rfl) h1 (by kernel_rfl) (by kernel_rfl)
  obtain ⟨rfl, rfl⟩ := trodVars_none hV
  clear hA0 hval0
  simp only [List.append_nil] at hW'
  refine (FnP.calls (W := W) (vals := #[v0, v1]) (con4 x0 t0 x1 t1) (.cons _ _ _ _ k0 (.cons _ _ _ _ k1 .nil)) (laidG hL)).mono fun e W' ⟨he, hg⟩ => ?_
  subst he
  exact ⟨_, rfl, post_of_kept (pv := []) hW' (fun _ _ _ => trodAll_cons_mk (shut_bool Tryd.underlying4 _) trodAll_mk0) (fun sp hsp => trodAll_cons_mk (Kept.trod hg laid (by kernel_rfl) (of_decide_eq_true (by kernel_rfl)) h0 (fun y hy => hsp y (by simp [hy]))) (trodAll_cons_mk (Kept.trod hg laid (by kernel_rfl) (of_decide_eq_true (by kernel_rfl)) h1 (fun y hy => hsp y (by simp [hy]))) (trodAll_mk0))) (fun _ _ => rfl) (by simp)
    hg (ok_one (by kernel_rfl) rfl (okWide_bool_mk Tryd.underlying4 _))⟩
theorem over : Rows.weekFullsRow.holds Tryd.pinned (OpenSpec.ofChange Rows.weekFullsSpec) :=
  OpenClaim.holds_of_wide 4 Tryd.f4 rfl rfl rfl rfl rfl rfl rfl ⟨rfl, rfl, rfl, rfl, rfl⟩ rfl rfl rfl rfl rfl (by kernel_rfl) Tryd.func4 (by kernel_rfl)
    (of_decide_eq_true (by kernel_rfl)) (by unfold Func.isWrapper; first | (rw [if_pos (by decide +kernel)]; kernel_rfl) | (rw [if_neg (by decide +kernel)]; exact ⟨rfl, rfl⟩))
    (fun os started H enc _ => lifted os started H enc)
theorem card : Rows.WeekFullsCardSaid :=
  Claim7.holds_tied_plain_at .later [] [.data, .data] true (true, "b10945a5c0c6bbe518806a5b2982a3effa3ad2c65afd0553d66b8bf8a483c2f3") true (over) (fun _ h => by cases h) (by kernel_rfl) (fun _ h => by cases h) weekFulls_row_tie rfl ⟨rfl, rfl⟩ (by kernel_rfl) rfl
    (fun f fn hf hfn => by
      obtain rfl : f = 4 := Option.some.inj ((show Tryd.prog.funcNamed "breeze/breezelaw03.WeekFulls" = some 4 by kernel_rfl).symm.trans hf) |>.symm
      obtain rfl : fn = Tryd.f4 := (Option.some.inj (Tryd.func4.symm.trans hfn)).symm
      exact ⟨by kernel_rfl, fun j t ht => by
        rw [Tryd.params4] at ht
        rcases j with _ | _ | j
        · obtain rfl : t = 3 := by simpa using ht.symm
          exact (show Tryd.prog.wantsStandIn 3 = false by kernel_rfl)
        · obtain rfl : t = 22 := by simpa using ht.symm
          exact (show Tryd.prog.wantsStandIn 22 = false by kernel_rfl)
        · simp at ht⟩)
    (by kernel_rfl)
end Go.Proofs.YtcaecfofgdogbaaDoor.weekFulls
namespace Go.Proofs.YtcaecfofgdogbaaDoor
/-- the statement -/
theorem weekFulls_holds : Rows.WeekFullsCardSaid := weekFulls.card
#print axioms weekFulls_holds
end Go.Proofs.YtcaecfofgdogbaaDoor
