/-
  WeekEven: the law returns true.
-/
import Derived.Test.YtcaecfofgdogbaaDoorE2Wopen
import Derived.Test.YtcaecfofgdogbaaDoorE2WeK
import Derived.KernelRfl
import Derived.Test.YtcaecfofgdogbaaDoorE2V32
import Derived.Test.YtcaecfofgdogbaaDoorRows
import Derived.Test.YtcaecfofgdogbaaDoorCards
import Derived.Test.YtcaecfofgdogbaaDoorTie
import Derived.Test.YtcaecfofgdogbaaDoorE2V31
import Derived.WalkKit
import Derived.ProofKit
import Derived.OpenShut
import Derived.Lay
import Derived.SevenTiedAt
import Derived.MakeChecks
set_option linter.unusedSimpArgs false
set_option linter.unusedVariables false
namespace Go.Proofs.YtcaecfofgdogbaaDoor
open Go.V
set_option linter.unusedSectionVars false
def ext (n : Nat) : Nat → List Nat → List (List Nat)
  | 0, l => [l]
  | f + 1, l => (List.range n).flatMap fun s => if s ∈ l then [] else ext n f (l ++ [s])
def nL (l : List Nat) : List Int := l.map fun (s : Nat) => (s : Int)
def gn (l : List Nat) (d : Nat) : Nat := l.getD d 0
def fitB (P : List (List Int)) (l : List Nat) : Nat → Nat → Bool
  | 0, _ => true
  | f + 1, d => !metB P d (gn l d : Nat) && fitB P l f (d + 1)
theorem nL_len (l : List Nat) : (nL l).length = l.length := by simp [nL]
theorem nL_en {l : List Nat} {d : Nat} (h : d < l.length) : en (nL l) d = (gn l d : Int) := by
  simp [nL, en, gn, List.getD, h]
theorem gn_app1 {l m : List Nat} {d : Nat} (h : d < l.length) : gn (l ++ m) d = gn l d := by
  simp [gn, List.getD, List.getElem?_append_left h]
theorem ext_get {n : Nat} : ∀ {f : Nat} {l x : List Nat}, x ∈ ext n f l → x.length = l.length + f ∧ (∀ d, d < l.length → gn x d = gn l d)
  | 0, l, x, h => by
    obtain rfl := List.mem_singleton.1 h
    exact ⟨rfl, fun _ _ => rfl⟩
  | f + 1, l, x, h => by
    rw [ext, List.mem_flatMap] at h
    obtain ⟨s, hs, h⟩ := h
    by_cases g : s ∈ l
    · rw [if_pos g] at h; cases h
    · rw [if_neg g] at h
      obtain ⟨h1, h2⟩ := ext_get h
      rw [List.length_append, List.length_singleton] at h1 h2
      exact ⟨by omega, fun d hd => by rw [h2 d (by omega), gn_app1 hd]⟩
theorem ext_lt {n : Nat} : ∀ {f : Nat} {l x : List Nat}, (∀ s ∈ l, s < n) → x ∈ ext n f l → ∀ s ∈ x, s < n
  | 0, l, x, hl, h => by
    obtain rfl := List.mem_singleton.1 h
    exact hl
  | f + 1, l, x, hl, h => by
    rw [ext, List.mem_flatMap] at h
    obtain ⟨s, hs, h⟩ := h
    by_cases g : s ∈ l
    · rw [if_pos g] at h; cases h
    · rw [if_neg g] at h
      refine ext_lt (fun t ht => ?_) h
      rcases List.mem_append.1 ht with ht | ht
      · exact hl t ht
      · obtain rfl := List.mem_singleton.1 ht
        exact List.mem_range.1 hs
theorem flen_le {α β : Type} {b : Nat} {g : α → List β} : ∀ (L : List α), (∀ x ∈ L, (g x).length ≤ b) → (L.flatMap g).length ≤ L.length * b
  | [], _ => by simp
  | x :: L, h => by
    have h1 := h x (.head _)
    have ih := flen_le L fun y hy => h y (.tail _ hy)
    rw [List.flatMap_cons, List.length_append, List.length_cons, Nat.add_mul, Nat.one_mul]; omega
theorem ext_card {n : Nat} : ∀ (f : Nat) (l : List Nat), (ext n f l).length ≤ n ^ f
  | 0, l => by simp [ext]
  | f + 1, l => by
    have := flen_le (b := n ^ f) (g := fun s => if s ∈ l then [] else ext n f (l ++ [s])) (List.range n) (fun s _ => by
      by_cases g : s ∈ l
      · simp only [if_pos g]; simp
      · simp only [if_neg g]; exact ext_card f _)
    rw [List.length_range] at this
    rw [ext, Nat.pow_succ, Nat.mul_comm]; exact this
theorem pow5 {n f : Nat} (hn : n ≤ 5) (hf : f ≤ 5) : n ^ f ≤ 3125 := by
  have h : ∀ n : Nat, n < 6 → ∀ f : Nat, f < 6 → n ^ f ≤ 3125 := by decide
  exact h n (by omega) f (by omega)
theorem Rp.congr {P : List (List Int)} {i k : Nat} {r r' : List Int} {T : T3} (h : Rp P i r k T) (h1 : r.take k = r'.take k) (h2 : ∀ d, d < k → en r d = en r' d) : Rp P i r' k T := by
  refine ⟨h.tv, fun s hs => by rw [← h1]; exact h.b s hs, h.bz, fun d s hd hs => ?_, fun j d hj hd => ?_⟩
  · rw [h.d d s hd hs]
    constructor
    · rintro (h3 | h3)
      · exact .inl h3
      · exact .inr ⟨h3.1, by rw [← h2 d h3.1]; exact h3.2⟩
    · rintro (h3 | h3)
      · exact .inl h3
      · exact .inr ⟨h3.1, by rw [h2 d h3.1]; exact h3.2⟩
  · rw [h.a j d hj hd]
    by_cases h3 : j < i
    · rw [if_pos h3, if_pos h3]
    · rw [if_neg h3, if_neg h3]
      by_cases h4 : j = i ∧ d < k
      · rw [if_pos h4, if_pos h4, h2 d h4.2]
      · rw [if_neg h4, if_neg h4]
end Go.Proofs.YtcaecfofgdogbaaDoor
namespace Go.Proofs.YtcaecfofgdogbaaDoor
open Go.V
set_option linter.unusedSectionVars false
set_option maxRecDepth 100000
end Go.Proofs.YtcaecfofgdogbaaDoor
namespace Go.Proofs.YtcaecfofgdogbaaDoor
open Go.V
set_option linter.unusedSectionVars false
def stp (D x : List Nat) : List Nat := List.zipWith (fun M s => M ||| 2 ^ s) D x
inductive Vp (n : Nat) : List (List Nat) → List Nat → Prop
  | nil : Vp n [] (List.replicate n 0)
  | snoc (X : List (List Nat)) (D x : List Nat) (h : Vp n X D) (hx : x ∈ ext n n []) (hf : fitB (X.map nL) x n 0 = true) : Vp n (X ++ [x]) (stp D x)
theorem fitB_get {P : List (List Int)} {x : List Nat} : ∀ {f d : Nat}, fitB P x f d = true → ∀ j, d ≤ j → j < d + f → metB P j (gn x j : Nat) = false
  | 0, d, _, j, h1, h2 => by omega
  | f + 1, d, h, j, h1, h2 => by
    rw [fitB, Bool.and_eq_true, Bool.not_eq_true'] at h
    by_cases e : j = d
    · subst e; exact h.1
    · exact fitB_get h.2 j (by omega) (by omega)
theorem gn_mem {l : List Nat} {d : Nat} (h : d < l.length) : gn l d ∈ l := by simp [gn, List.getD, h]
theorem fitB_mk {P : List (List Int)} {x : List Nat} : ∀ {f d : Nat}, (∀ j, d ≤ j → j < d + f → metB P j (gn x j : Nat) = false) → fitB P x f d = true
  | 0, _, _ => rfl
  | f + 1, d, h => by
    rw [fitB, h d (by omega) (by omega), fitB_mk fun j h1 h2 => h j (by omega) (by omega)]; rfl
theorem nL_mem {s : Nat} {l : List Nat} : decide ((s : Int) ∈ nL l) = decide (s ∈ l) := by
  refine decide_eq_decide.2 ?_
  unfold nL
  rw [List.mem_map]
  constructor
  · rintro ⟨t, ht, e⟩
    have : t = s := by omega
    exact this ▸ ht
  · exact fun h => ⟨s, h, rfl⟩
theorem ext_dis : ∀ n : Nat, n < 6 → ∀ x ∈ ext n n [], ∀ k : Nat, k < n → gn x k ∉ x.take k := by decide +kernel
theorem mem_nL {s : Nat} {l : List Nat} : (s : Int) ∈ nL l ↔ s ∈ l := by
  have := @nL_mem s l
  exact ⟨fun h => by simpa [h] using this, fun h => by simpa [h] using this⟩
theorem dayE_mk {n : Int} {P : List (List Int)} {r : List Int} : ∀ {f k : Nat}, (∀ j, k ≤ j → j < k + f → 0 ≤ en r j ∧ en r j < n ∧ en r j ∉ r.take j ∧ metB P j (en r j) = false) → dayE n P r f k = 0
  | 0, k, _ => rfl
  | f + 1, k, h => by
    obtain ⟨h1, h2, h3, h4⟩ := h k (by omega) (by omega)
    unfold metB at h4
    rw [dayE, if_neg (by omega), if_neg (by omega), if_neg h3, if_neg (by simpa using h4)]
    exact dayE_mk fun j g1 g2 => h j (by omega) (by omega)
theorem rowE_mk {n : Nat} {L : List (List Int)} : ∀ {f i : Nat}, (∀ j, i ≤ j → j < i + f → (ro L j).length = n ∧ dayE n (L.take j) (ro L j) (ro L j).length 0 = 0) → rowE n n L f i = 0
  | 0, i, _ => rfl
  | f + 1, i, h => by
    obtain ⟨h1, h2⟩ := h i (by omega) (by omega)
    rw [rowE, if_neg (by omega), if_neg (by omega), if_neg (by rw [h2]; simp)]
    exact rowE_mk fun j g1 g2 => h j (by omega) (by omega)
theorem vp_rows {n : Nat} (hn : n ≤ 5) {X : List (List Nat)} {D : List Nat} (h : Vp n X D) : ∀ j, j < X.length → (ro (X.map nL) j).length = n ∧ dayE n ((X.map nL).take j) (ro (X.map nL) j) (ro (X.map nL) j).length 0 = 0 := by
  induction h with
  | nil => intro j hj; simp at hj
  | snoc X D x h hx hf ih =>
    intro j hj
    rw [List.map_append, List.map_singleton]
    by_cases e : j < X.length
    · have e1 : ro (X.map nL ++ [nL x]) j = ro (X.map nL) j := by
        unfold ro; rw [List.getD, List.getElem?_append_left (by simpa using e)]; rfl
      rw [e1, List.take_append_of_le_length (by simp; omega)]
      exact ih j e
    · have ej : j = (X.map nL).length := by simp at hj ⊢; omega
      have e1 : ro (X.map nL ++ [nL x]) j = nL x := by subst ej; simp [ro]
      have hl := (ext_get hx).1
      have hlt := ext_lt (fun s hs => absurd hs (by simp)) hx
      simp at hl
      rw [e1, List.take_append_of_le_length (by omega), ej, List.take_length, nL_len]
      refine ⟨hl, dayE_mk fun k _ hk => ?_⟩
      have hk' : k < x.length := by omega
      have hd := ext_dis n (by omega) x hx k (by omega)
      have hm := hlt _ (gn_mem hk')
      rw [nL_en hk']
      refine ⟨by omega, by omega, ?_, fitB_get hf k (by omega) (by omega)⟩
      rw [show (nL x).take k = nL (x.take k) by simp [nL], mem_nL]
      exact hd
theorem vp_chk {n : Nat} (hn1 : 1 ≤ n) (hn : n ≤ 5) {X : List (List Nat)} {D : List Nat} (h : Vp n X D) (hX : X.length ≤ n) : chkE n n (X.map nL) = 0 := by
  unfold chkE
  rw [if_neg (by omega), if_neg (by omega), if_neg (by simp; omega)]
  exact rowE_mk fun j _ hj => vp_rows hn h j (by simpa using hj)
theorem vp_len {n : Nat} {X : List (List Nat)} {D : List Nat} (h : Vp n X D) : ∀ q ∈ X.map nL, q.length = n := by
  induction h with
  | nil => intro q hq; simp at hq
  | snoc X D x h hx hf ih =>
    intro q hq
    rw [List.map_append, List.mem_append] at hq
    rcases hq with hq | hq
    · exact ih q hq
    · simp at hq; subst hq
      rw [nL_len]; simpa using (ext_get hx).1
theorem wr8 : ∀ a : Nat, a < 256 → IntKind.i64.wrap (1 + Int.tmod (IntKind.i64.wrap (a : Int)) 5) = ((1 + a % 5 : Nat) : Int) := by decide +kernel
theorem wr0 {b m : Nat} (hb : b < 256) : Int.tmod (IntKind.i64.wrap (b : Int)) (m : Int) = ((b % m : Nat) : Int) := by
  have : IntKind.i64.wrap (b : Int) = (b : Int) := by
    cases b with
    | zero => decide
    | succ b => exact wrapN (by omega)
  rw [this]; rfl
theorem met_nL (X : List (List Nat)) (k s : Nat) : metB (X.map nL) k (s : Nat) = X.any fun q => decide (k < q.length) && (gn q k == s) := by
  induction X with
  | nil => rfl
  | cons q X ih =>
    unfold metB at ih ⊢
    rw [List.map_cons, List.any_cons, ih, List.any_cons, nL_len]
    congr 1
    by_cases h : k < q.length
    · rw [nL_en h]
      congr 1
      by_cases g : gn q k = s
      · rw [g]; simp
      · rw [beq_eq_false_iff_ne.2 g, beq_eq_false_iff_ne.2 (by omega)]
    · rw [decide_eq_false h]; rfl
theorem fit_iff {n : Nat} {X : List (List Nat)} (hX : ∀ q ∈ X, q.length = n) (x : List Nat) : fitB (X.map nL) x n 0 = true ↔ ∀ q ∈ X, ∀ j, j < n → gn q j ≠ gn x j := by
  constructor
  · intro h q hq j hj e
    have h1 := fitB_get h j (by omega) (by omega)
    rw [met_nL, List.any_eq_false] at h1
    exact h1 q hq (by rw [decide_eq_true (show j < q.length by rw [hX q hq]; exact hj), e]; simp)
  · intro h
    refine fitB_mk fun j _ hj => ?_
    rw [met_nL, List.any_eq_false]
    intro q hq hh
    have hh' : j < q.length ∧ gn q j = gn x j := by simpa using hh
    exact h q hq j (by omega) hh'.2
theorem ext_len {n : Nat} {x : List Nat} (h : x ∈ ext n n []) : x.length = n := by simpa using (ext_get h).1
theorem vp_mem {n : Nat} {X : List (List Nat)} {D : List Nat} (h : Vp n X D) : ∀ q ∈ X, q ∈ ext n n [] := by
  induction h with
  | nil => intro q hq; simp at hq
  | snoc X D x h hx hf ih =>
    intro q hq
    rcases List.mem_append.1 hq with hq | hq
    · exact ih q hq
    · simp at hq; subst hq; exact hx
structure Rc (P : List (List Int)) (i : Nat) (r : List Int) (k : Nat) (Q : List (List Int)) (T : T3) : Prop where
  tv : Tv T
  b : ∀ s, s < 5 → ((bn T.2.1 i).testBit s = true ↔ (s : Int) ∈ r.take k)
  bq : ∀ j s, j < 5 → i < j → s < 5 → ((bn T.2.1 j).testBit s = true ↔ (s : Int) ∈ ro Q (j - (i + 1)))
  d : ∀ d s, d < 5 → s < 5 → ((bn T.2.2 d).testBit s = true ↔ (∃ q ∈ P ++ Q, d < q.length ∧ en q d = (s : Int)) ∨ (d < k ∧ en r d = (s : Int)))
  ap : ∀ j d, j < i → j < 5 → d < 5 → en T.1 (j * 5 + d) = if d < (ro P j).length then en (ro P j) d else -1
  ai : ∀ d, i < 5 → d < 5 → en T.1 (i * 5 + d) = if d < k then en r d else -1
  aq : ∀ j d, i < j → j < 5 → d < 5 → en T.1 (j * 5 + d) = if d < (ro Q (j - (i + 1))).length then en (ro Q (j - (i + 1))) d else -1
theorem Rc.congr {P Q : List (List Int)} {i k : Nat} {r r' : List Int} {T : T3} (h : Rc P i r k Q T) (h1 : r.take k = r'.take k) (h2 : ∀ d, d < k → en r d = en r' d) : Rc P i r' k Q T := by
  refine ⟨h.tv, fun s hs => by rw [← h1]; exact h.b s hs, h.bq, fun d s hd hs => ?_, h.ap, fun d h5 hd => ?_, h.aq⟩
  · rw [h.d d s hd hs]
    constructor
    · rintro (h3 | h3)
      · exact .inl h3
      · exact .inr ⟨h3.1, by rw [← h2 d h3.1]; exact h3.2⟩
    · rintro (h3 | h3)
      · exact .inl h3
      · exact .inr ⟨h3.1, by rw [h2 d h3.1]; exact h3.2⟩
  · rw [h.ai d h5 hd]
    by_cases h3 : d < k
    · rw [if_pos h3, if_pos h3, h2 d h3]
    · rw [if_neg h3, if_neg h3]
def sx (X : List (List Nat)) (j d : Nat) : Nat := gn (X.getD j []) d
def sts (X : List (List Nat)) (l : List Nat) : List Nat := (List.range l.length).map fun i => sx X i (gn l i)
def crs (n : Nat) (X : List (List Nat)) : Nat → List Nat → List (List Nat)
  | 0, l => [l]
  | f + 1, l => (List.range n).flatMap fun d => if d ∈ l ∨ sx X l.length d ∈ sts X l then [] else crs n X f (l ++ [d])
def cr1 (n : Nat) (X : List (List Nat)) (f : Nat) (l : List Nat) (d : Nat) : List (List Nat) := if d ∈ l ∨ sx X l.length d ∈ sts X l then [] else crs n X f (l ++ [d])
def runC {σ : Type} (e : List Nat → σ → Bool × σ) : List (List Nat) → σ → Bool × σ
  | [], p => (true, p)
  | x :: xs, p => if (e x p).1 then runC e xs (e x p).2 else (false, (e x p).2)
theorem runC_app {σ : Type} (e : List Nat → σ → Bool × σ) : ∀ (a b : List (List Nat)) (p : σ), runC e (a ++ b) p = if (runC e a p).1 then runC e b (runC e a p).2 else (false, (runC e a p).2)
  | [], b, p => by simp [runC]
  | x :: a, b, p => by
    simp only [List.cons_append, runC]
    by_cases h : (e x p).1 = true
    · simp only [h, if_true]; exact runC_app e a b _
    · simp only [h]; rfl
def outL {σ : Type} (r : Bool × σ) : (PV × σ) ⊕ σ := if r.1 then .inr r.2 else .inl (.bool false, r.2)
def eF (x : List Nat) (_ : PV) : Bool × PV := (false, rwP (nL x))
def eC (_ : List Nat) (k : Int) : Bool × Int := (true, IntKind.i64.wrap (k + 1))
theorem b_tst0 : ∀ x : Nat, x < 32 → ∀ s : Nat, s < 5 → (bitsI .and .u64 (Int.fdiv (x : Int) (2 ^ (min s 64))) 1 == 0) = !x.testBit s := by decide +kernel
structure Xp (n : Nat) (X : List (List Nat)) (T : T3) : Prop where
  n1 : 1 ≤ n
  n5 : n ≤ 5
  tb : Tb T.1 T.2.1 T.2.2
  a : ∀ j d, j < n → d < n → en T.1 (j * 5 + d) = (sx X j d : Int)
  s : ∀ j d, j < n → d < n → sx X j d < n
structure Bs (x : Nat) (l : List Nat) : Prop where
  lt : x < 32
  b : ∀ s, s < 5 → x.testBit s = decide (s ∈ l)
theorem Bs.add {x : Nat} {l : List Nat} (h : Bs x l) {d : Nat} (hd : d < 5) : Bs (x ||| 2 ^ d) (l ++ [d]) := ⟨or_lt x h.lt d hd, fun s hs => by
  rw [tst_or x h.lt d hd s hs, h.b s hs]
  simp⟩
theorem sts_app (X : List (List Nat)) (l : List Nat) (d : Nat) : sts X (l ++ [d]) = sts X l ++ [sx X l.length d] := by
  unfold sts
  rw [List.length_append, List.length_singleton, List.range_succ, List.map_append]
  congr 1
  · refine List.map_congr_left fun i hi => ?_
    rw [gn_app1 (List.mem_range.1 hi)]
  · simp [gn]
theorem nL_app (l : List Nat) (d : Nat) : iL (nL l) ++ [.int .i64 (d : Int)] = iL (nL (l ++ [d])) := by simp [nL, iL]
theorem wxm94_3_A_L (N n : Nat) (X : List (List Nat)) (T : T3) (h : Xp n X T) (rec : Nat → Int → Int → List PV → Int → PV → List PV → Option (PV × PV)) (f : Nat) (l : List Nat) (hl : l.length + (f + 1) = n) (x y : Nat) (hx : Bs x l) (hy : Bs y (sts X l))
    (hrec : ∀ d, d < n → ∀ (x' y' : Nat), Bs x' (l ++ [d]) → Bs y' (sts X (l ++ [d])) → ∀ p, rec (l.length + 1) (x' : Int) (y' : Int) (iL (nL (l ++ [d]))) (n : Int) p (tP n T) = some (.bool (runC eF (crs n X f (l ++ [d])) p).1, (runC eF (crs n X f (l ++ [d])) p).2)) :
    ∀ (g d fuel : Nat) (p : PV), n - d = g → g < fuel → d ≤ n → m94_3_A_L0 N rec l.length (x : Int) (y : Int) (iL (nL l)) (n : Int) (tP n T) fuel (d : Int) p = some (outL (runC eF ((List.range' d (n - d)).flatMap (cr1 n X f l)) p))
  | g, d, 0, _, _, hf, _ => by omega
  | g, d, fuel + 1, p, hg, hf, hd => by
    have n5 := h.n5
    rw [m94_3_A_L0]
    by_cases hdn : d < n
    · have ha := h.a l.length d (by omega) hdn
      have hs := h.s l.length d (by omega) hdn
      have ih := fun q => wxm94_3_A_L N n X T h rec f l hl x y hx hy hrec (g - 1) (d + 1) fuel q (by omega) (by omega) (by omega)
      simp only [toNatN]
      rw [brn_dt (by omega), grd_t (by omega), grd_t (by rw [show tP n T = tblP n T.1 T.2.1 T.2.2 from rfl, tbl_len h.tb]; omega), show tP n T = tblP n T.1 T.2.1 T.2.2 from rfl, show 1 + l.length * 5 + d = 1 + (l.length * 5 + d) by omega, gp_a h.tb (by omega), ha, getI_t, b_tst0 x hx.lt d (by omega), hx.b d (by omega), wrapN (by omega), range'_step hdn, List.flatMap_cons, runC_app]
      by_cases h1 : d ∈ l
      · rw [brn_f (by simp [h1])]
        have e : cr1 n X f l d = [] := by unfold cr1; rw [if_pos (.inl h1)]
        rw [e]
        exact ih p
      · rw [brn_t (by simp [h1]), grd_t (by omega), toNatN, b_tst0 y hy.lt _ (by omega), hy.b _ (by omega)]
        by_cases h2 : sx X l.length d ∈ sts X l
        · rw [brn_f (by simp [h2])]
          have e : cr1 n X f l d = [] := by unfold cr1; rw [if_pos (.inr h2)]
          rw [e]
          exact ih p
        · have e : cr1 n X f l d = crs n X f (l ++ [d]) := by unfold cr1; rw [if_neg (by rintro (q | q); exact h1 q; exact h2 q)]
          rw [brn_t (by simp [h2]), grd_t (by omega), grd_t (by rw [iL_len, nL_len]), b_or x hx.lt d (by omega), b_or y hy.lt _ (by omega), nL_app, show tblP n T.1 T.2.1 T.2.2 = tP n T from rfl, hrec d hdn _ _ (hx.add (by omega)) (by rw [sts_app]; exact hy.add (by omega)), bnd_t, getB_t, e]
          cases hb : (runC eF (crs n X f (l ++ [d])) p).1 with
          | true => rw [brn_t rfl, if_pos rfl]; exact ih _
          | false => rw [brn_f rfl, if_neg (by simp)]; rfl
    · rw [brn_df (by rw [toNatN]; omega), show n - d = 0 by omega]; rfl
theorem wxm94_3_A_leaf (N n : Nat) (X : List (List Nat)) (T : T3) (h : Xp n X T) (rec : Nat → Int → Int → List PV → Int → PV → List PV → Option (PV × PV)) (l : List Nat) (hl : l.length = n) (x y : Int) (p : PV) : m94_3_A N rec l.length x y (iL (nL l)) (n : Int) p (tP n T) = some (.bool (runC eF [l] p).1, (runC eF [l] p).2) := by
  have n1 := h.n1
  have n5 := h.n5
  have e : (iL (nL l)).length = l.length := by rw [iL_len, nL_len]
  unfold m94_3_A
  rw [brn_et (by omega), m56_2, grd_t (by omega), grd_t e, grd_t (by omega), bnd_t, getL_t, m75, getL_t, bnd_t]
  show getB _ _ = _
  rw [getB_t]
  simp only [runC, eF, rwP, nL_len, if_true, Bool.false_eq_true, if_false]
theorem wxm94_3_A_node (N n : Nat) (hN : 5000 ≤ N) (X : List (List Nat)) (T : T3) (h : Xp n X T) (rec : Nat → Int → Int → List PV → Int → PV → List PV → Option (PV × PV)) (f : Nat) (l : List Nat) (hl : l.length + (f + 1) = n) (x y : Nat) (hx : Bs x l) (hy : Bs y (sts X l))
    (hrec : ∀ d, d < n → ∀ (x' y' : Nat), Bs x' (l ++ [d]) → Bs y' (sts X (l ++ [d])) → ∀ p, rec (l.length + 1) (x' : Int) (y' : Int) (iL (nL (l ++ [d]))) (n : Int) p (tP n T) = some (.bool (runC eF (crs n X f (l ++ [d])) p).1, (runC eF (crs n X f (l ++ [d])) p).2)) (p : PV) :
    m94_3_A N rec l.length (x : Int) (y : Int) (iL (nL l)) (n : Int) p (tP n T) = some (.bool (runC eF (crs n X (f + 1) l) p).1, (runC eF (crs n X (f + 1) l) p).2) := by
  have n5 := h.n5
  have e : (iL (nL l)).length = l.length := by rw [iL_len, nL_len]
  have hL := wxm94_3_A_L N n X T h rec f l hl x y hx hy hrec n 0 N p (by omega) (by omega) (by omega)
  rw [Nat.sub_zero, ← List.range_eq_range'] at hL
  unfold m94_3_A
  rw [brn_ef (by omega), grd_t (by omega), grd_t (by rw [show tP n T = tblP n T.1 T.2.1 T.2.2 from rfl, tbl_len h.tb]; omega), show m94_3_A_L0 N rec l.length (x : Int) (y : Int) (iL (nL l)) (n : Int) (tP n T) N 0 p = _ from hL, bnd_t]
  show _ = some (PV.bool (runC eF ((List.range n).flatMap (cr1 n X f l)) p).1, (runC eF ((List.range n).flatMap (cr1 n X f l)) p).2)
  unfold outL
  cases hb : (runC eF ((List.range n).flatMap (cr1 n X f l)) p).1 with
  | true => rw [if_pos rfl]
  | false => rw [if_neg (by simp)]
theorem wxm94_3_B_L (N n : Nat) (X : List (List Nat)) (T : T3) (h : Xp n X T) (rec : Nat → Int → Int → List PV → Int → PV → List PV → Option (PV × PV)) (f : Nat) (l : List Nat) (hl : l.length + (f + 1) = n) (x y : Nat) (hx : Bs x l) (hy : Bs y (sts X l))
    (hrec : ∀ d, d < n → ∀ (x' y' : Nat), Bs x' (l ++ [d]) → Bs y' (sts X (l ++ [d])) → ∀ p, rec (l.length + 1) (x' : Int) (y' : Int) (iL (nL (l ++ [d]))) (n : Int) p (tP n T) = some (.bool (runC eF (crs n X f (l ++ [d])) p).1, (runC eF (crs n X f (l ++ [d])) p).2)) :
    ∀ (g d fuel : Nat) (p : PV), n - d = g → g < fuel → d ≤ n → m94_3_B_L0 N rec l.length (x : Int) (y : Int) (iL (nL l)) (n : Int) (tP n T) fuel (d : Int) p = some (outL (runC eF ((List.range' d (n - d)).flatMap (cr1 n X f l)) p))
  | g, d, 0, _, _, hf, _ => by omega
  | g, d, fuel + 1, p, hg, hf, hd => by
    have n5 := h.n5
    rw [m94_3_B_L0]
    by_cases hdn : d < n
    · have ha := h.a l.length d (by omega) hdn
      have hs := h.s l.length d (by omega) hdn
      have ih := fun q => wxm94_3_B_L N n X T h rec f l hl x y hx hy hrec (g - 1) (d + 1) fuel q (by omega) (by omega) (by omega)
      simp only [toNatN]
      rw [brn_dt (by omega), grd_t (by omega), grd_t (by rw [show tP n T = tblP n T.1 T.2.1 T.2.2 from rfl, tbl_len h.tb]; omega), show tP n T = tblP n T.1 T.2.1 T.2.2 from rfl, show 1 + l.length * 5 + d = 1 + (l.length * 5 + d) by omega, gp_a h.tb (by omega), ha, getI_t, b_tst0 x hx.lt d (by omega), hx.b d (by omega), wrapN (by omega), range'_step hdn, List.flatMap_cons, runC_app]
      by_cases h1 : d ∈ l
      · rw [brn_f (by simp [h1])]
        have e : cr1 n X f l d = [] := by unfold cr1; rw [if_pos (.inl h1)]
        rw [e]
        exact ih p
      · rw [brn_t (by simp [h1]), grd_t (by omega), toNatN, b_tst0 y hy.lt _ (by omega), hy.b _ (by omega)]
        by_cases h2 : sx X l.length d ∈ sts X l
        · rw [brn_f (by simp [h2])]
          have e : cr1 n X f l d = [] := by unfold cr1; rw [if_pos (.inr h2)]
          rw [e]
          exact ih p
        · have e : cr1 n X f l d = crs n X f (l ++ [d]) := by unfold cr1; rw [if_neg (by rintro (q | q); exact h1 q; exact h2 q)]
          rw [brn_t (by simp [h2]), b_or x hx.lt d (by omega), b_or y hy.lt _ (by omega), nL_app, show tblP n T.1 T.2.1 T.2.2 = tP n T from rfl, hrec d hdn _ _ (hx.add (by omega)) (by rw [sts_app]; exact hy.add (by omega)), bnd_t, getB_t, e]
          cases hb : (runC eF (crs n X f (l ++ [d])) p).1 with
          | true => rw [brn_t rfl, if_pos rfl]; exact ih _
          | false => rw [brn_f rfl, if_neg (by simp)]; rfl
    · rw [brn_df (by rw [toNatN]; omega), show n - d = 0 by omega]; rfl
theorem wxm94_3_B_leaf (N n : Nat) (X : List (List Nat)) (T : T3) (h : Xp n X T) (rec : Nat → Int → Int → List PV → Int → PV → List PV → Option (PV × PV)) (l : List Nat) (hl : l.length = n) (x y : Int) (p : PV) : m94_3_B N rec l.length x y (iL (nL l)) (n : Int) p (tP n T) = some (.bool (runC eF [l] p).1, (runC eF [l] p).2) := by
  have n1 := h.n1
  have n5 := h.n5
  have e : (iL (nL l)).length = l.length := by rw [iL_len, nL_len]
  unfold m94_3_B
  rw [grd_t e, brn_et (by omega), m56_3, grd_t (by omega), grd_t e, grd_t (by omega), bnd_t, getL_t, m75, getL_t, bnd_t]
  show getB _ _ = _
  rw [getB_t]
  simp only [runC, eF, rwP, nL_len, if_true, Bool.false_eq_true, if_false]
theorem wxm94_3_B_node (N n : Nat) (hN : 5000 ≤ N) (X : List (List Nat)) (T : T3) (h : Xp n X T) (rec : Nat → Int → Int → List PV → Int → PV → List PV → Option (PV × PV)) (f : Nat) (l : List Nat) (hl : l.length + (f + 1) = n) (x y : Nat) (hx : Bs x l) (hy : Bs y (sts X l))
    (hrec : ∀ d, d < n → ∀ (x' y' : Nat), Bs x' (l ++ [d]) → Bs y' (sts X (l ++ [d])) → ∀ p, rec (l.length + 1) (x' : Int) (y' : Int) (iL (nL (l ++ [d]))) (n : Int) p (tP n T) = some (.bool (runC eF (crs n X f (l ++ [d])) p).1, (runC eF (crs n X f (l ++ [d])) p).2)) (p : PV) :
    m94_3_B N rec l.length (x : Int) (y : Int) (iL (nL l)) (n : Int) p (tP n T) = some (.bool (runC eF (crs n X (f + 1) l) p).1, (runC eF (crs n X (f + 1) l) p).2) := by
  have n5 := h.n5
  have e : (iL (nL l)).length = l.length := by rw [iL_len, nL_len]
  have hL := wxm94_3_B_L N n X T h rec f l hl x y hx hy hrec n 0 N p (by omega) (by omega) (by omega)
  rw [Nat.sub_zero, ← List.range_eq_range'] at hL
  unfold m94_3_B
  rw [grd_t e, brn_ef (by omega), grd_t (by omega), grd_t (by rw [show tP n T = tblP n T.1 T.2.1 T.2.2 from rfl, tbl_len h.tb]; omega), show m94_3_B_L0 N rec l.length (x : Int) (y : Int) (iL (nL l)) (n : Int) (tP n T) N 0 p = _ from hL, bnd_t]
  show _ = some (PV.bool (runC eF ((List.range n).flatMap (cr1 n X f l)) p).1, (runC eF ((List.range n).flatMap (cr1 n X f l)) p).2)
  unfold outL
  cases hb : (runC eF ((List.range n).flatMap (cr1 n X f l)) p).1 with
  | true => rw [if_pos rfl]
  | false => rw [if_neg (by simp)]
theorem wxm94_3_ok (N n : Nat) (hN : 5000 ≤ N) (X : List (List Nat)) (T : T3) (h : Xp n X T) : ∀ (f fu : Nat) (l : List Nat) (x y : Nat) (p : PV), l.length + f = n → f < fu → Bs x l → Bs y (sts X l) →
    m94_3 N fu l.length (x : Int) (y : Int) (iL (nL l)) (n : Int) p (tP n T) = some (.bool (runC eF (crs n X f l) p).1, (runC eF (crs n X f l) p).2)
  | f, 0, _, _, _, _, _, hf, _, _ => by omega
  | 0, fu + 1, l, x, y, p, hl, _, _, _ => by
    rw [m94_3]
    exact both_same (wxm94_3_A_leaf N n X T h _ l (by omega) _ _ p) (wxm94_3_B_leaf N n X T h _ l (by omega) _ _ p)
  | f + 1, fu + 1, l, x, y, p, hl, hf, hx, hy => by
    rw [m94_3]
    have hr : ∀ d, d < n → ∀ (x' y' : Nat), Bs x' (l ++ [d]) → Bs y' (sts X (l ++ [d])) → ∀ p, m94_3 N fu (l.length + 1) (x' : Int) (y' : Int) (iL (nL (l ++ [d]))) (n : Int) p (tP n T) = some (.bool (runC eF (crs n X f (l ++ [d])) p).1, (runC eF (crs n X f (l ++ [d])) p).2) := by
      intro d _ x' y' hx' hy' p'
      have := wxm94_3_ok N n hN X T h f fu (l ++ [d]) x' y' p' (by simp; omega) (by omega) hx' hy'
      rwa [List.length_append, List.length_singleton] at this
    exact both_same (wxm94_3_A_node N n hN X T h _ f l hl x y hx hy hr p) (wxm94_3_B_node N n hN X T h _ f l hl x y hx hy hr p)
theorem wxm94_2_L (N n : Nat) (hN : 5000 ≤ N) (X : List (List Nat)) (T : T3) (h : Xp n X T) (f : Nat) (hl : f + 1 = n) :
    ∀ (g d fuel : Nat) (p : PV), n - d = g → g < fuel → d ≤ n → m94_2_L0 N 0 0 (n : Int) (tP n T) fuel (d : Int) p = some (outL (runC eF ((List.range' d (n - d)).flatMap (cr1 n X f [])) p))
  | g, d, 0, _, _, hf, _ => by omega
  | g, d, fuel + 1, p, hg, hf, hd => by
    have n5 := h.n5
    have hx : Bs 0 ([] : List Nat) := ⟨by decide, fun s _ => by simp⟩
    have hy : Bs 0 (sts X []) := ⟨by decide, fun s _ => by simp [sts]⟩
    rw [m94_2_L0]
    by_cases hdn : d < n
    · have ha := h.a 0 d (by omega) hdn
      have hs := h.s 0 d (by omega) hdn
      have ih := fun q => wxm94_2_L N n hN X T h f hl (g - 1) (d + 1) fuel q (by omega) (by omega) (by omega)
      rw [Nat.zero_mul, Nat.zero_add] at ha
      simp only [toNatN]
      rw [brn_dt (by omega), grd_t (by omega), grd_t (by rw [show tP n T = tblP n T.1 T.2.1 T.2.2 from rfl, tbl_len h.tb]; omega), show tP n T = tblP n T.1 T.2.1 T.2.2 from rfl, gp_a h.tb (by omega), ha, getI_t, wrapN (by omega), range'_step hdn, List.flatMap_cons, runC_app]
      have b1 := b_tst0 0 (by decide) d (by omega)
      have b2 := b_tst0 0 (by decide) (sx X 0 d) (by omega)
      have o1 := b_or 0 (by decide) d (by omega)
      have o2 := b_or 0 (by decide) (sx X 0 d) (by omega)
      have hk := wxm94_3_ok N n hN X T h f N [d] (0 ||| 2 ^ d) (0 ||| 2 ^ sx X 0 d) p (by simp; omega) (by omega) (hx.add (l := []) (by omega)) (by
        have := sts_app X [] d
        rw [List.nil_append] at this
        rw [this]; exact hy.add (by show sx X 0 d < 5; omega))
      have e : cr1 n X f [] d = crs n X f [d] := by unfold cr1; rw [if_neg (by simp [sts])]; rfl
      have z1 : (0 : Nat).testBit d = false := Nat.zero_testBit d
      have z2 : (0 : Nat).testBit (sx X 0 d) = false := Nat.zero_testBit _
      rw [z1] at b1
      rw [z2] at b2
      rw [show ((0 : Nat) : Int) = 0 from rfl] at b1 b2 o1 o2
      rw [brn_t b1, grd_t (by omega), toNatN, brn_t b2, o1, o2]
      rw [show m94_3 N N 1 ((0 ||| 2 ^ d : Nat) : Int) ((0 ||| 2 ^ sx X 0 d : Nat) : Int) [PV.int .i64 (d : Int)] (n : Int) p (tblP n T.1 T.2.1 T.2.2) = _ from hk, bnd_t, getB_t, e]
      cases hb : (runC eF (crs n X f [d]) p).1 with
      | true => rw [brn_t rfl, if_pos rfl]; exact ih _
      | false => rw [brn_f rfl, if_neg (by simp)]; rfl
    · rw [brn_df (by rw [toNatN]; omega), show n - d = 0 by omega]; rfl
theorem wxm94_2_ok (N n : Nat) (hN : 5000 ≤ N) (X : List (List Nat)) (T : T3) (h : Xp n X T) (p : PV) : m94_2 N 0 0 (n : Int) p (tP n T) = some (.bool (runC eF (crs n X n []) p).1, (runC eF (crs n X n []) p).2) := by
  have n1 := h.n1
  have n5 := h.n5
  obtain ⟨f, rfl⟩ : ∃ f, n = f + 1 := ⟨n - 1, by omega⟩
  have hL := wxm94_2_L N (f + 1) hN X T h f rfl (f + 1) 0 N p (by omega) (by omega) (by omega)
  rw [Nat.sub_zero, ← List.range_eq_range'] at hL
  unfold m94_2
  rw [brn_ef (by omega), grd_t ⟨by omega, by omega, by rw [show tP (f + 1) T = tblP (f + 1) T.1 T.2.1 T.2.2 from rfl, tbl_len h.tb]; omega⟩, show m94_2_L0 N 0 0 ((f + 1 : Nat) : Int) (tP (f + 1) T) N 0 p = _ from hL, bnd_t]
  show _ = some (PV.bool (runC eF ((List.range (f + 1)).flatMap (cr1 (f + 1) X f [])) p).1, (runC eF ((List.range (f + 1)).flatMap (cr1 (f + 1) X f [])) p).2)
  unfold outL
  cases hb : (runC eF ((List.range (f + 1)).flatMap (cr1 (f + 1) X f [])) p).1 with
  | true => rw [if_pos rfl]
  | false => rw [if_neg (by simp)]
theorem wxm94_6_A_L (N n : Nat) (X : List (List Nat)) (T : T3) (h : Xp n X T) (rec : Nat → Int → Int → List PV → Int → Int → List PV → Option (PV × Int)) (f : Nat) (l : List Nat) (hl : l.length + (f + 1) = n) (x y : Nat) (hx : Bs x l) (hy : Bs y (sts X l))
    (hrec : ∀ d, d < n → ∀ (x' y' : Nat), Bs x' (l ++ [d]) → Bs y' (sts X (l ++ [d])) → ∀ p, rec (l.length + 1) (x' : Int) (y' : Int) (iL (nL (l ++ [d]))) (n : Int) p (tP n T) = some (.bool (runC eC (crs n X f (l ++ [d])) p).1, (runC eC (crs n X f (l ++ [d])) p).2)) :
    ∀ (g d fuel : Nat) (p : Int), n - d = g → g < fuel → d ≤ n → m94_6_A_L0 N rec l.length (x : Int) (y : Int) (iL (nL l)) (n : Int) (tP n T) fuel (d : Int) p = some (outL (runC eC ((List.range' d (n - d)).flatMap (cr1 n X f l)) p))
  | g, d, 0, _, _, hf, _ => by omega
  | g, d, fuel + 1, p, hg, hf, hd => by
    have n5 := h.n5
    rw [m94_6_A_L0]
    by_cases hdn : d < n
    · have ha := h.a l.length d (by omega) hdn
      have hs := h.s l.length d (by omega) hdn
      have ih := fun q => wxm94_6_A_L N n X T h rec f l hl x y hx hy hrec (g - 1) (d + 1) fuel q (by omega) (by omega) (by omega)
      simp only [toNatN]
      rw [brn_dt (by omega), grd_t (by omega), grd_t (by rw [show tP n T = tblP n T.1 T.2.1 T.2.2 from rfl, tbl_len h.tb]; omega), show tP n T = tblP n T.1 T.2.1 T.2.2 from rfl, show 1 + l.length * 5 + d = 1 + (l.length * 5 + d) by omega, gp_a h.tb (by omega), ha, getI_t, b_tst0 x hx.lt d (by omega), hx.b d (by omega), wrapN (by omega), range'_step hdn, List.flatMap_cons, runC_app]
      by_cases h1 : d ∈ l
      · rw [brn_f (by simp [h1])]
        have e : cr1 n X f l d = [] := by unfold cr1; rw [if_pos (.inl h1)]
        rw [e]
        exact ih p
      · rw [brn_t (by simp [h1]), grd_t (by omega), toNatN, b_tst0 y hy.lt _ (by omega), hy.b _ (by omega)]
        by_cases h2 : sx X l.length d ∈ sts X l
        · rw [brn_f (by simp [h2])]
          have e : cr1 n X f l d = [] := by unfold cr1; rw [if_pos (.inr h2)]
          rw [e]
          exact ih p
        · have e : cr1 n X f l d = crs n X f (l ++ [d]) := by unfold cr1; rw [if_neg (by rintro (q | q); exact h1 q; exact h2 q)]
          rw [brn_t (by simp [h2]), grd_t (by omega), grd_t (by rw [iL_len, nL_len]), b_or x hx.lt d (by omega), b_or y hy.lt _ (by omega), nL_app, show tblP n T.1 T.2.1 T.2.2 = tP n T from rfl, hrec d hdn _ _ (hx.add (by omega)) (by rw [sts_app]; exact hy.add (by omega)), bnd_t, getB_t, e]
          cases hb : (runC eC (crs n X f (l ++ [d])) p).1 with
          | true => rw [brn_t rfl, if_pos rfl]; exact ih _
          | false => rw [brn_f rfl, if_neg (by simp)]; rfl
    · rw [brn_df (by rw [toNatN]; omega), show n - d = 0 by omega]; rfl
theorem wxm94_6_A_leaf (N n : Nat) (X : List (List Nat)) (T : T3) (h : Xp n X T) (rec : Nat → Int → Int → List PV → Int → Int → List PV → Option (PV × Int)) (l : List Nat) (hl : l.length = n) (x y : Int) (p : Int) : m94_6_A N rec l.length x y (iL (nL l)) (n : Int) p (tP n T) = some (.bool (runC eC [l] p).1, (runC eC [l] p).2) := by
  have n1 := h.n1
  have n5 := h.n5
  have e : (iL (nL l)).length = l.length := by rw [iL_len, nL_len]
  unfold m94_6_A
  rw [brn_et (by omega), m56_2, grd_t (by omega), grd_t e, grd_t (by omega), bnd_t, getL_t, m78, getL_t, bnd_t]
  show getB _ _ = _
  rw [getB_t]
  simp only [runC, eC, rwP, nL_len, if_true, Bool.false_eq_true, if_false]
theorem wxm94_6_A_node (N n : Nat) (hN : 5000 ≤ N) (X : List (List Nat)) (T : T3) (h : Xp n X T) (rec : Nat → Int → Int → List PV → Int → Int → List PV → Option (PV × Int)) (f : Nat) (l : List Nat) (hl : l.length + (f + 1) = n) (x y : Nat) (hx : Bs x l) (hy : Bs y (sts X l))
    (hrec : ∀ d, d < n → ∀ (x' y' : Nat), Bs x' (l ++ [d]) → Bs y' (sts X (l ++ [d])) → ∀ p, rec (l.length + 1) (x' : Int) (y' : Int) (iL (nL (l ++ [d]))) (n : Int) p (tP n T) = some (.bool (runC eC (crs n X f (l ++ [d])) p).1, (runC eC (crs n X f (l ++ [d])) p).2)) (p : Int) :
    m94_6_A N rec l.length (x : Int) (y : Int) (iL (nL l)) (n : Int) p (tP n T) = some (.bool (runC eC (crs n X (f + 1) l) p).1, (runC eC (crs n X (f + 1) l) p).2) := by
  have n5 := h.n5
  have e : (iL (nL l)).length = l.length := by rw [iL_len, nL_len]
  have hL := wxm94_6_A_L N n X T h rec f l hl x y hx hy hrec n 0 N p (by omega) (by omega) (by omega)
  rw [Nat.sub_zero, ← List.range_eq_range'] at hL
  unfold m94_6_A
  rw [brn_ef (by omega), grd_t (by omega), grd_t (by rw [show tP n T = tblP n T.1 T.2.1 T.2.2 from rfl, tbl_len h.tb]; omega), show m94_6_A_L0 N rec l.length (x : Int) (y : Int) (iL (nL l)) (n : Int) (tP n T) N 0 p = _ from hL, bnd_t]
  show _ = some (PV.bool (runC eC ((List.range n).flatMap (cr1 n X f l)) p).1, (runC eC ((List.range n).flatMap (cr1 n X f l)) p).2)
  unfold outL
  cases hb : (runC eC ((List.range n).flatMap (cr1 n X f l)) p).1 with
  | true => rw [if_pos rfl]
  | false => rw [if_neg (by simp)]
theorem wxm94_6_B_L (N n : Nat) (X : List (List Nat)) (T : T3) (h : Xp n X T) (rec : Nat → Int → Int → List PV → Int → Int → List PV → Option (PV × Int)) (f : Nat) (l : List Nat) (hl : l.length + (f + 1) = n) (x y : Nat) (hx : Bs x l) (hy : Bs y (sts X l))
    (hrec : ∀ d, d < n → ∀ (x' y' : Nat), Bs x' (l ++ [d]) → Bs y' (sts X (l ++ [d])) → ∀ p, rec (l.length + 1) (x' : Int) (y' : Int) (iL (nL (l ++ [d]))) (n : Int) p (tP n T) = some (.bool (runC eC (crs n X f (l ++ [d])) p).1, (runC eC (crs n X f (l ++ [d])) p).2)) :
    ∀ (g d fuel : Nat) (p : Int), n - d = g → g < fuel → d ≤ n → m94_6_B_L0 N rec l.length (x : Int) (y : Int) (iL (nL l)) (n : Int) (tP n T) fuel (d : Int) p = some (outL (runC eC ((List.range' d (n - d)).flatMap (cr1 n X f l)) p))
  | g, d, 0, _, _, hf, _ => by omega
  | g, d, fuel + 1, p, hg, hf, hd => by
    have n5 := h.n5
    rw [m94_6_B_L0]
    by_cases hdn : d < n
    · have ha := h.a l.length d (by omega) hdn
      have hs := h.s l.length d (by omega) hdn
      have ih := fun q => wxm94_6_B_L N n X T h rec f l hl x y hx hy hrec (g - 1) (d + 1) fuel q (by omega) (by omega) (by omega)
      simp only [toNatN]
      rw [brn_dt (by omega), grd_t (by omega), grd_t (by rw [show tP n T = tblP n T.1 T.2.1 T.2.2 from rfl, tbl_len h.tb]; omega), show tP n T = tblP n T.1 T.2.1 T.2.2 from rfl, show 1 + l.length * 5 + d = 1 + (l.length * 5 + d) by omega, gp_a h.tb (by omega), ha, getI_t, b_tst0 x hx.lt d (by omega), hx.b d (by omega), wrapN (by omega), range'_step hdn, List.flatMap_cons, runC_app]
      by_cases h1 : d ∈ l
      · rw [brn_f (by simp [h1])]
        have e : cr1 n X f l d = [] := by unfold cr1; rw [if_pos (.inl h1)]
        rw [e]
        exact ih p
      · rw [brn_t (by simp [h1]), grd_t (by omega), toNatN, b_tst0 y hy.lt _ (by omega), hy.b _ (by omega)]
        by_cases h2 : sx X l.length d ∈ sts X l
        · rw [brn_f (by simp [h2])]
          have e : cr1 n X f l d = [] := by unfold cr1; rw [if_pos (.inr h2)]
          rw [e]
          exact ih p
        · have e : cr1 n X f l d = crs n X f (l ++ [d]) := by unfold cr1; rw [if_neg (by rintro (q | q); exact h1 q; exact h2 q)]
          rw [brn_t (by simp [h2]), b_or x hx.lt d (by omega), b_or y hy.lt _ (by omega), nL_app, show tblP n T.1 T.2.1 T.2.2 = tP n T from rfl, hrec d hdn _ _ (hx.add (by omega)) (by rw [sts_app]; exact hy.add (by omega)), bnd_t, getB_t, e]
          cases hb : (runC eC (crs n X f (l ++ [d])) p).1 with
          | true => rw [brn_t rfl, if_pos rfl]; exact ih _
          | false => rw [brn_f rfl, if_neg (by simp)]; rfl
    · rw [brn_df (by rw [toNatN]; omega), show n - d = 0 by omega]; rfl
theorem wxm94_6_B_leaf (N n : Nat) (X : List (List Nat)) (T : T3) (h : Xp n X T) (rec : Nat → Int → Int → List PV → Int → Int → List PV → Option (PV × Int)) (l : List Nat) (hl : l.length = n) (x y : Int) (p : Int) : m94_6_B N rec l.length x y (iL (nL l)) (n : Int) p (tP n T) = some (.bool (runC eC [l] p).1, (runC eC [l] p).2) := by
  have n1 := h.n1
  have n5 := h.n5
  have e : (iL (nL l)).length = l.length := by rw [iL_len, nL_len]
  unfold m94_6_B
  rw [grd_t e, brn_et (by omega), m56_3, grd_t (by omega), grd_t e, grd_t (by omega), bnd_t, getL_t, m78, getL_t, bnd_t]
  show getB _ _ = _
  rw [getB_t]
  simp only [runC, eC, rwP, nL_len, if_true, Bool.false_eq_true, if_false]
theorem wxm94_6_B_node (N n : Nat) (hN : 5000 ≤ N) (X : List (List Nat)) (T : T3) (h : Xp n X T) (rec : Nat → Int → Int → List PV → Int → Int → List PV → Option (PV × Int)) (f : Nat) (l : List Nat) (hl : l.length + (f + 1) = n) (x y : Nat) (hx : Bs x l) (hy : Bs y (sts X l))
    (hrec : ∀ d, d < n → ∀ (x' y' : Nat), Bs x' (l ++ [d]) → Bs y' (sts X (l ++ [d])) → ∀ p, rec (l.length + 1) (x' : Int) (y' : Int) (iL (nL (l ++ [d]))) (n : Int) p (tP n T) = some (.bool (runC eC (crs n X f (l ++ [d])) p).1, (runC eC (crs n X f (l ++ [d])) p).2)) (p : Int) :
    m94_6_B N rec l.length (x : Int) (y : Int) (iL (nL l)) (n : Int) p (tP n T) = some (.bool (runC eC (crs n X (f + 1) l) p).1, (runC eC (crs n X (f + 1) l) p).2) := by
  have n5 := h.n5
  have e : (iL (nL l)).length = l.length := by rw [iL_len, nL_len]
  have hL := wxm94_6_B_L N n X T h rec f l hl x y hx hy hrec n 0 N p (by omega) (by omega) (by omega)
  rw [Nat.sub_zero, ← List.range_eq_range'] at hL
  unfold m94_6_B
  rw [grd_t e, brn_ef (by omega), grd_t (by omega), grd_t (by rw [show tP n T = tblP n T.1 T.2.1 T.2.2 from rfl, tbl_len h.tb]; omega), show m94_6_B_L0 N rec l.length (x : Int) (y : Int) (iL (nL l)) (n : Int) (tP n T) N 0 p = _ from hL, bnd_t]
  show _ = some (PV.bool (runC eC ((List.range n).flatMap (cr1 n X f l)) p).1, (runC eC ((List.range n).flatMap (cr1 n X f l)) p).2)
  unfold outL
  cases hb : (runC eC ((List.range n).flatMap (cr1 n X f l)) p).1 with
  | true => rw [if_pos rfl]
  | false => rw [if_neg (by simp)]
theorem wxm94_6_ok (N n : Nat) (hN : 5000 ≤ N) (X : List (List Nat)) (T : T3) (h : Xp n X T) : ∀ (f fu : Nat) (l : List Nat) (x y : Nat) (p : Int), l.length + f = n → f < fu → Bs x l → Bs y (sts X l) →
    m94_6 N fu l.length (x : Int) (y : Int) (iL (nL l)) (n : Int) p (tP n T) = some (.bool (runC eC (crs n X f l) p).1, (runC eC (crs n X f l) p).2)
  | f, 0, _, _, _, _, _, hf, _, _ => by omega
  | 0, fu + 1, l, x, y, p, hl, _, _, _ => by
    rw [m94_6]
    exact both_same (wxm94_6_A_leaf N n X T h _ l (by omega) _ _ p) (wxm94_6_B_leaf N n X T h _ l (by omega) _ _ p)
  | f + 1, fu + 1, l, x, y, p, hl, hf, hx, hy => by
    rw [m94_6]
    have hr : ∀ d, d < n → ∀ (x' y' : Nat), Bs x' (l ++ [d]) → Bs y' (sts X (l ++ [d])) → ∀ p, m94_6 N fu (l.length + 1) (x' : Int) (y' : Int) (iL (nL (l ++ [d]))) (n : Int) p (tP n T) = some (.bool (runC eC (crs n X f (l ++ [d])) p).1, (runC eC (crs n X f (l ++ [d])) p).2) := by
      intro d _ x' y' hx' hy' p'
      have := wxm94_6_ok N n hN X T h f fu (l ++ [d]) x' y' p' (by simp; omega) (by omega) hx' hy'
      rwa [List.length_append, List.length_singleton] at this
    exact both_same (wxm94_6_A_node N n hN X T h _ f l hl x y hx hy hr p) (wxm94_6_B_node N n hN X T h _ f l hl x y hx hy hr p)
theorem wxm94_5_L (N n : Nat) (hN : 5000 ≤ N) (X : List (List Nat)) (T : T3) (h : Xp n X T) (f : Nat) (hl : f + 1 = n) :
    ∀ (g d fuel : Nat) (p : Int), n - d = g → g < fuel → d ≤ n → m94_5_L0 N 0 0 (n : Int) (tP n T) fuel (d : Int) p = some (outL (runC eC ((List.range' d (n - d)).flatMap (cr1 n X f [])) p))
  | g, d, 0, _, _, hf, _ => by omega
  | g, d, fuel + 1, p, hg, hf, hd => by
    have n5 := h.n5
    have hx : Bs 0 ([] : List Nat) := ⟨by decide, fun s _ => by simp⟩
    have hy : Bs 0 (sts X []) := ⟨by decide, fun s _ => by simp [sts]⟩
    rw [m94_5_L0]
    by_cases hdn : d < n
    · have ha := h.a 0 d (by omega) hdn
      have hs := h.s 0 d (by omega) hdn
      have ih := fun q => wxm94_5_L N n hN X T h f hl (g - 1) (d + 1) fuel q (by omega) (by omega) (by omega)
      rw [Nat.zero_mul, Nat.zero_add] at ha
      simp only [toNatN]
      rw [brn_dt (by omega), grd_t (by omega), grd_t (by rw [show tP n T = tblP n T.1 T.2.1 T.2.2 from rfl, tbl_len h.tb]; omega), show tP n T = tblP n T.1 T.2.1 T.2.2 from rfl, gp_a h.tb (by omega), ha, getI_t, wrapN (by omega), range'_step hdn, List.flatMap_cons, runC_app]
      have b1 := b_tst0 0 (by decide) d (by omega)
      have b2 := b_tst0 0 (by decide) (sx X 0 d) (by omega)
      have o1 := b_or 0 (by decide) d (by omega)
      have o2 := b_or 0 (by decide) (sx X 0 d) (by omega)
      have hk := wxm94_6_ok N n hN X T h f N [d] (0 ||| 2 ^ d) (0 ||| 2 ^ sx X 0 d) p (by simp; omega) (by omega) (hx.add (l := []) (by omega)) (by
        have := sts_app X [] d
        rw [List.nil_append] at this
        rw [this]; exact hy.add (by show sx X 0 d < 5; omega))
      have e : cr1 n X f [] d = crs n X f [d] := by unfold cr1; rw [if_neg (by simp [sts])]; rfl
      have z1 : (0 : Nat).testBit d = false := Nat.zero_testBit d
      have z2 : (0 : Nat).testBit (sx X 0 d) = false := Nat.zero_testBit _
      rw [z1] at b1
      rw [z2] at b2
      rw [show ((0 : Nat) : Int) = 0 from rfl] at b1 b2 o1 o2
      rw [brn_t b1, grd_t (by omega), toNatN, brn_t b2, o1, o2]
      rw [show m94_6 N N 1 ((0 ||| 2 ^ d : Nat) : Int) ((0 ||| 2 ^ sx X 0 d : Nat) : Int) [PV.int .i64 (d : Int)] (n : Int) p (tblP n T.1 T.2.1 T.2.2) = _ from hk, bnd_t, getB_t, e]
      cases hb : (runC eC (crs n X f [d]) p).1 with
      | true => rw [brn_t rfl, if_pos rfl]; exact ih _
      | false => rw [brn_f rfl, if_neg (by simp)]; rfl
    · rw [brn_df (by rw [toNatN]; omega), show n - d = 0 by omega]; rfl
theorem wxm94_5_ok (N n : Nat) (hN : 5000 ≤ N) (X : List (List Nat)) (T : T3) (h : Xp n X T) (p : Int) : m94_5 N 0 0 (n : Int) p (tP n T) = some (.bool (runC eC (crs n X n []) p).1, (runC eC (crs n X n []) p).2) := by
  have n1 := h.n1
  have n5 := h.n5
  obtain ⟨f, rfl⟩ : ∃ f, n = f + 1 := ⟨n - 1, by omega⟩
  have hL := wxm94_5_L N (f + 1) hN X T h f rfl (f + 1) 0 N p (by omega) (by omega) (by omega)
  rw [Nat.sub_zero, ← List.range_eq_range'] at hL
  unfold m94_5
  rw [brn_ef (by omega), grd_t ⟨by omega, by omega, by rw [show tP (f + 1) T = tblP (f + 1) T.1 T.2.1 T.2.2 from rfl, tbl_len h.tb]; omega⟩, show m94_5_L0 N 0 0 ((f + 1 : Nat) : Int) (tP (f + 1) T) N 0 p = _ from hL, bnd_t]
  show _ = some (PV.bool (runC eC ((List.range (f + 1)).flatMap (cr1 (f + 1) X f [])) p).1, (runC eC ((List.range (f + 1)).flatMap (cr1 (f + 1) X f [])) p).2)
  unfold outL
  cases hb : (runC eC ((List.range (f + 1)).flatMap (cr1 (f + 1) X f [])) p).1 with
  | true => rw [if_pos rfl]
  | false => rw [if_neg (by simp)]
theorem ext_pre {n : Nat} : ∀ (f : Nat) (l x : List Nat), x ∈ ext n f l → ∃ m, x = l ++ m
  | 0, l, x, h => ⟨[], by rw [List.mem_singleton.1 h]; simp⟩
  | f + 1, l, x, h => by
    unfold ext at h
    obtain ⟨s, _, h⟩ := List.mem_flatMap.1 h
    by_cases g : s ∈ l
    · rw [if_pos g] at h; cases h
    · rw [if_neg g] at h
      obtain ⟨m, e⟩ := ext_pre f (l ++ [s]) x h
      exact ⟨s :: m, by rw [e]; simp⟩
theorem sts_pre (X : List (List Nat)) (l : List Nat) : ∀ m, ∃ m', sts X (l ++ m) = sts X l ++ m'
  | [] => ⟨[], by simp⟩
  | d :: m => by
    obtain ⟨m', e⟩ := sts_pre X (l ++ [d]) m
    refine ⟨sx X l.length d :: m', ?_⟩
    rw [show l ++ d :: m = l ++ [d] ++ m by simp, e, sts_app]; simp
theorem filter_none {α : Type} {p : α → Bool} : ∀ {l : List α}, (∀ x ∈ l, p x = false) → l.filter p = []
  | [], _ => rfl
  | x :: l, h => by
    rw [List.filter_cons, h x (.head _), if_neg (by simp)]
    exact filter_none fun y hy => h y (.tail _ hy)
theorem flat_filter {α β : Type} {p : β → Bool} {g h : α → List β} : ∀ {l : List α}, (∀ x ∈ l, g x = (h x).filter p) → l.flatMap g = (l.flatMap h).filter p
  | [], _ => rfl
  | x :: l, e => by
    rw [List.flatMap_cons, List.flatMap_cons, List.filter_append, e x (.head _), flat_filter fun y hy => e y (.tail _ hy)]
theorem crs_ext (n : Nat) (X : List (List Nat)) : ∀ (f : Nat) (l : List Nat), (sts X l).Nodup → crs n X f l = (ext n f l).filter fun x => decide (sts X x).Nodup
  | 0, l, h => by simp [crs, ext, h]
  | f + 1, l, h => by
    unfold crs ext
    refine flat_filter fun d _ => ?_
    by_cases h1 : d ∈ l
    · rw [if_pos (.inl h1), if_pos h1]; rfl
    · rw [if_neg h1]
      by_cases h2 : sx X l.length d ∈ sts X l
      · rw [if_pos (.inr h2)]
        symm
        refine filter_none fun x hx => ?_
        obtain ⟨m, e⟩ := ext_pre f (l ++ [d]) x hx
        obtain ⟨m', e'⟩ := sts_pre X (l ++ [d]) m
        rw [decide_eq_false_iff_not, e, e', sts_app]
        intro hn
        have := (List.nodup_append.1 (List.nodup_append.1 hn).1).2.2 _ h2 (sx X l.length d) (by simp)
        exact this rfl
      · rw [if_neg (by rintro (q | q); exact h1 q; exact h2 q)]
        refine crs_ext n X f (l ++ [d]) ?_
        rw [sts_app, List.nodup_append]
        refine ⟨h, by simp, fun a ha b hb e => ?_⟩
        simp only [List.mem_singleton] at hb
        exact h2 (hb ▸ e ▸ ha)
theorem vp_ext {n : Nat} {X : List (List Nat)} {D : List Nat} (h : Vp n X D) : ∀ x ∈ X, x ∈ ext n n [] := by
  induction h with
  | nil => intro x hx; cases hx
  | snoc X D x h hx hf ih =>
    intro y hy
    rcases List.mem_append.1 hy with hy | hy
    · exact ih y hy
    · rw [List.mem_singleton.1 hy]; exact hx
theorem vp_sx {n : Nat} {X : List (List Nat)} {D : List Nat} (h : Vp n X D) {j d : Nat} (hj : j < X.length) (hd : d < n) : sx X j d < n ∧ (X.getD j []).length = n := by
  have hm : X.getD j [] ∈ X := by simp [List.getD, hj]
  have he := vp_ext h _ hm
  have hl := (ext_get he).1
  rw [List.length_nil, Nat.zero_add] at hl
  exact ⟨ext_lt (by simp) he _ (gn_mem (by omega)), hl⟩
theorem rp_xp {n : Nat} (n1 : 1 ≤ n) (n5 : n ≤ 5) {X : List (List Nat)} {D : List Nat} (h : Vp n X D) (hX : X.length = n) {T : T3} (hT : Rp (X.map nL) n [] 0 T) : Xp n X T := ⟨n1, n5, hT.tv.tb, fun j d hj hd => by
  have hv := vp_sx h (j := j) (d := d) (by omega) hd
  have e1 : ro (X.map nL) j = nL (X.getD j []) := by simp [ro, List.getD, hX, hj]
  rw [hT.a j d (by omega) (by omega), if_pos hj, e1, if_pos (by rw [nL_len]; omega), nL_en (by omega)]; rfl, fun j d hj hd => (vp_sx h (by omega) hd).1⟩
def crx (n : Nat) (X : List (List Nat)) : List (List Nat) := (ext n n []).filter fun x => decide (sts X x).Nodup
theorem crs_all (n : Nat) (X : List (List Nat)) : crs n X n [] = crx n X := crs_ext n X n [] (by simp [sts])
theorem crx_le {n : Nat} (hn : n ≤ 5) (X : List (List Nat)) : (crx n X).length ≤ 3125 := by
  have h1 := ext_card (n := n) n []
  have h2 := pow5 (f := n) hn hn
  have h3 := List.length_filter_le (fun x => decide (sts X x).Nodup) (ext n n [])
  unfold crx; omega
theorem runC_eF : ∀ (l : List (List Nat)) (p : PV), runC eF l p = match l with | [] => (true, p) | x :: _ => (false, rwP (nL x))
  | [], _ => rfl
  | _ :: _, _ => rfl
theorem runC_eC : ∀ (l : List (List Nat)) (k : Nat), k + l.length ≤ 100000 → runC eC l (k : Int) = (true, ((k + l.length : Nat) : Int))
  | [], k, _ => rfl
  | x :: l, k, h => by
    rw [List.length_cons] at h
    show (if (eC x (k : Int)).1 then runC eC l (eC x (k : Int)).2 else _) = _
    simp only [eC, if_true]
    rw [wrapN (by omega), runC_eC l (k + 1) (by omega), List.length_cons, show k + 1 + l.length = k + (l.length + 1) by omega]
structure Pl (n : Nat) (X : List (List Nat)) : Prop where
  row : ∀ x ∈ X, x ∈ ext n n []
  col : X.Pairwise fun a b => ∀ d, d < n → gn a d ≠ gn b d
theorem Vp.pl {n : Nat} {X : List (List Nat)} {D : List Nat} (h : Vp n X D) : Pl n X := by
  refine ⟨vp_mem h, ?_⟩
  induction h with
  | nil => exact .nil
  | snoc X D x h hx hf ih =>
    rw [List.pairwise_append]
    refine ⟨ih, List.pairwise_singleton _ _, fun a ha b hb => ?_⟩
    obtain rfl := List.mem_singleton.1 hb
    exact (fit_iff (fun q hq => ext_len (vp_mem h q hq)) b).1 hf a ha
theorem Pl.vp {n : Nat} : ∀ (m : Nat) {X : List (List Nat)}, Pl n X → m ≤ X.length → ∃ D, Vp n (X.take m) D
  | 0, _, _, _ => ⟨_, .nil⟩
  | m + 1, X, h, hm => by
    obtain ⟨D, hV⟩ := Pl.vp m h (by omega)
    have hm' : m < X.length := by omega
    rw [List.take_succ_eq_append_getElem hm']
    refine ⟨_, .snoc _ D _ hV (h.row _ (List.getElem_mem hm')) ((fit_iff (fun q hq => ext_len (h.row q (List.mem_of_mem_take hq))) _).2 fun q hq j hj => ?_)⟩
    obtain ⟨i, hi, rfl⟩ := List.getElem_of_mem hq
    rw [List.length_take] at hi
    rw [List.getElem_take]
    exact List.pairwise_iff_getElem.1 h.col i m (by omega) hm' (by omega) j hj
theorem Pl.vp' {n : Nat} {X : List (List Nat)} (h : Pl n X) : ∃ D, Vp n X D := by
  have := Pl.vp X.length h (Nat.le_refl _)
  rwa [List.take_length] at this
def swp {α : Type} (i k : Nat) (d : α) (l : List α) : List α := (l.set i (l.getD k d)).set k (l.getD i d)
def tau (i k j : Nat) : Nat := if j = k then i else if j = i then k else j
theorem swp_len {α : Type} {i k : Nat} {d : α} {l : List α} : (swp i k d l).length = l.length := by simp [swp]
theorem swp_get {α : Type} {i k : Nat} {d : α} {l : List α} (hi : i < l.length) (hk : k < l.length) (j : Nat) : (swp i k d l).getD j d = l.getD (tau i k j) d := by
  unfold swp tau
  simp only [List.getD, List.getElem?_set, List.length_set]
  by_cases h1 : k = j
  · subst h1; rw [if_pos rfl, if_pos hk, if_pos rfl]; rfl
  · have h1' : ¬ j = k := fun h => h1 h.symm
    rw [if_neg h1]
    by_cases h2 : i = j
    · subst h2; rw [if_pos rfl, if_pos hi, if_neg h1', if_pos rfl]; rfl
    · have h2' : ¬ j = i := fun h => h2 h.symm
      rw [if_neg h2, if_neg h1', if_neg h2']
theorem tau_tau (i k j : Nat) : tau i k (tau i k j) = j := by
  unfold tau
  by_cases h1 : j = k
  · rw [if_pos h1]
    by_cases h2 : i = k
    · rw [if_pos h2, h1, h2]
    · rw [if_neg h2, if_pos rfl, h1]
  · rw [if_neg h1]
    by_cases h2 : j = i
    · rw [if_pos h2, if_pos rfl, h2]
    · rw [if_neg h2, if_neg h1, if_neg h2]
theorem tau_lt {i k j n : Nat} (hi : i < n) (hk : k < n) (hj : j < n) : tau i k j < n := by
  unfold tau
  split
  · exact hi
  · split
    · exact hk
    · exact hj
structure Pq (n : Nat) (X : List (List Nat)) : Prop where
  len : X.length = n
  row : ∀ j, j < n → X.getD j [] ∈ ext n n []
  col : ∀ j, j < n → ∀ k, k < n → j ≠ k → ∀ d, d < n → gn (X.getD j []) d ≠ gn (X.getD k []) d
theorem Pq.pl {n : Nat} {X : List (List Nat)} (h : Pq n X) : Pl n X := by
  have hg : ∀ j (hj : j < X.length), X[j] = X.getD j [] := fun j hj => by simp [List.getD, hj]
  refine ⟨fun x hx => ?_, ?_⟩
  · obtain ⟨j, hj, rfl⟩ := List.getElem_of_mem hx
    rw [hg j hj]; exact h.row j (by rw [← h.len]; exact hj)
  · rw [List.pairwise_iff_getElem]
    intro j k hj hk hjk d hd
    rw [hg j hj, hg k hk]
    exact h.col j (by rw [← h.len]; exact hj) k (by rw [← h.len]; exact hk) (by omega) d hd
def prR (n : Nat) : Bool := (List.range n).all fun i => (List.range n).all fun k => ((ext n n []).map (swp i k 0)).isPerm (ext n n [])
def prC (n : Nat) : Bool := (List.range n).all fun i => (List.range n).all fun k => ((ext n n []).map fun x => x.map (tau i k)).isPerm (ext n n [])
theorem prR1 : prR 1 = true := by decide +kernel
theorem prR2 : prR 2 = true := by decide +kernel
theorem prR3 : prR 3 = true := by decide +kernel
theorem prR4 : prR 4 = true := by decide +kernel
theorem prR5 : prR 5 = true := by decide +kernel
theorem prC1 : prC 1 = true := by decide +kernel
theorem prC2 : prC 2 = true := by decide +kernel
theorem prC3 : prC 3 = true := by decide +kernel
theorem prC4 : prC 4 = true := by decide +kernel
theorem prC5 : prC 5 = true := by decide +kernel
theorem pr_all {n : Nat} (h1 : 1 ≤ n) (h5 : n ≤ 5) : prR n = true ∧ prC n = true := by
  match n, h1, h5 with
  | 1, _, _ => exact ⟨prR1, prC1⟩
  | 2, _, _ => exact ⟨prR2, prC2⟩
  | 3, _, _ => exact ⟨prR3, prC3⟩
  | 4, _, _ => exact ⟨prR4, prC4⟩
  | 5, _, _ => exact ⟨prR5, prC5⟩
theorem nd_range (n : Nat) (f : Nat → Nat) : ((List.range n).map f).Nodup ↔ ∀ a, a < n → ∀ b, b < n → f a = f b → a = b := by
  unfold List.Nodup
  rw [List.pairwise_map, List.pairwise_iff_getElem]
  simp only [List.length_range, List.getElem_range]
  constructor
  · intro h a ha b hb e
    rcases Nat.lt_trichotomy a b with q | q | q
    · exact absurd e (h a b ha hb q)
    · exact q
    · exact absurd e.symm (h b a hb ha q)
  · intro h a b ha hb hab e
    have := h a ha b hb e
    omega
theorem cnt_perm {L : List (List Nat)} {g : List Nat → List Nat} {P P' : List Nat → Bool} (hp : (L.map g).isPerm L = true) (h : ∀ x ∈ L, P' (g x) = P x) : (L.filter P').length = (L.filter P).length := by
  have e1 := (List.isPerm_iff.1 hp).countP_eq P'
  rw [List.countP_map] at e1
  rw [← List.countP_eq_length_filter, ← List.countP_eq_length_filter, ← e1]
  exact List.countP_congr fun x hx => by show P' (g x) = true ↔ _; rw [h x hx]
theorem row_crx {n i k : Nat} (h1 : 1 ≤ n) (h5 : n ≤ 5) (hi : i < n) (hk : k < n) {X : List (List Nat)} (hX : X.length = n) : (crx n (swp i k [] X)).length = (crx n X).length := by
  have hp := (pr_all h1 h5).1
  unfold prR at hp
  have hp' := List.all_eq_true.1 (List.all_eq_true.1 hp i (List.mem_range.2 hi)) k (List.mem_range.2 hk)
  refine cnt_perm hp' fun x hx => ?_
  have hl : x.length = n := by have := (ext_get hx).1; simpa using this
  rw [decide_eq_decide]
  unfold sts
  rw [swp_len, hl, nd_range, nd_range]
  have hf : ∀ a, sx (swp i k [] X) a (gn (swp i k 0 x) a) = sx X (tau i k a) (gn x (tau i k a)) := fun a => by
    unfold sx
    rw [swp_get (by omega) (by omega)]
    congr 1
    exact swp_get (by omega) (by omega) a
  constructor
  · intro h a ha b hb e
    have := h (tau i k a) (tau_lt hi hk ha) (tau i k b) (tau_lt hi hk hb) (by rw [hf, hf, tau_tau, tau_tau]; exact e)
    rw [← tau_tau i k a, this, tau_tau]
  · intro h a ha b hb e
    rw [hf, hf] at e
    have := h (tau i k a) (tau_lt hi hk ha) (tau i k b) (tau_lt hi hk hb) e
    rw [← tau_tau i k a, this, tau_tau]
theorem map_getD {X : List (List Nat)} {f : List Nat → List Nat} {j : Nat} (h : j < X.length) : (X.map f).getD j [] = f (X.getD j []) := by simp [List.getD, h]
theorem col_crx {n i k : Nat} (h1 : 1 ≤ n) (h5 : n ≤ 5) (hi : i < n) (hk : k < n) {X : List (List Nat)} (hX : Pq n X) : (crx n (X.map (swp i k 0))).length = (crx n X).length := by
  have hp := (pr_all h1 h5).2
  unfold prC at hp
  have hp' := List.all_eq_true.1 (List.all_eq_true.1 hp i (List.mem_range.2 hi)) k (List.mem_range.2 hk)
  refine cnt_perm hp' fun x hx => ?_
  have hl : x.length = n := by have := (ext_get hx).1; simpa using this
  have he : sts (X.map (swp i k 0)) (x.map (tau i k)) = sts X x := by
    unfold sts
    rw [List.length_map, hl]
    refine List.map_congr_left fun j hj => ?_
    have hj' := List.mem_range.1 hj
    have hr := hX.row j hj'
    have hrl : (X.getD j []).length = n := by have := (ext_get hr).1; simpa using this
    unfold sx
    rw [map_getD (by rw [hX.len]; exact hj')]
    have e1 : gn (x.map (tau i k)) j = tau i k (gn x j) := by simp [gn, List.getD, show j < x.length by omega]
    rw [e1]
    show (swp i k 0 (X.getD j [])).getD (tau i k (gn x j)) 0 = _
    rw [swp_get (by omega) (by omega), tau_tau]; rfl
  show decide (sts _ _).Nodup = _
  rw [he]
theorem Pq.swR {n i k : Nat} {X : List (List Nat)} (h : Pq n X) (hi : i < n) (hk : k < n) : Pq n (swp i k [] X) := by
  have hl := h.len
  refine ⟨by rw [swp_len]; exact hl, fun j hj => ?_, fun j hj m hm hne d hd => ?_⟩
  · rw [swp_get (by omega) (by omega)]; exact h.row _ (tau_lt hi hk hj)
  · rw [swp_get (by omega) (by omega), swp_get (by omega) (by omega)]
    exact h.col _ (tau_lt hi hk hj) _ (tau_lt hi hk hm) (fun e => hne (by rw [← tau_tau i k j, e, tau_tau])) d hd
theorem swp_ext {n i k : Nat} (h1 : 1 ≤ n) (h5 : n ≤ 5) (hi : i < n) (hk : k < n) {x : List Nat} (hx : x ∈ ext n n []) : swp i k 0 x ∈ ext n n [] := by
  have hp := (pr_all h1 h5).1
  unfold prR at hp
  have hp' := List.all_eq_true.1 (List.all_eq_true.1 hp i (List.mem_range.2 hi)) k (List.mem_range.2 hk)
  exact (List.isPerm_iff.1 hp').mem_iff.1 (List.mem_map.2 ⟨x, hx, rfl⟩)
theorem Pq.swC {n i k : Nat} {X : List (List Nat)} (h1 : 1 ≤ n) (h5 : n ≤ 5) (h : Pq n X) (hi : i < n) (hk : k < n) : Pq n (X.map (swp i k 0)) := by
  have hl := h.len
  refine ⟨by rw [List.length_map]; exact hl, fun j hj => ?_, fun j hj m hm hne d hd => ?_⟩
  · rw [map_getD (by omega)]; exact swp_ext h1 h5 hi hk (h.row j hj)
  · have l1 : (X.getD j []).length = n := by have := (ext_get (h.row j hj)).1; simpa using this
    have l2 : (X.getD m []).length = n := by have := (ext_get (h.row m hm)).1; simpa using this
    rw [map_getD (by omega), map_getD (by omega)]
    have e1 : gn (swp i k 0 (X.getD j [])) d = gn (X.getD j []) (tau i k d) := swp_get (by omega) (by omega) d
    have e2 : gn (swp i k 0 (X.getD m [])) d = gn (X.getD m []) (tau i k d) := swp_get (by omega) (by omega) d
    rw [e1, e2]
    exact h.col j hj m hm hne _ (tau_lt hi hk hd)
structure Pv (n v : Nat) (X : List (List Nat)) : Prop where
  n1 : 1 ≤ n
  n5 : n ≤ 5
  pq : Pq n X
  c : (crx n X).length = v
theorem Pv.swR {n v i k : Nat} {X : List (List Nat)} (h : Pv n v X) (hi : i < n) (hk : k < n) : Pv n v (swp i k [] X) := ⟨h.n1, h.n5, h.pq.swR hi hk, by rw [row_crx h.n1 h.n5 hi hk h.pq.len]; exact h.c⟩
theorem Pv.swC {n v i k : Nat} {X : List (List Nat)} (h : Pv n v X) (hi : i < n) (hk : k < n) : Pv n v (X.map (swp i k 0)) := ⟨h.n1, h.n5, h.pq.swC h.n1 h.n5 hi hk, by rw [col_crx h.n1 h.n5 hi hk h.pq]; exact h.c⟩
def rN (n : Nat) : List (List Nat) := (List.range n).map fun i => (List.range n).map fun j => (i + j) % n
theorem rN1 : Pv 1 1 (rN 1) := ⟨by decide, by decide, ⟨rfl, by decide +kernel, by decide +kernel⟩, by decide +kernel⟩
theorem rN2 : Pv 2 0 (rN 2) := ⟨by decide, by decide, ⟨rfl, by decide +kernel, by decide +kernel⟩, by decide +kernel⟩
theorem rN3 : Pv 3 3 (rN 3) := ⟨by decide, by decide, ⟨rfl, by decide +kernel, by decide +kernel⟩, by decide +kernel⟩
theorem rN4 : Pv 4 0 (rN 4) := ⟨by decide, by decide, ⟨rfl, by decide +kernel, by decide +kernel⟩, by decide +kernel⟩
theorem rN5 : Pv 5 15 (rN 5) := ⟨by decide, by decide, ⟨rfl, by decide +kernel, by decide +kernel⟩, by decide +kernel⟩
theorem casI_t {α : Type} {n v : Int} {a b : Option α} (h : n = v) : casI n v a b = a := by simp [casI, h]
theorem casI_f {α : Type} {n v : Int} {a b : Option α} (h : n ≠ v) : casI n v a b = b := by simp [casI, h]
theorem getI_t8 {α : Type} {x : Int} {f : Int → Option α} : getI .u8 (.int .u8 x) f = f x := by simp [getI]
theorem nL_set (l : List Nat) (k v : Nat) : (iL (nL l)).set k (.int .i64 (v : Int)) = iL (nL (l.set k v)) := by rw [iL_set]; simp [nL, List.map_set]
theorem set2 (l : List Nat) (i k : Nat) : ((iL (nL l)).set i (.int .i64 (gn l k : Int))).set k (.int .i64 (gn l i : Int)) = iL (nL (swp i k 0 l)) := by rw [nL_set, nL_set]; rfl
theorem gI_r {α : Type} {l : List Nat} {k : Nat} {f : Int → Option α} (h : k < l.length) : getI .i64 (gp (iL (nL l)) k) f = f (gn l k : Int) := by rw [iL_gp (by rw [nL_len]; exact h), getI_t, nL_en h]
theorem lgr {l : List Nat} {n : Nat} (h : l.length = n) : (iL (nL l)).length = n := by rw [iL_len, nL_len]; exact h
def cl (X : List (List Nat)) (j : Nat) : List PV := iL (nL (X.getD j []))
theorem cl_sw {X : List (List Nat)} {i k : Nat} (hi : i < X.length) (hk : k < X.length) (j : Nat) : cl (swp i k [] X) j = cl X (tau i k j) := by unfold cl; rw [swp_get hi hk]
theorem cl_map {X : List (List Nat)} {i k j : Nat} (h : j < X.length) : cl (X.map (swp i k 0)) j = iL (nL (swp i k 0 (X.getD j []))) := by unfold cl; rw [map_getD h]
theorem cross_n (N : Nat) (hN : 5000 ≤ N) (n : Nat) (n1 : 1 ≤ n) (n5 : n ≤ 5) (X : List (List Nat)) (D : List Nat) (hV : Vp n X D) (hX : X.length = n) :
    m33 N (n : Int) (.lst false n (rwsP (X.map nL))) = some (.tup [rwP (match crx n X with | [] => [] | y :: _ => nL y), .int .i64 (match crx n X with | [] => 12 | _ :: _ => 0)]) ∧ m35 N (n : Int) (.lst false n (rwsP (X.map nL))) = some (.tup [.int .i64 ((crx n X).length : Nat), .int .i64 0]) := by
  have hlen : (X.map nL).length = X.length := List.length_map ..
  have hl := vp_len hV
  have hch := vp_chk n1 n5 hV (by omega)
  obtain ⟨T, e, hT⟩ := opened_ok N (by omega) n n (X.map nL) (by omega) (fun r hr => by rw [hl r hr]; omega)
  have hT' := hT hch []
  rw [hlen] at e hT'
  rw [hX, hch] at e
  rw [hX] at hT'
  have hxp := rp_xp n1 n5 hV hX hT'
  have hle := crx_le (n := n) n5 X
  constructor
  · rw [m33, getL_t, m74, getL_t, e, bnd_t]
    unfold opE
    rw [if_pos rfl, toNatN]
    dsimp only
    rw [brn_nf rfl, brn_df (by omega), wxm94_2_ok N n hN X T hxp .nl, crs_all, runC_eF, bnd_t]
    cases hcx : crx n X with
    | nil => dsimp only; rw [getB_t, bnd_t]; rfl
    | cons y l =>
      have hy := (ext_get (List.mem_filter.1 (show y ∈ (ext n n []).filter _ from hcx ▸ List.Mem.head _)).1).1
      rw [List.length_nil] at hy
      dsimp only
      rw [getB_t, bnd_t]
      dsimp only
      rw [getI_t, brn_et rfl]
      unfold rwP
      rw [show ∀ (n : Nat) (c : List PV) (a : Option PV) (f : Nat → List PV → Option PV), getN (.lst false n c) a f = f n c from fun _ _ _ _ => rfl, grd_t (by rw [nL_len]; omega)]
  · rw [m35, getL_t, m74_2, getL_t, e, bnd_t]
    unfold opE
    rw [if_pos rfl, toNatN]
    dsimp only
    have hk := runC_eC (crx n X) 0 (by omega)
    rw [Nat.zero_add] at hk
    rw [brn_nf rfl, brn_df (by omega), wxm94_5_ok N n hN X T hxp 0, crs_all, show runC eC (crx n X) 0 = _ from hk, bnd_t]
    rfl
theorem er1_0 (N : Nat) (s0 s1 s2 s3 s4 : Nat) (h : s0 < 256) (q0 q1 q2 q3 q4 : PV) (f : Nat) (X : List (List Nat)) (hX : X.length = 1) : m9_L8 N (.int .u8 (s0 : Int)) (.int .u8 (s1 : Int)) (.int .u8 (s2 : Int)) (.int .u8 (s3 : Int)) (.int .u8 (s4 : Int)) q0 q1 q2 q3 q4 (f + 1) 0  = m9_L8 N (.int .u8 (s0 : Int)) (.int .u8 (s1 : Int)) (.int .u8 (s2 : Int)) (.int .u8 (s3 : Int)) (.int .u8 (s4 : Int)) q0 q1 q2 q3 q4 f 1  := by
  have ek : Int.tmod (IntKind.i64.wrap (s0 : Int)) (IntKind.i64.wrap (0 + 1)) = ((s0 % 1 : Nat) : Int) := by
    rw [show IntKind.i64.wrap (0 + 1) = ((1 : Nat) : Int) by decide]; exact wr0 h
  have hm : s0 % 1 = 0 := by omega
  rcases hm with hm
  · rw [m9_L8, brn_dt (by decide), grd_t ⟨by decide, by decide⟩, grd_t (by decide), show gp [.int .u8 (s0 : Int), .int .u8 (s1 : Int), .int .u8 (s2 : Int), .int .u8 (s3 : Int), .int .u8 (s4 : Int)] (Int.toNat 0) = .int .u8 (s0 : Int) from rfl, getI_t8, grd_t (by decide), ek, hm, casI_t (by decide), casI_t rfl]
theorem ec1_0 (N : Nat) (t0 t1 t2 t3 t4 : Nat) (h : t0 < 256) (f : Nat) (X : List (List Nat)) (hX : X.length = 1) (hl : ∀ j, j < 1 → (X.getD j []).length = 1) : m9_L9 N (.int .u8 (t0 : Int)) (.int .u8 (t1 : Int)) (.int .u8 (t2 : Int)) (.int .u8 (t3 : Int)) (.int .u8 (t4 : Int)) (f + 1) 0 (cl X 0) = m9_L9 N (.int .u8 (t0 : Int)) (.int .u8 (t1 : Int)) (.int .u8 (t2 : Int)) (.int .u8 (t3 : Int)) (.int .u8 (t4 : Int)) f 1 (cl (X.map (swp 0 (t0 % 1) 0)) 0) := by
  have ek : Int.tmod (IntKind.i64.wrap (t0 : Int)) (IntKind.i64.wrap (0 + 1)) = ((t0 % 1 : Nat) : Int) := by
    rw [show IntKind.i64.wrap (0 + 1) = ((1 : Nat) : Int) by decide]; exact wr0 h
  have hk : t0 % 1 < 1 := Nat.mod_lt _ (by decide)
  have l0 := hl 0 (by decide)
  rw [m9_L9, brn_dt (by decide), grd_t ⟨by decide, by decide⟩, grd_t (by decide), show gp [.int .u8 (t0 : Int), .int .u8 (t1 : Int), .int .u8 (t2 : Int), .int .u8 (t3 : Int), .int .u8 (t4 : Int)] (Int.toNat 0) = .int .u8 (t0 : Int) from rfl, getI_t8, grd_t (by decide), ek, grd_t ⟨by omega, by omega⟩, toNatN, show Int.toNat 0 = 0 from rfl, show IntKind.i64.wrap (0 + 1) = 1 by decide, cl_map (j := 0) (by omega)]
  unfold cl
  rw [grd_t (by rw [lgr l0]; omega), gI_r (by omega), grd_t (by decide), grd_t (by rw [lgr l0]; omega), gI_r (by omega), grd_t (by rw [lgr l0]; omega), grd_t (by rw [lgr l0]; omega)]
  rw [set2]
theorem er1 (N v : Nat) (s0 s1 s2 s3 s4 : Nat) (h : ∀ j, j < 5 → gn [s0, s1, s2, s3, s4] j < 256) (q0 q1 q2 q3 q4 : PV) (f : Nat) (X : List (List Nat)) (hX : Pv 1 v X) : ∃ Y, Pv 1 v Y ∧ m9_L8 N (.int .u8 (s0 : Int)) (.int .u8 (s1 : Int)) (.int .u8 (s2 : Int)) (.int .u8 (s3 : Int)) (.int .u8 (s4 : Int)) q0 q1 q2 q3 q4 (f + 2) 0  = some () := by
  have p0 := hX
  have p1 := p0.swR (i := 0) (k := s0 % 1) (by decide) (by have := Nat.mod_lt s0 (show 0 < 1 by decide); omega)
  refine ⟨_, p1, ?_⟩
  rw [show f + 2 = f + 1 + 1 from rfl, er1_0 N s0 s1 s2 s3 s4 (h 0 (by decide)) q0 q1 q2 q3 q4 _ _ p0.pq.len]
  rw [m9_L8, brn_df (by decide)]
theorem ec1 (N v : Nat) (t0 t1 t2 t3 t4 : Nat) (h : ∀ j, j < 5 → gn [t0, t1, t2, t3, t4] j < 256) (f : Nat) (X : List (List Nat)) (hX : Pv 1 v X) : ∃ Y, Pv 1 v Y ∧ m9_L9 N (.int .u8 (t0 : Int)) (.int .u8 (t1 : Int)) (.int .u8 (t2 : Int)) (.int .u8 (t3 : Int)) (.int .u8 (t4 : Int)) (f + 2) 0 (cl X 0) = some (cl Y 0) := by
  have p0 := hX
  have p1 := p0.swC (i := 0) (k := t0 % 1) (by decide) (by have := Nat.mod_lt t0 (show 0 < 1 by decide); omega)
  have hq : ∀ Z, Pv 1 v Z → ∀ j, j < 1 → (Z.getD j []).length = 1 := fun Z hZ j hj => by have := (ext_get (hZ.pq.row j hj)).1; simpa using this
  refine ⟨_, p1, ?_⟩
  rw [show f + 2 = f + 1 + 1 from rfl, ec1_0 N t0 t1 t2 t3 t4 (h 0 (by decide)) _ _ p0.pq.len (hq _ p0)]
  rw [m9_L9, brn_df (by decide)]
set_option maxRecDepth 100000 in
theorem ea1 : m42 5000 1 = some (.lst false 1 (rwsP ((rN 1).map nL))) ∧ m21_2 5000 (.lst false 1 (rwsP ((rN 1).map nL))) [.int .i64 0] = some (.bool true) ∧ m31 5000 6 = some (.tup [.lst false 0 [], .int .i64 1]) := ⟨by kernel_rfl, by kernel_rfl, by kernel_rfl⟩
theorem el1 (a : Nat) (ha : a < 256) (hn : 1 + a % 5 = 1) (s0 s1 s2 s3 s4 : Nat) (hs : ∀ j, j < 5 → gn [s0, s1, s2, s3, s4] j < 256) (t0 t1 t2 t3 t4 : Nat) (ht : ∀ j, j < 5 → gn [t0, t1, t2, t3, t4] j < 256) : m9 5000 (a : Int) (.agg [.int .u8 (s0 : Int), .int .u8 (s1 : Int), .int .u8 (s2 : Int), .int .u8 (s3 : Int), .int .u8 (s4 : Int)]) (.agg [.int .u8 (t0 : Int), .int .u8 (t1 : Int), .int .u8 (t2 : Int), .int .u8 (t3 : Int), .int .u8 (t4 : Int)]) = some (.bool true) := by
  obtain ⟨Y, hY, eY⟩ := er1 5000 1 s0 s1 s2 s3 s4 hs (.int .u8 (t0 : Int)) (.int .u8 (t1 : Int)) (.int .u8 (t2 : Int)) (.int .u8 (t3 : Int)) (.int .u8 (t4 : Int)) 4998 (rN 1) rN1
  obtain ⟨Z, hZ, eZ⟩ := ec1 5000 1 t0 t1 t2 t3 t4 ht 4998 (rN 1) rN1
  obtain ⟨D, hV⟩ := hZ.pq.pl.vp'
  have hcr := (cross_n 5000 (by decide) 1 (by decide) (by decide) Z D hV hZ.pq.len).2
  rw [hZ.c] at hcr
  have hq : ∀ j, j < 1 → (Z.getD j []).length = 1 := fun j hj => by have := (ext_get (hZ.pq.row j hj)).1; simpa using this
  have eR : rwsP (Z.map nL) = [.lst false 1 (cl Z 0)] := by
    have hl := hZ.pq.len
    match Z, hl, hq with
    | [z0], _, hq =>
      have w0 : z0.length = 1 := hq 0 (by decide)
      simp only [rwsP, rwP, List.map_cons, List.map_nil, nL_len, w0]; rfl
  rw [eR] at hcr
  have m16t : m16 5000 = some (.bool true) := rfl
  obtain ⟨e42, e21, e31⟩ := ea1
  rw [m9, show ∀ (p q r s t : PV) (k : PV → PV → PV → PV → PV → Option PV), getA5 (.agg [p, q, r, s, t]) k = k p q r s t from fun _ _ _ _ _ _ => rfl, show ∀ (p q r s t : PV) (k : PV → PV → PV → PV → PV → Option PV), getA5 (.agg [p, q, r, s, t]) k = k p q r s t from fun _ _ _ _ _ _ => rfl, grd_t (by decide), wr8 a ha, hn, casI_t (by decide), e42, bnd_t, getL_t, e21, bnd_t, getB_t, brn_t rfl]
  rw [show m9_L8 5000 (.int .u8 (s0 : Int)) (.int .u8 (s1 : Int)) (.int .u8 (s2 : Int)) (.int .u8 (s3 : Int)) (.int .u8 (s4 : Int)) (.int .u8 (t0 : Int)) (.int .u8 (t1 : Int)) (.int .u8 (t2 : Int)) (.int .u8 (t3 : Int)) (.int .u8 (t4 : Int)) 5000 0  = _ from eY, bnd_t]
  rw [show m9_L9 5000 (.int .u8 (t0 : Int)) (.int .u8 (t1 : Int)) (.int .u8 (t2 : Int)) (.int .u8 (t3 : Int)) (.int .u8 (t4 : Int)) 5000 0 [.int .i64 0] = _ from eZ, bnd_t]
  rw [grd_t (show (cl Z 0).length = 1 from lgr (hq 0 (by decide))), show m35 5000 1 (.lst false 1 [.lst false 1 (cl Z 0)]) = _ from hcr, bnd_t, getT2_t, getI_t, getI_t, e31, bnd_t, getT2_t, getL_t, getI_t, brn_et rfl, m43, getL_t, bnd_t, getL_t, grd_t (by decide), grd_t (by simp), show gp [PV.int .i64 0, .int .i64 1, .int .i64 0, .int .i64 3, .int .i64 0, .int .i64 15] 1 = .int .i64 1 from rfl, getI_t, brn_et (by decide), brn_et (by decide), m16t, bnd_t, getB_t]
theorem er2_0 (N : Nat) (s0 s1 s2 s3 s4 : Nat) (h : s0 < 256) (q0 q1 q2 q3 q4 : PV) (f : Nat) (X : List (List Nat)) (hX : X.length = 2) : m9_L6 N (.int .u8 (s0 : Int)) (.int .u8 (s1 : Int)) (.int .u8 (s2 : Int)) (.int .u8 (s3 : Int)) (.int .u8 (s4 : Int)) q0 q1 q2 q3 q4 (f + 1) 0 (cl X 0) (cl X 1) = m9_L6 N (.int .u8 (s0 : Int)) (.int .u8 (s1 : Int)) (.int .u8 (s2 : Int)) (.int .u8 (s3 : Int)) (.int .u8 (s4 : Int)) q0 q1 q2 q3 q4 f 1 (cl (swp 0 (s0 % 1) [] X) 0) (cl (swp 0 (s0 % 1) [] X) 1) := by
  have ek : Int.tmod (IntKind.i64.wrap (s0 : Int)) (IntKind.i64.wrap (0 + 1)) = ((s0 % 1 : Nat) : Int) := by
    rw [show IntKind.i64.wrap (0 + 1) = ((1 : Nat) : Int) by decide]; exact wr0 h
  have hm : s0 % 1 = 0 := by omega
  rcases hm with hm
  · rw [m9_L6, brn_dt (by decide), grd_t ⟨by decide, by decide⟩, grd_t (by decide), show gp [.int .u8 (s0 : Int), .int .u8 (s1 : Int), .int .u8 (s2 : Int), .int .u8 (s3 : Int), .int .u8 (s4 : Int)] (Int.toNat 0) = .int .u8 (s0 : Int) from rfl, getI_t8, grd_t (by decide), ek, hm, casI_t (by decide), casI_t rfl, cl_sw (by omega) (by omega) 0, cl_sw (by omega) (by omega) 1]; rfl
theorem ec2_0 (N : Nat) (t0 t1 t2 t3 t4 : Nat) (h : t0 < 256) (f : Nat) (X : List (List Nat)) (hX : X.length = 2) (hl : ∀ j, j < 2 → (X.getD j []).length = 2) : m9_L7 N (.int .u8 (t0 : Int)) (.int .u8 (t1 : Int)) (.int .u8 (t2 : Int)) (.int .u8 (t3 : Int)) (.int .u8 (t4 : Int)) (f + 1) 0 (cl X 0) (cl X 1) = m9_L7 N (.int .u8 (t0 : Int)) (.int .u8 (t1 : Int)) (.int .u8 (t2 : Int)) (.int .u8 (t3 : Int)) (.int .u8 (t4 : Int)) f 1 (cl (X.map (swp 0 (t0 % 1) 0)) 0) (cl (X.map (swp 0 (t0 % 1) 0)) 1) := by
  have ek : Int.tmod (IntKind.i64.wrap (t0 : Int)) (IntKind.i64.wrap (0 + 1)) = ((t0 % 1 : Nat) : Int) := by
    rw [show IntKind.i64.wrap (0 + 1) = ((1 : Nat) : Int) by decide]; exact wr0 h
  have hk : t0 % 1 < 1 := Nat.mod_lt _ (by decide)
  have l0 := hl 0 (by decide)
  have l1 := hl 1 (by decide)
  rw [m9_L7, brn_dt (by decide), grd_t ⟨by decide, by decide⟩, grd_t (by decide), show gp [.int .u8 (t0 : Int), .int .u8 (t1 : Int), .int .u8 (t2 : Int), .int .u8 (t3 : Int), .int .u8 (t4 : Int)] (Int.toNat 0) = .int .u8 (t0 : Int) from rfl, getI_t8, grd_t (by decide), ek, grd_t ⟨by omega, by omega⟩, toNatN, show Int.toNat 0 = 0 from rfl, show IntKind.i64.wrap (0 + 1) = 1 by decide, cl_map (j := 0) (by omega), cl_map (j := 1) (by omega)]
  unfold cl
  rw [grd_t (by rw [lgr l0]; omega), gI_r (by omega), grd_t (by decide), grd_t (by rw [lgr l0]; omega), gI_r (by omega), grd_t (by rw [lgr l0]; omega), grd_t (by rw [lgr l0]; omega), grd_t (by rw [lgr l1]; omega), gI_r (by omega), grd_t (by rw [lgr l1]; omega), gI_r (by omega), grd_t (by rw [lgr l1]; omega), grd_t (by rw [lgr l1]; omega)]
  rw [set2, set2]
theorem er2_1 (N : Nat) (s0 s1 s2 s3 s4 : Nat) (h : s1 < 256) (q0 q1 q2 q3 q4 : PV) (f : Nat) (X : List (List Nat)) (hX : X.length = 2) : m9_L6 N (.int .u8 (s0 : Int)) (.int .u8 (s1 : Int)) (.int .u8 (s2 : Int)) (.int .u8 (s3 : Int)) (.int .u8 (s4 : Int)) q0 q1 q2 q3 q4 (f + 1) 1 (cl X 0) (cl X 1) = m9_L6 N (.int .u8 (s0 : Int)) (.int .u8 (s1 : Int)) (.int .u8 (s2 : Int)) (.int .u8 (s3 : Int)) (.int .u8 (s4 : Int)) q0 q1 q2 q3 q4 f 2 (cl (swp 1 (s1 % 2) [] X) 0) (cl (swp 1 (s1 % 2) [] X) 1) := by
  have ek : Int.tmod (IntKind.i64.wrap (s1 : Int)) (IntKind.i64.wrap (1 + 1)) = ((s1 % 2 : Nat) : Int) := by
    rw [show IntKind.i64.wrap (1 + 1) = ((2 : Nat) : Int) by decide]; exact wr0 h
  have hm : s1 % 2 = 0 ∨ s1 % 2 = 1 := by omega
  rcases hm with hm | hm
  · rw [m9_L6, brn_dt (by decide), grd_t ⟨by decide, by decide⟩, grd_t (by decide), show gp [.int .u8 (s0 : Int), .int .u8 (s1 : Int), .int .u8 (s2 : Int), .int .u8 (s3 : Int), .int .u8 (s4 : Int)] (Int.toNat 1) = .int .u8 (s1 : Int) from rfl, getI_t8, grd_t (by decide), ek, hm, casI_t (by decide), casI_f (by decide), casI_t rfl, cl_sw (by omega) (by omega) 0, cl_sw (by omega) (by omega) 1]; rfl
  · rw [m9_L6, brn_dt (by decide), grd_t ⟨by decide, by decide⟩, grd_t (by decide), show gp [.int .u8 (s0 : Int), .int .u8 (s1 : Int), .int .u8 (s2 : Int), .int .u8 (s3 : Int), .int .u8 (s4 : Int)] (Int.toNat 1) = .int .u8 (s1 : Int) from rfl, getI_t8, grd_t (by decide), ek, hm, casI_f (by decide), casI_t (by decide), casI_f (by decide), casI_t rfl, cl_sw (by omega) (by omega) 0, cl_sw (by omega) (by omega) 1]; rfl
theorem ec2_1 (N : Nat) (t0 t1 t2 t3 t4 : Nat) (h : t1 < 256) (f : Nat) (X : List (List Nat)) (hX : X.length = 2) (hl : ∀ j, j < 2 → (X.getD j []).length = 2) : m9_L7 N (.int .u8 (t0 : Int)) (.int .u8 (t1 : Int)) (.int .u8 (t2 : Int)) (.int .u8 (t3 : Int)) (.int .u8 (t4 : Int)) (f + 1) 1 (cl X 0) (cl X 1) = m9_L7 N (.int .u8 (t0 : Int)) (.int .u8 (t1 : Int)) (.int .u8 (t2 : Int)) (.int .u8 (t3 : Int)) (.int .u8 (t4 : Int)) f 2 (cl (X.map (swp 1 (t1 % 2) 0)) 0) (cl (X.map (swp 1 (t1 % 2) 0)) 1) := by
  have ek : Int.tmod (IntKind.i64.wrap (t1 : Int)) (IntKind.i64.wrap (1 + 1)) = ((t1 % 2 : Nat) : Int) := by
    rw [show IntKind.i64.wrap (1 + 1) = ((2 : Nat) : Int) by decide]; exact wr0 h
  have hk : t1 % 2 < 2 := Nat.mod_lt _ (by decide)
  have l0 := hl 0 (by decide)
  have l1 := hl 1 (by decide)
  rw [m9_L7, brn_dt (by decide), grd_t ⟨by decide, by decide⟩, grd_t (by decide), show gp [.int .u8 (t0 : Int), .int .u8 (t1 : Int), .int .u8 (t2 : Int), .int .u8 (t3 : Int), .int .u8 (t4 : Int)] (Int.toNat 1) = .int .u8 (t1 : Int) from rfl, getI_t8, grd_t (by decide), ek, grd_t ⟨by omega, by omega⟩, toNatN, show Int.toNat 1 = 1 from rfl, show IntKind.i64.wrap (1 + 1) = 2 by decide, cl_map (j := 0) (by omega), cl_map (j := 1) (by omega)]
  unfold cl
  rw [grd_t (by rw [lgr l0]; omega), gI_r (by omega), grd_t (by decide), grd_t (by rw [lgr l0]; omega), gI_r (by omega), grd_t (by rw [lgr l0]; omega), grd_t (by rw [lgr l0]; omega), grd_t (by rw [lgr l1]; omega), gI_r (by omega), grd_t (by rw [lgr l1]; omega), gI_r (by omega), grd_t (by rw [lgr l1]; omega), grd_t (by rw [lgr l1]; omega)]
  rw [set2, set2]
theorem er2 (N v : Nat) (s0 s1 s2 s3 s4 : Nat) (h : ∀ j, j < 5 → gn [s0, s1, s2, s3, s4] j < 256) (q0 q1 q2 q3 q4 : PV) (f : Nat) (X : List (List Nat)) (hX : Pv 2 v X) : ∃ Y, Pv 2 v Y ∧ m9_L6 N (.int .u8 (s0 : Int)) (.int .u8 (s1 : Int)) (.int .u8 (s2 : Int)) (.int .u8 (s3 : Int)) (.int .u8 (s4 : Int)) q0 q1 q2 q3 q4 (f + 3) 0 (cl X 0) (cl X 1) = some (cl Y 0, cl Y 1) := by
  have p0 := hX
  have p1 := p0.swR (i := 0) (k := s0 % 1) (by decide) (by have := Nat.mod_lt s0 (show 0 < 1 by decide); omega)
  have p2 := p1.swR (i := 1) (k := s1 % 2) (by decide) (by have := Nat.mod_lt s1 (show 0 < 2 by decide); omega)
  refine ⟨_, p2, ?_⟩
  rw [show f + 3 = f + 2 + 1 from rfl, er2_0 N s0 s1 s2 s3 s4 (h 0 (by decide)) q0 q1 q2 q3 q4 _ _ p0.pq.len]
  rw [show f + 2 = f + 1 + 1 from rfl, er2_1 N s0 s1 s2 s3 s4 (h 1 (by decide)) q0 q1 q2 q3 q4 _ _ p1.pq.len]
  rw [m9_L6, brn_df (by decide)]
theorem ec2 (N v : Nat) (t0 t1 t2 t3 t4 : Nat) (h : ∀ j, j < 5 → gn [t0, t1, t2, t3, t4] j < 256) (f : Nat) (X : List (List Nat)) (hX : Pv 2 v X) : ∃ Y, Pv 2 v Y ∧ m9_L7 N (.int .u8 (t0 : Int)) (.int .u8 (t1 : Int)) (.int .u8 (t2 : Int)) (.int .u8 (t3 : Int)) (.int .u8 (t4 : Int)) (f + 3) 0 (cl X 0) (cl X 1) = some (cl Y 0, cl Y 1) := by
  have p0 := hX
  have p1 := p0.swC (i := 0) (k := t0 % 1) (by decide) (by have := Nat.mod_lt t0 (show 0 < 1 by decide); omega)
  have p2 := p1.swC (i := 1) (k := t1 % 2) (by decide) (by have := Nat.mod_lt t1 (show 0 < 2 by decide); omega)
  have hq : ∀ Z, Pv 2 v Z → ∀ j, j < 2 → (Z.getD j []).length = 2 := fun Z hZ j hj => by have := (ext_get (hZ.pq.row j hj)).1; simpa using this
  refine ⟨_, p2, ?_⟩
  rw [show f + 3 = f + 2 + 1 from rfl, ec2_0 N t0 t1 t2 t3 t4 (h 0 (by decide)) _ _ p0.pq.len (hq _ p0)]
  rw [show f + 2 = f + 1 + 1 from rfl, ec2_1 N t0 t1 t2 t3 t4 (h 1 (by decide)) _ _ p1.pq.len (hq _ p1)]
  rw [m9_L7, brn_df (by decide)]
set_option maxRecDepth 100000 in
theorem ea2 : m42 5000 2 = some (.lst false 2 (rwsP ((rN 2).map nL))) ∧ m21_3 5000 (.lst false 2 (rwsP ((rN 2).map nL))) [.int .i64 0, .int .i64 1] [.int .i64 1, .int .i64 0] = some (.bool true) ∧ m31 5000 7 = some (.tup [.lst false 0 [], .int .i64 1]) := ⟨by kernel_rfl, by kernel_rfl, by kernel_rfl⟩
theorem el2 (a : Nat) (ha : a < 256) (hn : 1 + a % 5 = 2) (s0 s1 s2 s3 s4 : Nat) (hs : ∀ j, j < 5 → gn [s0, s1, s2, s3, s4] j < 256) (t0 t1 t2 t3 t4 : Nat) (ht : ∀ j, j < 5 → gn [t0, t1, t2, t3, t4] j < 256) : m9 5000 (a : Int) (.agg [.int .u8 (s0 : Int), .int .u8 (s1 : Int), .int .u8 (s2 : Int), .int .u8 (s3 : Int), .int .u8 (s4 : Int)]) (.agg [.int .u8 (t0 : Int), .int .u8 (t1 : Int), .int .u8 (t2 : Int), .int .u8 (t3 : Int), .int .u8 (t4 : Int)]) = some (.bool true) := by
  obtain ⟨Y, hY, eY⟩ := er2 5000 0 s0 s1 s2 s3 s4 hs (.int .u8 (t0 : Int)) (.int .u8 (t1 : Int)) (.int .u8 (t2 : Int)) (.int .u8 (t3 : Int)) (.int .u8 (t4 : Int)) 4997 (rN 2) rN2
  obtain ⟨Z, hZ, eZ⟩ := ec2 5000 0 t0 t1 t2 t3 t4 ht 4997 Y hY
  obtain ⟨D, hV⟩ := hZ.pq.pl.vp'
  have hcr := (cross_n 5000 (by decide) 2 (by decide) (by decide) Z D hV hZ.pq.len).2
  rw [hZ.c] at hcr
  have hq : ∀ j, j < 2 → (Z.getD j []).length = 2 := fun j hj => by have := (ext_get (hZ.pq.row j hj)).1; simpa using this
  have eR : rwsP (Z.map nL) = [.lst false 2 (cl Z 0), .lst false 2 (cl Z 1)] := by
    have hl := hZ.pq.len
    match Z, hl, hq with
    | [z0, z1], _, hq =>
      have w0 : z0.length = 2 := hq 0 (by decide)
      have w1 : z1.length = 2 := hq 1 (by decide)
      simp only [rwsP, rwP, List.map_cons, List.map_nil, nL_len, w0, w1]; rfl
  rw [eR] at hcr
  have m16t : m16 5000 = some (.bool true) := rfl
  obtain ⟨e42, e21, e31⟩ := ea2
  rw [m9, show ∀ (p q r s t : PV) (k : PV → PV → PV → PV → PV → Option PV), getA5 (.agg [p, q, r, s, t]) k = k p q r s t from fun _ _ _ _ _ _ => rfl, show ∀ (p q r s t : PV) (k : PV → PV → PV → PV → PV → Option PV), getA5 (.agg [p, q, r, s, t]) k = k p q r s t from fun _ _ _ _ _ _ => rfl, grd_t (by decide), wr8 a ha, hn, casI_f (by decide), casI_t (by decide), e42, bnd_t, getL_t, e21, bnd_t, getB_t, brn_t rfl]
  rw [show m9_L6 5000 (.int .u8 (s0 : Int)) (.int .u8 (s1 : Int)) (.int .u8 (s2 : Int)) (.int .u8 (s3 : Int)) (.int .u8 (s4 : Int)) (.int .u8 (t0 : Int)) (.int .u8 (t1 : Int)) (.int .u8 (t2 : Int)) (.int .u8 (t3 : Int)) (.int .u8 (t4 : Int)) 5000 0 [.int .i64 0, .int .i64 1] [.int .i64 1, .int .i64 0] = _ from eY, bnd_t]
  dsimp only
  rw [show m9_L7 5000 (.int .u8 (t0 : Int)) (.int .u8 (t1 : Int)) (.int .u8 (t2 : Int)) (.int .u8 (t3 : Int)) (.int .u8 (t4 : Int)) 5000 0 (cl Y 0) (cl Y 1) = _ from eZ, bnd_t]
  dsimp only
  rw [grd_t (show (cl Z 0).length = 2 from lgr (hq 0 (by decide))), grd_t (show (cl Z 1).length = 2 from lgr (hq 1 (by decide))), show m35 5000 2 (.lst false 2 [.lst false 2 (cl Z 0), .lst false 2 (cl Z 1)]) = _ from hcr, bnd_t, getT2_t, getI_t, getI_t, e31, bnd_t, getT2_t, getL_t, getI_t, brn_et rfl, m43, getL_t, bnd_t, getL_t, grd_t (by decide), grd_t (by simp), show gp [PV.int .i64 0, .int .i64 1, .int .i64 0, .int .i64 3, .int .i64 0, .int .i64 15] 2 = .int .i64 0 from rfl, getI_t, brn_et (by decide), brn_et (by decide), m16t, bnd_t, getB_t]
theorem er3_0 (N : Nat) (s0 s1 s2 s3 s4 : Nat) (h : s0 < 256) (q0 q1 q2 q3 q4 : PV) (f : Nat) (X : List (List Nat)) (hX : X.length = 3) : m9_L4 N (.int .u8 (s0 : Int)) (.int .u8 (s1 : Int)) (.int .u8 (s2 : Int)) (.int .u8 (s3 : Int)) (.int .u8 (s4 : Int)) q0 q1 q2 q3 q4 (f + 1) 0 (cl X 0) (cl X 1) (cl X 2) = m9_L4 N (.int .u8 (s0 : Int)) (.int .u8 (s1 : Int)) (.int .u8 (s2 : Int)) (.int .u8 (s3 : Int)) (.int .u8 (s4 : Int)) q0 q1 q2 q3 q4 f 1 (cl (swp 0 (s0 % 1) [] X) 0) (cl (swp 0 (s0 % 1) [] X) 1) (cl (swp 0 (s0 % 1) [] X) 2) := by
  have ek : Int.tmod (IntKind.i64.wrap (s0 : Int)) (IntKind.i64.wrap (0 + 1)) = ((s0 % 1 : Nat) : Int) := by
    rw [show IntKind.i64.wrap (0 + 1) = ((1 : Nat) : Int) by decide]; exact wr0 h
  have hm : s0 % 1 = 0 := by omega
  rcases hm with hm
  · rw [m9_L4, brn_dt (by decide), grd_t ⟨by decide, by decide⟩, grd_t (by decide), show gp [.int .u8 (s0 : Int), .int .u8 (s1 : Int), .int .u8 (s2 : Int), .int .u8 (s3 : Int), .int .u8 (s4 : Int)] (Int.toNat 0) = .int .u8 (s0 : Int) from rfl, getI_t8, grd_t (by decide), ek, hm, casI_t (by decide), casI_t rfl, cl_sw (by omega) (by omega) 0, cl_sw (by omega) (by omega) 1, cl_sw (by omega) (by omega) 2]; rfl
theorem ec3_0 (N : Nat) (t0 t1 t2 t3 t4 : Nat) (h : t0 < 256) (f : Nat) (X : List (List Nat)) (hX : X.length = 3) (hl : ∀ j, j < 3 → (X.getD j []).length = 3) : m9_L5 N (.int .u8 (t0 : Int)) (.int .u8 (t1 : Int)) (.int .u8 (t2 : Int)) (.int .u8 (t3 : Int)) (.int .u8 (t4 : Int)) (f + 1) 0 (cl X 0) (cl X 1) (cl X 2) = m9_L5 N (.int .u8 (t0 : Int)) (.int .u8 (t1 : Int)) (.int .u8 (t2 : Int)) (.int .u8 (t3 : Int)) (.int .u8 (t4 : Int)) f 1 (cl (X.map (swp 0 (t0 % 1) 0)) 0) (cl (X.map (swp 0 (t0 % 1) 0)) 1) (cl (X.map (swp 0 (t0 % 1) 0)) 2) := by
  have ek : Int.tmod (IntKind.i64.wrap (t0 : Int)) (IntKind.i64.wrap (0 + 1)) = ((t0 % 1 : Nat) : Int) := by
    rw [show IntKind.i64.wrap (0 + 1) = ((1 : Nat) : Int) by decide]; exact wr0 h
  have hk : t0 % 1 < 1 := Nat.mod_lt _ (by decide)
  have l0 := hl 0 (by decide)
  have l1 := hl 1 (by decide)
  have l2 := hl 2 (by decide)
  rw [m9_L5, brn_dt (by decide), grd_t ⟨by decide, by decide⟩, grd_t (by decide), show gp [.int .u8 (t0 : Int), .int .u8 (t1 : Int), .int .u8 (t2 : Int), .int .u8 (t3 : Int), .int .u8 (t4 : Int)] (Int.toNat 0) = .int .u8 (t0 : Int) from rfl, getI_t8, grd_t (by decide), ek, grd_t ⟨by omega, by omega⟩, toNatN, show Int.toNat 0 = 0 from rfl, show IntKind.i64.wrap (0 + 1) = 1 by decide, cl_map (j := 0) (by omega), cl_map (j := 1) (by omega), cl_map (j := 2) (by omega)]
  unfold cl
  rw [grd_t (by rw [lgr l0]; omega), gI_r (by omega), grd_t (by decide), grd_t (by rw [lgr l0]; omega), gI_r (by omega), grd_t (by rw [lgr l0]; omega), grd_t (by rw [lgr l0]; omega), grd_t (by rw [lgr l1]; omega), gI_r (by omega), grd_t (by rw [lgr l1]; omega), gI_r (by omega), grd_t (by rw [lgr l1]; omega), grd_t (by rw [lgr l1]; omega), grd_t (by rw [lgr l2]; omega), gI_r (by omega), grd_t (by rw [lgr l2]; omega), gI_r (by omega), grd_t (by rw [lgr l2]; omega), grd_t (by rw [lgr l2]; omega)]
  rw [set2, set2, set2]
theorem er3_1 (N : Nat) (s0 s1 s2 s3 s4 : Nat) (h : s1 < 256) (q0 q1 q2 q3 q4 : PV) (f : Nat) (X : List (List Nat)) (hX : X.length = 3) : m9_L4 N (.int .u8 (s0 : Int)) (.int .u8 (s1 : Int)) (.int .u8 (s2 : Int)) (.int .u8 (s3 : Int)) (.int .u8 (s4 : Int)) q0 q1 q2 q3 q4 (f + 1) 1 (cl X 0) (cl X 1) (cl X 2) = m9_L4 N (.int .u8 (s0 : Int)) (.int .u8 (s1 : Int)) (.int .u8 (s2 : Int)) (.int .u8 (s3 : Int)) (.int .u8 (s4 : Int)) q0 q1 q2 q3 q4 f 2 (cl (swp 1 (s1 % 2) [] X) 0) (cl (swp 1 (s1 % 2) [] X) 1) (cl (swp 1 (s1 % 2) [] X) 2) := by
  have ek : Int.tmod (IntKind.i64.wrap (s1 : Int)) (IntKind.i64.wrap (1 + 1)) = ((s1 % 2 : Nat) : Int) := by
    rw [show IntKind.i64.wrap (1 + 1) = ((2 : Nat) : Int) by decide]; exact wr0 h
  have hm : s1 % 2 = 0 ∨ s1 % 2 = 1 := by omega
  rcases hm with hm | hm
  · rw [m9_L4, brn_dt (by decide), grd_t ⟨by decide, by decide⟩, grd_t (by decide), show gp [.int .u8 (s0 : Int), .int .u8 (s1 : Int), .int .u8 (s2 : Int), .int .u8 (s3 : Int), .int .u8 (s4 : Int)] (Int.toNat 1) = .int .u8 (s1 : Int) from rfl, getI_t8, grd_t (by decide), ek, hm, casI_t (by decide), casI_f (by decide), casI_t rfl, cl_sw (by omega) (by omega) 0, cl_sw (by omega) (by omega) 1, cl_sw (by omega) (by omega) 2]; rfl
  · rw [m9_L4, brn_dt (by decide), grd_t ⟨by decide, by decide⟩, grd_t (by decide), show gp [.int .u8 (s0 : Int), .int .u8 (s1 : Int), .int .u8 (s2 : Int), .int .u8 (s3 : Int), .int .u8 (s4 : Int)] (Int.toNat 1) = .int .u8 (s1 : Int) from rfl, getI_t8, grd_t (by decide), ek, hm, casI_f (by decide), casI_t (by decide), casI_f (by decide), casI_t rfl, cl_sw (by omega) (by omega) 0, cl_sw (by omega) (by omega) 1, cl_sw (by omega) (by omega) 2]; rfl
theorem ec3_1 (N : Nat) (t0 t1 t2 t3 t4 : Nat) (h : t1 < 256) (f : Nat) (X : List (List Nat)) (hX : X.length = 3) (hl : ∀ j, j < 3 → (X.getD j []).length = 3) : m9_L5 N (.int .u8 (t0 : Int)) (.int .u8 (t1 : Int)) (.int .u8 (t2 : Int)) (.int .u8 (t3 : Int)) (.int .u8 (t4 : Int)) (f + 1) 1 (cl X 0) (cl X 1) (cl X 2) = m9_L5 N (.int .u8 (t0 : Int)) (.int .u8 (t1 : Int)) (.int .u8 (t2 : Int)) (.int .u8 (t3 : Int)) (.int .u8 (t4 : Int)) f 2 (cl (X.map (swp 1 (t1 % 2) 0)) 0) (cl (X.map (swp 1 (t1 % 2) 0)) 1) (cl (X.map (swp 1 (t1 % 2) 0)) 2) := by
  have ek : Int.tmod (IntKind.i64.wrap (t1 : Int)) (IntKind.i64.wrap (1 + 1)) = ((t1 % 2 : Nat) : Int) := by
    rw [show IntKind.i64.wrap (1 + 1) = ((2 : Nat) : Int) by decide]; exact wr0 h
  have hk : t1 % 2 < 2 := Nat.mod_lt _ (by decide)
  have l0 := hl 0 (by decide)
  have l1 := hl 1 (by decide)
  have l2 := hl 2 (by decide)
  rw [m9_L5, brn_dt (by decide), grd_t ⟨by decide, by decide⟩, grd_t (by decide), show gp [.int .u8 (t0 : Int), .int .u8 (t1 : Int), .int .u8 (t2 : Int), .int .u8 (t3 : Int), .int .u8 (t4 : Int)] (Int.toNat 1) = .int .u8 (t1 : Int) from rfl, getI_t8, grd_t (by decide), ek, grd_t ⟨by omega, by omega⟩, toNatN, show Int.toNat 1 = 1 from rfl, show IntKind.i64.wrap (1 + 1) = 2 by decide, cl_map (j := 0) (by omega), cl_map (j := 1) (by omega), cl_map (j := 2) (by omega)]
  unfold cl
  rw [grd_t (by rw [lgr l0]; omega), gI_r (by omega), grd_t (by decide), grd_t (by rw [lgr l0]; omega), gI_r (by omega), grd_t (by rw [lgr l0]; omega), grd_t (by rw [lgr l0]; omega), grd_t (by rw [lgr l1]; omega), gI_r (by omega), grd_t (by rw [lgr l1]; omega), gI_r (by omega), grd_t (by rw [lgr l1]; omega), grd_t (by rw [lgr l1]; omega), grd_t (by rw [lgr l2]; omega), gI_r (by omega), grd_t (by rw [lgr l2]; omega), gI_r (by omega), grd_t (by rw [lgr l2]; omega), grd_t (by rw [lgr l2]; omega)]
  rw [set2, set2, set2]
theorem er3_2 (N : Nat) (s0 s1 s2 s3 s4 : Nat) (h : s2 < 256) (q0 q1 q2 q3 q4 : PV) (f : Nat) (X : List (List Nat)) (hX : X.length = 3) : m9_L4 N (.int .u8 (s0 : Int)) (.int .u8 (s1 : Int)) (.int .u8 (s2 : Int)) (.int .u8 (s3 : Int)) (.int .u8 (s4 : Int)) q0 q1 q2 q3 q4 (f + 1) 2 (cl X 0) (cl X 1) (cl X 2) = m9_L4 N (.int .u8 (s0 : Int)) (.int .u8 (s1 : Int)) (.int .u8 (s2 : Int)) (.int .u8 (s3 : Int)) (.int .u8 (s4 : Int)) q0 q1 q2 q3 q4 f 3 (cl (swp 2 (s2 % 3) [] X) 0) (cl (swp 2 (s2 % 3) [] X) 1) (cl (swp 2 (s2 % 3) [] X) 2) := by
  have ek : Int.tmod (IntKind.i64.wrap (s2 : Int)) (IntKind.i64.wrap (2 + 1)) = ((s2 % 3 : Nat) : Int) := by
    rw [show IntKind.i64.wrap (2 + 1) = ((3 : Nat) : Int) by decide]; exact wr0 h
  have hm : s2 % 3 = 0 ∨ s2 % 3 = 1 ∨ s2 % 3 = 2 := by omega
  rcases hm with hm | hm | hm
  · rw [m9_L4, brn_dt (by decide), grd_t ⟨by decide, by decide⟩, grd_t (by decide), show gp [.int .u8 (s0 : Int), .int .u8 (s1 : Int), .int .u8 (s2 : Int), .int .u8 (s3 : Int), .int .u8 (s4 : Int)] (Int.toNat 2) = .int .u8 (s2 : Int) from rfl, getI_t8, grd_t (by decide), ek, hm, casI_t (by decide), casI_f (by decide), casI_f (by decide), casI_t rfl, cl_sw (by omega) (by omega) 0, cl_sw (by omega) (by omega) 1, cl_sw (by omega) (by omega) 2]; rfl
  · rw [m9_L4, brn_dt (by decide), grd_t ⟨by decide, by decide⟩, grd_t (by decide), show gp [.int .u8 (s0 : Int), .int .u8 (s1 : Int), .int .u8 (s2 : Int), .int .u8 (s3 : Int), .int .u8 (s4 : Int)] (Int.toNat 2) = .int .u8 (s2 : Int) from rfl, getI_t8, grd_t (by decide), ek, hm, casI_f (by decide), casI_t (by decide), casI_f (by decide), casI_f (by decide), casI_t rfl, cl_sw (by omega) (by omega) 0, cl_sw (by omega) (by omega) 1, cl_sw (by omega) (by omega) 2]; rfl
  · rw [m9_L4, brn_dt (by decide), grd_t ⟨by decide, by decide⟩, grd_t (by decide), show gp [.int .u8 (s0 : Int), .int .u8 (s1 : Int), .int .u8 (s2 : Int), .int .u8 (s3 : Int), .int .u8 (s4 : Int)] (Int.toNat 2) = .int .u8 (s2 : Int) from rfl, getI_t8, grd_t (by decide), ek, hm, casI_f (by decide), casI_f (by decide), casI_t (by decide), casI_f (by decide), casI_f (by decide), casI_t rfl, cl_sw (by omega) (by omega) 0, cl_sw (by omega) (by omega) 1, cl_sw (by omega) (by omega) 2]; rfl
theorem ec3_2 (N : Nat) (t0 t1 t2 t3 t4 : Nat) (h : t2 < 256) (f : Nat) (X : List (List Nat)) (hX : X.length = 3) (hl : ∀ j, j < 3 → (X.getD j []).length = 3) : m9_L5 N (.int .u8 (t0 : Int)) (.int .u8 (t1 : Int)) (.int .u8 (t2 : Int)) (.int .u8 (t3 : Int)) (.int .u8 (t4 : Int)) (f + 1) 2 (cl X 0) (cl X 1) (cl X 2) = m9_L5 N (.int .u8 (t0 : Int)) (.int .u8 (t1 : Int)) (.int .u8 (t2 : Int)) (.int .u8 (t3 : Int)) (.int .u8 (t4 : Int)) f 3 (cl (X.map (swp 2 (t2 % 3) 0)) 0) (cl (X.map (swp 2 (t2 % 3) 0)) 1) (cl (X.map (swp 2 (t2 % 3) 0)) 2) := by
  have ek : Int.tmod (IntKind.i64.wrap (t2 : Int)) (IntKind.i64.wrap (2 + 1)) = ((t2 % 3 : Nat) : Int) := by
    rw [show IntKind.i64.wrap (2 + 1) = ((3 : Nat) : Int) by decide]; exact wr0 h
  have hk : t2 % 3 < 3 := Nat.mod_lt _ (by decide)
  have l0 := hl 0 (by decide)
  have l1 := hl 1 (by decide)
  have l2 := hl 2 (by decide)
  rw [m9_L5, brn_dt (by decide), grd_t ⟨by decide, by decide⟩, grd_t (by decide), show gp [.int .u8 (t0 : Int), .int .u8 (t1 : Int), .int .u8 (t2 : Int), .int .u8 (t3 : Int), .int .u8 (t4 : Int)] (Int.toNat 2) = .int .u8 (t2 : Int) from rfl, getI_t8, grd_t (by decide), ek, grd_t ⟨by omega, by omega⟩, toNatN, show Int.toNat 2 = 2 from rfl, show IntKind.i64.wrap (2 + 1) = 3 by decide, cl_map (j := 0) (by omega), cl_map (j := 1) (by omega), cl_map (j := 2) (by omega)]
  unfold cl
  rw [grd_t (by rw [lgr l0]; omega), gI_r (by omega), grd_t (by decide), grd_t (by rw [lgr l0]; omega), gI_r (by omega), grd_t (by rw [lgr l0]; omega), grd_t (by rw [lgr l0]; omega), grd_t (by rw [lgr l1]; omega), gI_r (by omega), grd_t (by rw [lgr l1]; omega), gI_r (by omega), grd_t (by rw [lgr l1]; omega), grd_t (by rw [lgr l1]; omega), grd_t (by rw [lgr l2]; omega), gI_r (by omega), grd_t (by rw [lgr l2]; omega), gI_r (by omega), grd_t (by rw [lgr l2]; omega), grd_t (by rw [lgr l2]; omega)]
  rw [set2, set2, set2]
theorem er3 (N v : Nat) (s0 s1 s2 s3 s4 : Nat) (h : ∀ j, j < 5 → gn [s0, s1, s2, s3, s4] j < 256) (q0 q1 q2 q3 q4 : PV) (f : Nat) (X : List (List Nat)) (hX : Pv 3 v X) : ∃ Y, Pv 3 v Y ∧ m9_L4 N (.int .u8 (s0 : Int)) (.int .u8 (s1 : Int)) (.int .u8 (s2 : Int)) (.int .u8 (s3 : Int)) (.int .u8 (s4 : Int)) q0 q1 q2 q3 q4 (f + 4) 0 (cl X 0) (cl X 1) (cl X 2) = some (cl Y 0, cl Y 1, cl Y 2) := by
  have p0 := hX
  have p1 := p0.swR (i := 0) (k := s0 % 1) (by decide) (by have := Nat.mod_lt s0 (show 0 < 1 by decide); omega)
  have p2 := p1.swR (i := 1) (k := s1 % 2) (by decide) (by have := Nat.mod_lt s1 (show 0 < 2 by decide); omega)
  have p3 := p2.swR (i := 2) (k := s2 % 3) (by decide) (by have := Nat.mod_lt s2 (show 0 < 3 by decide); omega)
  refine ⟨_, p3, ?_⟩
  rw [show f + 4 = f + 3 + 1 from rfl, er3_0 N s0 s1 s2 s3 s4 (h 0 (by decide)) q0 q1 q2 q3 q4 _ _ p0.pq.len]
  rw [show f + 3 = f + 2 + 1 from rfl, er3_1 N s0 s1 s2 s3 s4 (h 1 (by decide)) q0 q1 q2 q3 q4 _ _ p1.pq.len]
  rw [show f + 2 = f + 1 + 1 from rfl, er3_2 N s0 s1 s2 s3 s4 (h 2 (by decide)) q0 q1 q2 q3 q4 _ _ p2.pq.len]
  rw [m9_L4, brn_df (by decide)]
theorem ec3 (N v : Nat) (t0 t1 t2 t3 t4 : Nat) (h : ∀ j, j < 5 → gn [t0, t1, t2, t3, t4] j < 256) (f : Nat) (X : List (List Nat)) (hX : Pv 3 v X) : ∃ Y, Pv 3 v Y ∧ m9_L5 N (.int .u8 (t0 : Int)) (.int .u8 (t1 : Int)) (.int .u8 (t2 : Int)) (.int .u8 (t3 : Int)) (.int .u8 (t4 : Int)) (f + 4) 0 (cl X 0) (cl X 1) (cl X 2) = some (cl Y 0, cl Y 1, cl Y 2) := by
  have p0 := hX
  have p1 := p0.swC (i := 0) (k := t0 % 1) (by decide) (by have := Nat.mod_lt t0 (show 0 < 1 by decide); omega)
  have p2 := p1.swC (i := 1) (k := t1 % 2) (by decide) (by have := Nat.mod_lt t1 (show 0 < 2 by decide); omega)
  have p3 := p2.swC (i := 2) (k := t2 % 3) (by decide) (by have := Nat.mod_lt t2 (show 0 < 3 by decide); omega)
  have hq : ∀ Z, Pv 3 v Z → ∀ j, j < 3 → (Z.getD j []).length = 3 := fun Z hZ j hj => by have := (ext_get (hZ.pq.row j hj)).1; simpa using this
  refine ⟨_, p3, ?_⟩
  rw [show f + 4 = f + 3 + 1 from rfl, ec3_0 N t0 t1 t2 t3 t4 (h 0 (by decide)) _ _ p0.pq.len (hq _ p0)]
  rw [show f + 3 = f + 2 + 1 from rfl, ec3_1 N t0 t1 t2 t3 t4 (h 1 (by decide)) _ _ p1.pq.len (hq _ p1)]
  rw [show f + 2 = f + 1 + 1 from rfl, ec3_2 N t0 t1 t2 t3 t4 (h 2 (by decide)) _ _ p2.pq.len (hq _ p2)]
  rw [m9_L5, brn_df (by decide)]
set_option maxRecDepth 100000 in
theorem ea3 : m42 5000 3 = some (.lst false 3 (rwsP ((rN 3).map nL))) ∧ m21_4 5000 (.lst false 3 (rwsP ((rN 3).map nL))) [.int .i64 0, .int .i64 1, .int .i64 2] [.int .i64 1, .int .i64 2, .int .i64 0] [.int .i64 2, .int .i64 0, .int .i64 1] = some (.bool true) ∧ m31 5000 8 = some (.tup [.lst false 0 [], .int .i64 1]) := ⟨by kernel_rfl, by kernel_rfl, by kernel_rfl⟩
theorem el3 (a : Nat) (ha : a < 256) (hn : 1 + a % 5 = 3) (s0 s1 s2 s3 s4 : Nat) (hs : ∀ j, j < 5 → gn [s0, s1, s2, s3, s4] j < 256) (t0 t1 t2 t3 t4 : Nat) (ht : ∀ j, j < 5 → gn [t0, t1, t2, t3, t4] j < 256) : m9 5000 (a : Int) (.agg [.int .u8 (s0 : Int), .int .u8 (s1 : Int), .int .u8 (s2 : Int), .int .u8 (s3 : Int), .int .u8 (s4 : Int)]) (.agg [.int .u8 (t0 : Int), .int .u8 (t1 : Int), .int .u8 (t2 : Int), .int .u8 (t3 : Int), .int .u8 (t4 : Int)]) = some (.bool true) := by
  obtain ⟨Y, hY, eY⟩ := er3 5000 3 s0 s1 s2 s3 s4 hs (.int .u8 (t0 : Int)) (.int .u8 (t1 : Int)) (.int .u8 (t2 : Int)) (.int .u8 (t3 : Int)) (.int .u8 (t4 : Int)) 4996 (rN 3) rN3
  obtain ⟨Z, hZ, eZ⟩ := ec3 5000 3 t0 t1 t2 t3 t4 ht 4996 Y hY
  obtain ⟨D, hV⟩ := hZ.pq.pl.vp'
  have hcr := (cross_n 5000 (by decide) 3 (by decide) (by decide) Z D hV hZ.pq.len).2
  rw [hZ.c] at hcr
  have hq : ∀ j, j < 3 → (Z.getD j []).length = 3 := fun j hj => by have := (ext_get (hZ.pq.row j hj)).1; simpa using this
  have eR : rwsP (Z.map nL) = [.lst false 3 (cl Z 0), .lst false 3 (cl Z 1), .lst false 3 (cl Z 2)] := by
    have hl := hZ.pq.len
    match Z, hl, hq with
    | [z0, z1, z2], _, hq =>
      have w0 : z0.length = 3 := hq 0 (by decide)
      have w1 : z1.length = 3 := hq 1 (by decide)
      have w2 : z2.length = 3 := hq 2 (by decide)
      simp only [rwsP, rwP, List.map_cons, List.map_nil, nL_len, w0, w1, w2]; rfl
  rw [eR] at hcr
  have m16t : m16 5000 = some (.bool true) := rfl
  obtain ⟨e42, e21, e31⟩ := ea3
  rw [m9, show ∀ (p q r s t : PV) (k : PV → PV → PV → PV → PV → Option PV), getA5 (.agg [p, q, r, s, t]) k = k p q r s t from fun _ _ _ _ _ _ => rfl, show ∀ (p q r s t : PV) (k : PV → PV → PV → PV → PV → Option PV), getA5 (.agg [p, q, r, s, t]) k = k p q r s t from fun _ _ _ _ _ _ => rfl, grd_t (by decide), wr8 a ha, hn, casI_f (by decide), casI_f (by decide), casI_t (by decide), e42, bnd_t, getL_t, e21, bnd_t, getB_t, brn_t rfl]
  rw [show m9_L4 5000 (.int .u8 (s0 : Int)) (.int .u8 (s1 : Int)) (.int .u8 (s2 : Int)) (.int .u8 (s3 : Int)) (.int .u8 (s4 : Int)) (.int .u8 (t0 : Int)) (.int .u8 (t1 : Int)) (.int .u8 (t2 : Int)) (.int .u8 (t3 : Int)) (.int .u8 (t4 : Int)) 5000 0 [.int .i64 0, .int .i64 1, .int .i64 2] [.int .i64 1, .int .i64 2, .int .i64 0] [.int .i64 2, .int .i64 0, .int .i64 1] = _ from eY, bnd_t]
  dsimp only
  rw [show m9_L5 5000 (.int .u8 (t0 : Int)) (.int .u8 (t1 : Int)) (.int .u8 (t2 : Int)) (.int .u8 (t3 : Int)) (.int .u8 (t4 : Int)) 5000 0 (cl Y 0) (cl Y 1) (cl Y 2) = _ from eZ, bnd_t]
  dsimp only
  rw [grd_t (show (cl Z 0).length = 3 from lgr (hq 0 (by decide))), grd_t (show (cl Z 1).length = 3 from lgr (hq 1 (by decide))), grd_t (show (cl Z 2).length = 3 from lgr (hq 2 (by decide))), show m35 5000 3 (.lst false 3 [.lst false 3 (cl Z 0), .lst false 3 (cl Z 1), .lst false 3 (cl Z 2)]) = _ from hcr, bnd_t, getT2_t, getI_t, getI_t, e31, bnd_t, getT2_t, getL_t, getI_t, brn_et rfl, m43, getL_t, bnd_t, getL_t, grd_t (by decide), grd_t (by simp), show gp [PV.int .i64 0, .int .i64 1, .int .i64 0, .int .i64 3, .int .i64 0, .int .i64 15] 3 = .int .i64 3 from rfl, getI_t, brn_et (by decide), brn_et (by decide), m16t, bnd_t, getB_t]
theorem er4_0 (N : Nat) (s0 s1 s2 s3 s4 : Nat) (h : s0 < 256) (q0 q1 q2 q3 q4 : PV) (f : Nat) (X : List (List Nat)) (hX : X.length = 4) : m9_L2 N (.int .u8 (s0 : Int)) (.int .u8 (s1 : Int)) (.int .u8 (s2 : Int)) (.int .u8 (s3 : Int)) (.int .u8 (s4 : Int)) q0 q1 q2 q3 q4 (f + 1) 0 (cl X 0) (cl X 1) (cl X 2) (cl X 3) = m9_L2 N (.int .u8 (s0 : Int)) (.int .u8 (s1 : Int)) (.int .u8 (s2 : Int)) (.int .u8 (s3 : Int)) (.int .u8 (s4 : Int)) q0 q1 q2 q3 q4 f 1 (cl (swp 0 (s0 % 1) [] X) 0) (cl (swp 0 (s0 % 1) [] X) 1) (cl (swp 0 (s0 % 1) [] X) 2) (cl (swp 0 (s0 % 1) [] X) 3) := by
  have ek : Int.tmod (IntKind.i64.wrap (s0 : Int)) (IntKind.i64.wrap (0 + 1)) = ((s0 % 1 : Nat) : Int) := by
    rw [show IntKind.i64.wrap (0 + 1) = ((1 : Nat) : Int) by decide]; exact wr0 h
  have hm : s0 % 1 = 0 := by omega
  rcases hm with hm
  · rw [m9_L2, brn_dt (by decide), grd_t ⟨by decide, by decide⟩, grd_t (by decide), show gp [.int .u8 (s0 : Int), .int .u8 (s1 : Int), .int .u8 (s2 : Int), .int .u8 (s3 : Int), .int .u8 (s4 : Int)] (Int.toNat 0) = .int .u8 (s0 : Int) from rfl, getI_t8, grd_t (by decide), ek, hm, casI_t (by decide), casI_t rfl, cl_sw (by omega) (by omega) 0, cl_sw (by omega) (by omega) 1, cl_sw (by omega) (by omega) 2, cl_sw (by omega) (by omega) 3]; rfl
theorem ec4_0 (N : Nat) (t0 t1 t2 t3 t4 : Nat) (h : t0 < 256) (f : Nat) (X : List (List Nat)) (hX : X.length = 4) (hl : ∀ j, j < 4 → (X.getD j []).length = 4) : m9_L3 N (.int .u8 (t0 : Int)) (.int .u8 (t1 : Int)) (.int .u8 (t2 : Int)) (.int .u8 (t3 : Int)) (.int .u8 (t4 : Int)) (f + 1) 0 (cl X 0) (cl X 1) (cl X 2) (cl X 3) = m9_L3 N (.int .u8 (t0 : Int)) (.int .u8 (t1 : Int)) (.int .u8 (t2 : Int)) (.int .u8 (t3 : Int)) (.int .u8 (t4 : Int)) f 1 (cl (X.map (swp 0 (t0 % 1) 0)) 0) (cl (X.map (swp 0 (t0 % 1) 0)) 1) (cl (X.map (swp 0 (t0 % 1) 0)) 2) (cl (X.map (swp 0 (t0 % 1) 0)) 3) := by
  have ek : Int.tmod (IntKind.i64.wrap (t0 : Int)) (IntKind.i64.wrap (0 + 1)) = ((t0 % 1 : Nat) : Int) := by
    rw [show IntKind.i64.wrap (0 + 1) = ((1 : Nat) : Int) by decide]; exact wr0 h
  have hk : t0 % 1 < 1 := Nat.mod_lt _ (by decide)
  have l0 := hl 0 (by decide)
  have l1 := hl 1 (by decide)
  have l2 := hl 2 (by decide)
  have l3 := hl 3 (by decide)
  rw [m9_L3, brn_dt (by decide), grd_t ⟨by decide, by decide⟩, grd_t (by decide), show gp [.int .u8 (t0 : Int), .int .u8 (t1 : Int), .int .u8 (t2 : Int), .int .u8 (t3 : Int), .int .u8 (t4 : Int)] (Int.toNat 0) = .int .u8 (t0 : Int) from rfl, getI_t8, grd_t (by decide), ek, grd_t ⟨by omega, by omega⟩, toNatN, show Int.toNat 0 = 0 from rfl, show IntKind.i64.wrap (0 + 1) = 1 by decide, cl_map (j := 0) (by omega), cl_map (j := 1) (by omega), cl_map (j := 2) (by omega), cl_map (j := 3) (by omega)]
  unfold cl
  rw [grd_t (by rw [lgr l0]; omega), gI_r (by omega), grd_t (by decide), grd_t (by rw [lgr l0]; omega), gI_r (by omega), grd_t (by rw [lgr l0]; omega), grd_t (by rw [lgr l0]; omega), grd_t (by rw [lgr l1]; omega), gI_r (by omega), grd_t (by rw [lgr l1]; omega), gI_r (by omega), grd_t (by rw [lgr l1]; omega), grd_t (by rw [lgr l1]; omega), grd_t (by rw [lgr l2]; omega), gI_r (by omega), grd_t (by rw [lgr l2]; omega), gI_r (by omega), grd_t (by rw [lgr l2]; omega), grd_t (by rw [lgr l2]; omega), grd_t (by rw [lgr l3]; omega), gI_r (by omega), grd_t (by rw [lgr l3]; omega), gI_r (by omega), grd_t (by rw [lgr l3]; omega), grd_t (by rw [lgr l3]; omega)]
  rw [set2, set2, set2, set2]
theorem er4_1 (N : Nat) (s0 s1 s2 s3 s4 : Nat) (h : s1 < 256) (q0 q1 q2 q3 q4 : PV) (f : Nat) (X : List (List Nat)) (hX : X.length = 4) : m9_L2 N (.int .u8 (s0 : Int)) (.int .u8 (s1 : Int)) (.int .u8 (s2 : Int)) (.int .u8 (s3 : Int)) (.int .u8 (s4 : Int)) q0 q1 q2 q3 q4 (f + 1) 1 (cl X 0) (cl X 1) (cl X 2) (cl X 3) = m9_L2 N (.int .u8 (s0 : Int)) (.int .u8 (s1 : Int)) (.int .u8 (s2 : Int)) (.int .u8 (s3 : Int)) (.int .u8 (s4 : Int)) q0 q1 q2 q3 q4 f 2 (cl (swp 1 (s1 % 2) [] X) 0) (cl (swp 1 (s1 % 2) [] X) 1) (cl (swp 1 (s1 % 2) [] X) 2) (cl (swp 1 (s1 % 2) [] X) 3) := by
  have ek : Int.tmod (IntKind.i64.wrap (s1 : Int)) (IntKind.i64.wrap (1 + 1)) = ((s1 % 2 : Nat) : Int) := by
    rw [show IntKind.i64.wrap (1 + 1) = ((2 : Nat) : Int) by decide]; exact wr0 h
  have hm : s1 % 2 = 0 ∨ s1 % 2 = 1 := by omega
  rcases hm with hm | hm
  · rw [m9_L2, brn_dt (by decide), grd_t ⟨by decide, by decide⟩, grd_t (by decide), show gp [.int .u8 (s0 : Int), .int .u8 (s1 : Int), .int .u8 (s2 : Int), .int .u8 (s3 : Int), .int .u8 (s4 : Int)] (Int.toNat 1) = .int .u8 (s1 : Int) from rfl, getI_t8, grd_t (by decide), ek, hm, casI_t (by decide), casI_f (by decide), casI_t rfl, cl_sw (by omega) (by omega) 0, cl_sw (by omega) (by omega) 1, cl_sw (by omega) (by omega) 2, cl_sw (by omega) (by omega) 3]; rfl
  · rw [m9_L2, brn_dt (by decide), grd_t ⟨by decide, by decide⟩, grd_t (by decide), show gp [.int .u8 (s0 : Int), .int .u8 (s1 : Int), .int .u8 (s2 : Int), .int .u8 (s3 : Int), .int .u8 (s4 : Int)] (Int.toNat 1) = .int .u8 (s1 : Int) from rfl, getI_t8, grd_t (by decide), ek, hm, casI_f (by decide), casI_t (by decide), casI_f (by decide), casI_t rfl, cl_sw (by omega) (by omega) 0, cl_sw (by omega) (by omega) 1, cl_sw (by omega) (by omega) 2, cl_sw (by omega) (by omega) 3]; rfl
theorem ec4_1 (N : Nat) (t0 t1 t2 t3 t4 : Nat) (h : t1 < 256) (f : Nat) (X : List (List Nat)) (hX : X.length = 4) (hl : ∀ j, j < 4 → (X.getD j []).length = 4) : m9_L3 N (.int .u8 (t0 : Int)) (.int .u8 (t1 : Int)) (.int .u8 (t2 : Int)) (.int .u8 (t3 : Int)) (.int .u8 (t4 : Int)) (f + 1) 1 (cl X 0) (cl X 1) (cl X 2) (cl X 3) = m9_L3 N (.int .u8 (t0 : Int)) (.int .u8 (t1 : Int)) (.int .u8 (t2 : Int)) (.int .u8 (t3 : Int)) (.int .u8 (t4 : Int)) f 2 (cl (X.map (swp 1 (t1 % 2) 0)) 0) (cl (X.map (swp 1 (t1 % 2) 0)) 1) (cl (X.map (swp 1 (t1 % 2) 0)) 2) (cl (X.map (swp 1 (t1 % 2) 0)) 3) := by
  have ek : Int.tmod (IntKind.i64.wrap (t1 : Int)) (IntKind.i64.wrap (1 + 1)) = ((t1 % 2 : Nat) : Int) := by
    rw [show IntKind.i64.wrap (1 + 1) = ((2 : Nat) : Int) by decide]; exact wr0 h
  have hk : t1 % 2 < 2 := Nat.mod_lt _ (by decide)
  have l0 := hl 0 (by decide)
  have l1 := hl 1 (by decide)
  have l2 := hl 2 (by decide)
  have l3 := hl 3 (by decide)
  rw [m9_L3, brn_dt (by decide), grd_t ⟨by decide, by decide⟩, grd_t (by decide), show gp [.int .u8 (t0 : Int), .int .u8 (t1 : Int), .int .u8 (t2 : Int), .int .u8 (t3 : Int), .int .u8 (t4 : Int)] (Int.toNat 1) = .int .u8 (t1 : Int) from rfl, getI_t8, grd_t (by decide), ek, grd_t ⟨by omega, by omega⟩, toNatN, show Int.toNat 1 = 1 from rfl, show IntKind.i64.wrap (1 + 1) = 2 by decide, cl_map (j := 0) (by omega), cl_map (j := 1) (by omega), cl_map (j := 2) (by omega), cl_map (j := 3) (by omega)]
  unfold cl
  rw [grd_t (by rw [lgr l0]; omega), gI_r (by omega), grd_t (by decide), grd_t (by rw [lgr l0]; omega), gI_r (by omega), grd_t (by rw [lgr l0]; omega), grd_t (by rw [lgr l0]; omega), grd_t (by rw [lgr l1]; omega), gI_r (by omega), grd_t (by rw [lgr l1]; omega), gI_r (by omega), grd_t (by rw [lgr l1]; omega), grd_t (by rw [lgr l1]; omega), grd_t (by rw [lgr l2]; omega), gI_r (by omega), grd_t (by rw [lgr l2]; omega), gI_r (by omega), grd_t (by rw [lgr l2]; omega), grd_t (by rw [lgr l2]; omega), grd_t (by rw [lgr l3]; omega), gI_r (by omega), grd_t (by rw [lgr l3]; omega), gI_r (by omega), grd_t (by rw [lgr l3]; omega), grd_t (by rw [lgr l3]; omega)]
  rw [set2, set2, set2, set2]
theorem er4_2 (N : Nat) (s0 s1 s2 s3 s4 : Nat) (h : s2 < 256) (q0 q1 q2 q3 q4 : PV) (f : Nat) (X : List (List Nat)) (hX : X.length = 4) : m9_L2 N (.int .u8 (s0 : Int)) (.int .u8 (s1 : Int)) (.int .u8 (s2 : Int)) (.int .u8 (s3 : Int)) (.int .u8 (s4 : Int)) q0 q1 q2 q3 q4 (f + 1) 2 (cl X 0) (cl X 1) (cl X 2) (cl X 3) = m9_L2 N (.int .u8 (s0 : Int)) (.int .u8 (s1 : Int)) (.int .u8 (s2 : Int)) (.int .u8 (s3 : Int)) (.int .u8 (s4 : Int)) q0 q1 q2 q3 q4 f 3 (cl (swp 2 (s2 % 3) [] X) 0) (cl (swp 2 (s2 % 3) [] X) 1) (cl (swp 2 (s2 % 3) [] X) 2) (cl (swp 2 (s2 % 3) [] X) 3) := by
  have ek : Int.tmod (IntKind.i64.wrap (s2 : Int)) (IntKind.i64.wrap (2 + 1)) = ((s2 % 3 : Nat) : Int) := by
    rw [show IntKind.i64.wrap (2 + 1) = ((3 : Nat) : Int) by decide]; exact wr0 h
  have hm : s2 % 3 = 0 ∨ s2 % 3 = 1 ∨ s2 % 3 = 2 := by omega
  rcases hm with hm | hm | hm
  · rw [m9_L2, brn_dt (by decide), grd_t ⟨by decide, by decide⟩, grd_t (by decide), show gp [.int .u8 (s0 : Int), .int .u8 (s1 : Int), .int .u8 (s2 : Int), .int .u8 (s3 : Int), .int .u8 (s4 : Int)] (Int.toNat 2) = .int .u8 (s2 : Int) from rfl, getI_t8, grd_t (by decide), ek, hm, casI_t (by decide), casI_f (by decide), casI_f (by decide), casI_t rfl, cl_sw (by omega) (by omega) 0, cl_sw (by omega) (by omega) 1, cl_sw (by omega) (by omega) 2, cl_sw (by omega) (by omega) 3]; rfl
  · rw [m9_L2, brn_dt (by decide), grd_t ⟨by decide, by decide⟩, grd_t (by decide), show gp [.int .u8 (s0 : Int), .int .u8 (s1 : Int), .int .u8 (s2 : Int), .int .u8 (s3 : Int), .int .u8 (s4 : Int)] (Int.toNat 2) = .int .u8 (s2 : Int) from rfl, getI_t8, grd_t (by decide), ek, hm, casI_f (by decide), casI_t (by decide), casI_f (by decide), casI_f (by decide), casI_t rfl, cl_sw (by omega) (by omega) 0, cl_sw (by omega) (by omega) 1, cl_sw (by omega) (by omega) 2, cl_sw (by omega) (by omega) 3]; rfl
  · rw [m9_L2, brn_dt (by decide), grd_t ⟨by decide, by decide⟩, grd_t (by decide), show gp [.int .u8 (s0 : Int), .int .u8 (s1 : Int), .int .u8 (s2 : Int), .int .u8 (s3 : Int), .int .u8 (s4 : Int)] (Int.toNat 2) = .int .u8 (s2 : Int) from rfl, getI_t8, grd_t (by decide), ek, hm, casI_f (by decide), casI_f (by decide), casI_t (by decide), casI_f (by decide), casI_f (by decide), casI_t rfl, cl_sw (by omega) (by omega) 0, cl_sw (by omega) (by omega) 1, cl_sw (by omega) (by omega) 2, cl_sw (by omega) (by omega) 3]; rfl
theorem ec4_2 (N : Nat) (t0 t1 t2 t3 t4 : Nat) (h : t2 < 256) (f : Nat) (X : List (List Nat)) (hX : X.length = 4) (hl : ∀ j, j < 4 → (X.getD j []).length = 4) : m9_L3 N (.int .u8 (t0 : Int)) (.int .u8 (t1 : Int)) (.int .u8 (t2 : Int)) (.int .u8 (t3 : Int)) (.int .u8 (t4 : Int)) (f + 1) 2 (cl X 0) (cl X 1) (cl X 2) (cl X 3) = m9_L3 N (.int .u8 (t0 : Int)) (.int .u8 (t1 : Int)) (.int .u8 (t2 : Int)) (.int .u8 (t3 : Int)) (.int .u8 (t4 : Int)) f 3 (cl (X.map (swp 2 (t2 % 3) 0)) 0) (cl (X.map (swp 2 (t2 % 3) 0)) 1) (cl (X.map (swp 2 (t2 % 3) 0)) 2) (cl (X.map (swp 2 (t2 % 3) 0)) 3) := by
  have ek : Int.tmod (IntKind.i64.wrap (t2 : Int)) (IntKind.i64.wrap (2 + 1)) = ((t2 % 3 : Nat) : Int) := by
    rw [show IntKind.i64.wrap (2 + 1) = ((3 : Nat) : Int) by decide]; exact wr0 h
  have hk : t2 % 3 < 3 := Nat.mod_lt _ (by decide)
  have l0 := hl 0 (by decide)
  have l1 := hl 1 (by decide)
  have l2 := hl 2 (by decide)
  have l3 := hl 3 (by decide)
  rw [m9_L3, brn_dt (by decide), grd_t ⟨by decide, by decide⟩, grd_t (by decide), show gp [.int .u8 (t0 : Int), .int .u8 (t1 : Int), .int .u8 (t2 : Int), .int .u8 (t3 : Int), .int .u8 (t4 : Int)] (Int.toNat 2) = .int .u8 (t2 : Int) from rfl, getI_t8, grd_t (by decide), ek, grd_t ⟨by omega, by omega⟩, toNatN, show Int.toNat 2 = 2 from rfl, show IntKind.i64.wrap (2 + 1) = 3 by decide, cl_map (j := 0) (by omega), cl_map (j := 1) (by omega), cl_map (j := 2) (by omega), cl_map (j := 3) (by omega)]
  unfold cl
  rw [grd_t (by rw [lgr l0]; omega), gI_r (by omega), grd_t (by decide), grd_t (by rw [lgr l0]; omega), gI_r (by omega), grd_t (by rw [lgr l0]; omega), grd_t (by rw [lgr l0]; omega), grd_t (by rw [lgr l1]; omega), gI_r (by omega), grd_t (by rw [lgr l1]; omega), gI_r (by omega), grd_t (by rw [lgr l1]; omega), grd_t (by rw [lgr l1]; omega), grd_t (by rw [lgr l2]; omega), gI_r (by omega), grd_t (by rw [lgr l2]; omega), gI_r (by omega), grd_t (by rw [lgr l2]; omega), grd_t (by rw [lgr l2]; omega), grd_t (by rw [lgr l3]; omega), gI_r (by omega), grd_t (by rw [lgr l3]; omega), gI_r (by omega), grd_t (by rw [lgr l3]; omega), grd_t (by rw [lgr l3]; omega)]
  rw [set2, set2, set2, set2]
theorem er4_3 (N : Nat) (s0 s1 s2 s3 s4 : Nat) (h : s3 < 256) (q0 q1 q2 q3 q4 : PV) (f : Nat) (X : List (List Nat)) (hX : X.length = 4) : m9_L2 N (.int .u8 (s0 : Int)) (.int .u8 (s1 : Int)) (.int .u8 (s2 : Int)) (.int .u8 (s3 : Int)) (.int .u8 (s4 : Int)) q0 q1 q2 q3 q4 (f + 1) 3 (cl X 0) (cl X 1) (cl X 2) (cl X 3) = m9_L2 N (.int .u8 (s0 : Int)) (.int .u8 (s1 : Int)) (.int .u8 (s2 : Int)) (.int .u8 (s3 : Int)) (.int .u8 (s4 : Int)) q0 q1 q2 q3 q4 f 4 (cl (swp 3 (s3 % 4) [] X) 0) (cl (swp 3 (s3 % 4) [] X) 1) (cl (swp 3 (s3 % 4) [] X) 2) (cl (swp 3 (s3 % 4) [] X) 3) := by
  have ek : Int.tmod (IntKind.i64.wrap (s3 : Int)) (IntKind.i64.wrap (3 + 1)) = ((s3 % 4 : Nat) : Int) := by
    rw [show IntKind.i64.wrap (3 + 1) = ((4 : Nat) : Int) by decide]; exact wr0 h
  have hm : s3 % 4 = 0 ∨ s3 % 4 = 1 ∨ s3 % 4 = 2 ∨ s3 % 4 = 3 := by omega
  rcases hm with hm | hm | hm | hm
  · rw [m9_L2, brn_dt (by decide), grd_t ⟨by decide, by decide⟩, grd_t (by decide), show gp [.int .u8 (s0 : Int), .int .u8 (s1 : Int), .int .u8 (s2 : Int), .int .u8 (s3 : Int), .int .u8 (s4 : Int)] (Int.toNat 3) = .int .u8 (s3 : Int) from rfl, getI_t8, grd_t (by decide), ek, hm, casI_t (by decide), casI_f (by decide), casI_f (by decide), casI_f (by decide), casI_t rfl, cl_sw (by omega) (by omega) 0, cl_sw (by omega) (by omega) 1, cl_sw (by omega) (by omega) 2, cl_sw (by omega) (by omega) 3]; rfl
  · rw [m9_L2, brn_dt (by decide), grd_t ⟨by decide, by decide⟩, grd_t (by decide), show gp [.int .u8 (s0 : Int), .int .u8 (s1 : Int), .int .u8 (s2 : Int), .int .u8 (s3 : Int), .int .u8 (s4 : Int)] (Int.toNat 3) = .int .u8 (s3 : Int) from rfl, getI_t8, grd_t (by decide), ek, hm, casI_f (by decide), casI_t (by decide), casI_f (by decide), casI_f (by decide), casI_f (by decide), casI_t rfl, cl_sw (by omega) (by omega) 0, cl_sw (by omega) (by omega) 1, cl_sw (by omega) (by omega) 2, cl_sw (by omega) (by omega) 3]; rfl
  · rw [m9_L2, brn_dt (by decide), grd_t ⟨by decide, by decide⟩, grd_t (by decide), show gp [.int .u8 (s0 : Int), .int .u8 (s1 : Int), .int .u8 (s2 : Int), .int .u8 (s3 : Int), .int .u8 (s4 : Int)] (Int.toNat 3) = .int .u8 (s3 : Int) from rfl, getI_t8, grd_t (by decide), ek, hm, casI_f (by decide), casI_f (by decide), casI_t (by decide), casI_f (by decide), casI_f (by decide), casI_f (by decide), casI_t rfl, cl_sw (by omega) (by omega) 0, cl_sw (by omega) (by omega) 1, cl_sw (by omega) (by omega) 2, cl_sw (by omega) (by omega) 3]; rfl
  · rw [m9_L2, brn_dt (by decide), grd_t ⟨by decide, by decide⟩, grd_t (by decide), show gp [.int .u8 (s0 : Int), .int .u8 (s1 : Int), .int .u8 (s2 : Int), .int .u8 (s3 : Int), .int .u8 (s4 : Int)] (Int.toNat 3) = .int .u8 (s3 : Int) from rfl, getI_t8, grd_t (by decide), ek, hm, casI_f (by decide), casI_f (by decide), casI_f (by decide), casI_t (by decide), casI_f (by decide), casI_f (by decide), casI_f (by decide), casI_t rfl, cl_sw (by omega) (by omega) 0, cl_sw (by omega) (by omega) 1, cl_sw (by omega) (by omega) 2, cl_sw (by omega) (by omega) 3]; rfl
theorem ec4_3 (N : Nat) (t0 t1 t2 t3 t4 : Nat) (h : t3 < 256) (f : Nat) (X : List (List Nat)) (hX : X.length = 4) (hl : ∀ j, j < 4 → (X.getD j []).length = 4) : m9_L3 N (.int .u8 (t0 : Int)) (.int .u8 (t1 : Int)) (.int .u8 (t2 : Int)) (.int .u8 (t3 : Int)) (.int .u8 (t4 : Int)) (f + 1) 3 (cl X 0) (cl X 1) (cl X 2) (cl X 3) = m9_L3 N (.int .u8 (t0 : Int)) (.int .u8 (t1 : Int)) (.int .u8 (t2 : Int)) (.int .u8 (t3 : Int)) (.int .u8 (t4 : Int)) f 4 (cl (X.map (swp 3 (t3 % 4) 0)) 0) (cl (X.map (swp 3 (t3 % 4) 0)) 1) (cl (X.map (swp 3 (t3 % 4) 0)) 2) (cl (X.map (swp 3 (t3 % 4) 0)) 3) := by
  have ek : Int.tmod (IntKind.i64.wrap (t3 : Int)) (IntKind.i64.wrap (3 + 1)) = ((t3 % 4 : Nat) : Int) := by
    rw [show IntKind.i64.wrap (3 + 1) = ((4 : Nat) : Int) by decide]; exact wr0 h
  have hk : t3 % 4 < 4 := Nat.mod_lt _ (by decide)
  have l0 := hl 0 (by decide)
  have l1 := hl 1 (by decide)
  have l2 := hl 2 (by decide)
  have l3 := hl 3 (by decide)
  rw [m9_L3, brn_dt (by decide), grd_t ⟨by decide, by decide⟩, grd_t (by decide), show gp [.int .u8 (t0 : Int), .int .u8 (t1 : Int), .int .u8 (t2 : Int), .int .u8 (t3 : Int), .int .u8 (t4 : Int)] (Int.toNat 3) = .int .u8 (t3 : Int) from rfl, getI_t8, grd_t (by decide), ek, grd_t ⟨by omega, by omega⟩, toNatN, show Int.toNat 3 = 3 from rfl, show IntKind.i64.wrap (3 + 1) = 4 by decide, cl_map (j := 0) (by omega), cl_map (j := 1) (by omega), cl_map (j := 2) (by omega), cl_map (j := 3) (by omega)]
  unfold cl
  rw [grd_t (by rw [lgr l0]; omega), gI_r (by omega), grd_t (by decide), grd_t (by rw [lgr l0]; omega), gI_r (by omega), grd_t (by rw [lgr l0]; omega), grd_t (by rw [lgr l0]; omega), grd_t (by rw [lgr l1]; omega), gI_r (by omega), grd_t (by rw [lgr l1]; omega), gI_r (by omega), grd_t (by rw [lgr l1]; omega), grd_t (by rw [lgr l1]; omega), grd_t (by rw [lgr l2]; omega), gI_r (by omega), grd_t (by rw [lgr l2]; omega), gI_r (by omega), grd_t (by rw [lgr l2]; omega), grd_t (by rw [lgr l2]; omega), grd_t (by rw [lgr l3]; omega), gI_r (by omega), grd_t (by rw [lgr l3]; omega), gI_r (by omega), grd_t (by rw [lgr l3]; omega), grd_t (by rw [lgr l3]; omega)]
  rw [set2, set2, set2, set2]
theorem er4 (N v : Nat) (s0 s1 s2 s3 s4 : Nat) (h : ∀ j, j < 5 → gn [s0, s1, s2, s3, s4] j < 256) (q0 q1 q2 q3 q4 : PV) (f : Nat) (X : List (List Nat)) (hX : Pv 4 v X) : ∃ Y, Pv 4 v Y ∧ m9_L2 N (.int .u8 (s0 : Int)) (.int .u8 (s1 : Int)) (.int .u8 (s2 : Int)) (.int .u8 (s3 : Int)) (.int .u8 (s4 : Int)) q0 q1 q2 q3 q4 (f + 5) 0 (cl X 0) (cl X 1) (cl X 2) (cl X 3) = some (cl Y 0, cl Y 1, cl Y 2, cl Y 3) := by
  have p0 := hX
  have p1 := p0.swR (i := 0) (k := s0 % 1) (by decide) (by have := Nat.mod_lt s0 (show 0 < 1 by decide); omega)
  have p2 := p1.swR (i := 1) (k := s1 % 2) (by decide) (by have := Nat.mod_lt s1 (show 0 < 2 by decide); omega)
  have p3 := p2.swR (i := 2) (k := s2 % 3) (by decide) (by have := Nat.mod_lt s2 (show 0 < 3 by decide); omega)
  have p4 := p3.swR (i := 3) (k := s3 % 4) (by decide) (by have := Nat.mod_lt s3 (show 0 < 4 by decide); omega)
  refine ⟨_, p4, ?_⟩
  rw [show f + 5 = f + 4 + 1 from rfl, er4_0 N s0 s1 s2 s3 s4 (h 0 (by decide)) q0 q1 q2 q3 q4 _ _ p0.pq.len]
  rw [show f + 4 = f + 3 + 1 from rfl, er4_1 N s0 s1 s2 s3 s4 (h 1 (by decide)) q0 q1 q2 q3 q4 _ _ p1.pq.len]
  rw [show f + 3 = f + 2 + 1 from rfl, er4_2 N s0 s1 s2 s3 s4 (h 2 (by decide)) q0 q1 q2 q3 q4 _ _ p2.pq.len]
  rw [show f + 2 = f + 1 + 1 from rfl, er4_3 N s0 s1 s2 s3 s4 (h 3 (by decide)) q0 q1 q2 q3 q4 _ _ p3.pq.len]
  rw [m9_L2, brn_df (by decide)]
theorem ec4 (N v : Nat) (t0 t1 t2 t3 t4 : Nat) (h : ∀ j, j < 5 → gn [t0, t1, t2, t3, t4] j < 256) (f : Nat) (X : List (List Nat)) (hX : Pv 4 v X) : ∃ Y, Pv 4 v Y ∧ m9_L3 N (.int .u8 (t0 : Int)) (.int .u8 (t1 : Int)) (.int .u8 (t2 : Int)) (.int .u8 (t3 : Int)) (.int .u8 (t4 : Int)) (f + 5) 0 (cl X 0) (cl X 1) (cl X 2) (cl X 3) = some (cl Y 0, cl Y 1, cl Y 2, cl Y 3) := by
  have p0 := hX
  have p1 := p0.swC (i := 0) (k := t0 % 1) (by decide) (by have := Nat.mod_lt t0 (show 0 < 1 by decide); omega)
  have p2 := p1.swC (i := 1) (k := t1 % 2) (by decide) (by have := Nat.mod_lt t1 (show 0 < 2 by decide); omega)
  have p3 := p2.swC (i := 2) (k := t2 % 3) (by decide) (by have := Nat.mod_lt t2 (show 0 < 3 by decide); omega)
  have p4 := p3.swC (i := 3) (k := t3 % 4) (by decide) (by have := Nat.mod_lt t3 (show 0 < 4 by decide); omega)
  have hq : ∀ Z, Pv 4 v Z → ∀ j, j < 4 → (Z.getD j []).length = 4 := fun Z hZ j hj => by have := (ext_get (hZ.pq.row j hj)).1; simpa using this
  refine ⟨_, p4, ?_⟩
  rw [show f + 5 = f + 4 + 1 from rfl, ec4_0 N t0 t1 t2 t3 t4 (h 0 (by decide)) _ _ p0.pq.len (hq _ p0)]
  rw [show f + 4 = f + 3 + 1 from rfl, ec4_1 N t0 t1 t2 t3 t4 (h 1 (by decide)) _ _ p1.pq.len (hq _ p1)]
  rw [show f + 3 = f + 2 + 1 from rfl, ec4_2 N t0 t1 t2 t3 t4 (h 2 (by decide)) _ _ p2.pq.len (hq _ p2)]
  rw [show f + 2 = f + 1 + 1 from rfl, ec4_3 N t0 t1 t2 t3 t4 (h 3 (by decide)) _ _ p3.pq.len (hq _ p3)]
  rw [m9_L3, brn_df (by decide)]
set_option maxRecDepth 100000 in
theorem ea4 : m42 5000 4 = some (.lst false 4 (rwsP ((rN 4).map nL))) ∧ m21_5 5000 (.lst false 4 (rwsP ((rN 4).map nL))) [.int .i64 0, .int .i64 1, .int .i64 2, .int .i64 3] [.int .i64 1, .int .i64 2, .int .i64 3, .int .i64 0] [.int .i64 2, .int .i64 3, .int .i64 0, .int .i64 1] [.int .i64 3, .int .i64 0, .int .i64 1, .int .i64 2] = some (.bool true) ∧ m31 5000 9 = some (.tup [.lst false 0 [], .int .i64 1]) := ⟨by kernel_rfl, by kernel_rfl, by kernel_rfl⟩
theorem el4 (a : Nat) (ha : a < 256) (hn : 1 + a % 5 = 4) (s0 s1 s2 s3 s4 : Nat) (hs : ∀ j, j < 5 → gn [s0, s1, s2, s3, s4] j < 256) (t0 t1 t2 t3 t4 : Nat) (ht : ∀ j, j < 5 → gn [t0, t1, t2, t3, t4] j < 256) : m9 5000 (a : Int) (.agg [.int .u8 (s0 : Int), .int .u8 (s1 : Int), .int .u8 (s2 : Int), .int .u8 (s3 : Int), .int .u8 (s4 : Int)]) (.agg [.int .u8 (t0 : Int), .int .u8 (t1 : Int), .int .u8 (t2 : Int), .int .u8 (t3 : Int), .int .u8 (t4 : Int)]) = some (.bool true) := by
  obtain ⟨Y, hY, eY⟩ := er4 5000 0 s0 s1 s2 s3 s4 hs (.int .u8 (t0 : Int)) (.int .u8 (t1 : Int)) (.int .u8 (t2 : Int)) (.int .u8 (t3 : Int)) (.int .u8 (t4 : Int)) 4995 (rN 4) rN4
  obtain ⟨Z, hZ, eZ⟩ := ec4 5000 0 t0 t1 t2 t3 t4 ht 4995 Y hY
  obtain ⟨D, hV⟩ := hZ.pq.pl.vp'
  have hcr := (cross_n 5000 (by decide) 4 (by decide) (by decide) Z D hV hZ.pq.len).2
  rw [hZ.c] at hcr
  have hq : ∀ j, j < 4 → (Z.getD j []).length = 4 := fun j hj => by have := (ext_get (hZ.pq.row j hj)).1; simpa using this
  have eR : rwsP (Z.map nL) = [.lst false 4 (cl Z 0), .lst false 4 (cl Z 1), .lst false 4 (cl Z 2), .lst false 4 (cl Z 3)] := by
    have hl := hZ.pq.len
    match Z, hl, hq with
    | [z0, z1, z2, z3], _, hq =>
      have w0 : z0.length = 4 := hq 0 (by decide)
      have w1 : z1.length = 4 := hq 1 (by decide)
      have w2 : z2.length = 4 := hq 2 (by decide)
      have w3 : z3.length = 4 := hq 3 (by decide)
      simp only [rwsP, rwP, List.map_cons, List.map_nil, nL_len, w0, w1, w2, w3]; rfl
  rw [eR] at hcr
  have m16t : m16 5000 = some (.bool true) := rfl
  obtain ⟨e42, e21, e31⟩ := ea4
  rw [m9, show ∀ (p q r s t : PV) (k : PV → PV → PV → PV → PV → Option PV), getA5 (.agg [p, q, r, s, t]) k = k p q r s t from fun _ _ _ _ _ _ => rfl, show ∀ (p q r s t : PV) (k : PV → PV → PV → PV → PV → Option PV), getA5 (.agg [p, q, r, s, t]) k = k p q r s t from fun _ _ _ _ _ _ => rfl, grd_t (by decide), wr8 a ha, hn, casI_f (by decide), casI_f (by decide), casI_f (by decide), casI_t (by decide), e42, bnd_t, getL_t, e21, bnd_t, getB_t, brn_t rfl]
  rw [show m9_L2 5000 (.int .u8 (s0 : Int)) (.int .u8 (s1 : Int)) (.int .u8 (s2 : Int)) (.int .u8 (s3 : Int)) (.int .u8 (s4 : Int)) (.int .u8 (t0 : Int)) (.int .u8 (t1 : Int)) (.int .u8 (t2 : Int)) (.int .u8 (t3 : Int)) (.int .u8 (t4 : Int)) 5000 0 [.int .i64 0, .int .i64 1, .int .i64 2, .int .i64 3] [.int .i64 1, .int .i64 2, .int .i64 3, .int .i64 0] [.int .i64 2, .int .i64 3, .int .i64 0, .int .i64 1] [.int .i64 3, .int .i64 0, .int .i64 1, .int .i64 2] = _ from eY, bnd_t]
  dsimp only
  rw [show m9_L3 5000 (.int .u8 (t0 : Int)) (.int .u8 (t1 : Int)) (.int .u8 (t2 : Int)) (.int .u8 (t3 : Int)) (.int .u8 (t4 : Int)) 5000 0 (cl Y 0) (cl Y 1) (cl Y 2) (cl Y 3) = _ from eZ, bnd_t]
  dsimp only
  rw [grd_t (show (cl Z 0).length = 4 from lgr (hq 0 (by decide))), grd_t (show (cl Z 1).length = 4 from lgr (hq 1 (by decide))), grd_t (show (cl Z 2).length = 4 from lgr (hq 2 (by decide))), grd_t (show (cl Z 3).length = 4 from lgr (hq 3 (by decide))), show m35 5000 4 (.lst false 4 [.lst false 4 (cl Z 0), .lst false 4 (cl Z 1), .lst false 4 (cl Z 2), .lst false 4 (cl Z 3)]) = _ from hcr, bnd_t, getT2_t, getI_t, getI_t, e31, bnd_t, getT2_t, getL_t, getI_t, brn_et rfl, m43, getL_t, bnd_t, getL_t, grd_t (by decide), grd_t (by simp), show gp [PV.int .i64 0, .int .i64 1, .int .i64 0, .int .i64 3, .int .i64 0, .int .i64 15] 4 = .int .i64 0 from rfl, getI_t, brn_et (by decide), brn_et (by decide), m16t, bnd_t, getB_t]
theorem er5_0 (N : Nat) (s0 s1 s2 s3 s4 : Nat) (h : s0 < 256) (q0 q1 q2 q3 q4 : PV) (f : Nat) (X : List (List Nat)) (hX : X.length = 5) : m9_L0 N (.int .u8 (s0 : Int)) (.int .u8 (s1 : Int)) (.int .u8 (s2 : Int)) (.int .u8 (s3 : Int)) (.int .u8 (s4 : Int)) q0 q1 q2 q3 q4 (f + 1) 0 (cl X 0) (cl X 1) (cl X 2) (cl X 3) (cl X 4) = m9_L0 N (.int .u8 (s0 : Int)) (.int .u8 (s1 : Int)) (.int .u8 (s2 : Int)) (.int .u8 (s3 : Int)) (.int .u8 (s4 : Int)) q0 q1 q2 q3 q4 f 1 (cl (swp 0 (s0 % 1) [] X) 0) (cl (swp 0 (s0 % 1) [] X) 1) (cl (swp 0 (s0 % 1) [] X) 2) (cl (swp 0 (s0 % 1) [] X) 3) (cl (swp 0 (s0 % 1) [] X) 4) := by
  have ek : Int.tmod (IntKind.i64.wrap (s0 : Int)) (IntKind.i64.wrap (0 + 1)) = ((s0 % 1 : Nat) : Int) := by
    rw [show IntKind.i64.wrap (0 + 1) = ((1 : Nat) : Int) by decide]; exact wr0 h
  have hm : s0 % 1 = 0 := by omega
  rcases hm with hm
  · rw [m9_L0, brn_dt (by decide), grd_t ⟨by decide, by decide⟩, grd_t (by decide), show gp [.int .u8 (s0 : Int), .int .u8 (s1 : Int), .int .u8 (s2 : Int), .int .u8 (s3 : Int), .int .u8 (s4 : Int)] (Int.toNat 0) = .int .u8 (s0 : Int) from rfl, getI_t8, grd_t (by decide), ek, hm, casI_t (by decide), casI_t rfl, cl_sw (by omega) (by omega) 0, cl_sw (by omega) (by omega) 1, cl_sw (by omega) (by omega) 2, cl_sw (by omega) (by omega) 3, cl_sw (by omega) (by omega) 4]; rfl
theorem ec5_0 (N : Nat) (t0 t1 t2 t3 t4 : Nat) (h : t0 < 256) (f : Nat) (X : List (List Nat)) (hX : X.length = 5) (hl : ∀ j, j < 5 → (X.getD j []).length = 5) : m9_L1 N (.int .u8 (t0 : Int)) (.int .u8 (t1 : Int)) (.int .u8 (t2 : Int)) (.int .u8 (t3 : Int)) (.int .u8 (t4 : Int)) (f + 1) 0 (cl X 0) (cl X 1) (cl X 2) (cl X 3) (cl X 4) = m9_L1 N (.int .u8 (t0 : Int)) (.int .u8 (t1 : Int)) (.int .u8 (t2 : Int)) (.int .u8 (t3 : Int)) (.int .u8 (t4 : Int)) f 1 (cl (X.map (swp 0 (t0 % 1) 0)) 0) (cl (X.map (swp 0 (t0 % 1) 0)) 1) (cl (X.map (swp 0 (t0 % 1) 0)) 2) (cl (X.map (swp 0 (t0 % 1) 0)) 3) (cl (X.map (swp 0 (t0 % 1) 0)) 4) := by
  have ek : Int.tmod (IntKind.i64.wrap (t0 : Int)) (IntKind.i64.wrap (0 + 1)) = ((t0 % 1 : Nat) : Int) := by
    rw [show IntKind.i64.wrap (0 + 1) = ((1 : Nat) : Int) by decide]; exact wr0 h
  have hk : t0 % 1 < 1 := Nat.mod_lt _ (by decide)
  have l0 := hl 0 (by decide)
  have l1 := hl 1 (by decide)
  have l2 := hl 2 (by decide)
  have l3 := hl 3 (by decide)
  have l4 := hl 4 (by decide)
  rw [m9_L1, brn_dt (by decide), grd_t ⟨by decide, by decide⟩, grd_t (by decide), show gp [.int .u8 (t0 : Int), .int .u8 (t1 : Int), .int .u8 (t2 : Int), .int .u8 (t3 : Int), .int .u8 (t4 : Int)] (Int.toNat 0) = .int .u8 (t0 : Int) from rfl, getI_t8, grd_t (by decide), ek, grd_t ⟨by omega, by omega⟩, toNatN, show Int.toNat 0 = 0 from rfl, show IntKind.i64.wrap (0 + 1) = 1 by decide, cl_map (j := 0) (by omega), cl_map (j := 1) (by omega), cl_map (j := 2) (by omega), cl_map (j := 3) (by omega), cl_map (j := 4) (by omega)]
  unfold cl
  rw [grd_t (by rw [lgr l0]; omega), gI_r (by omega), grd_t (by rw [lgr l0]; omega), gI_r (by omega), grd_t (by rw [lgr l0]; omega), grd_t (by rw [lgr l0]; omega), grd_t (by rw [lgr l1]; omega), gI_r (by omega), grd_t (by rw [lgr l1]; omega), gI_r (by omega), grd_t (by rw [lgr l1]; omega), grd_t (by rw [lgr l1]; omega), grd_t (by rw [lgr l2]; omega), gI_r (by omega), grd_t (by rw [lgr l2]; omega), gI_r (by omega), grd_t (by rw [lgr l2]; omega), grd_t (by rw [lgr l2]; omega), grd_t (by rw [lgr l3]; omega), gI_r (by omega), grd_t (by rw [lgr l3]; omega), gI_r (by omega), grd_t (by rw [lgr l3]; omega), grd_t (by rw [lgr l3]; omega), grd_t (by rw [lgr l4]; omega), gI_r (by omega), grd_t (by rw [lgr l4]; omega), gI_r (by omega), grd_t (by rw [lgr l4]; omega), grd_t (by rw [lgr l4]; omega)]
  rw [set2, set2, set2, set2, set2]
theorem er5_1 (N : Nat) (s0 s1 s2 s3 s4 : Nat) (h : s1 < 256) (q0 q1 q2 q3 q4 : PV) (f : Nat) (X : List (List Nat)) (hX : X.length = 5) : m9_L0 N (.int .u8 (s0 : Int)) (.int .u8 (s1 : Int)) (.int .u8 (s2 : Int)) (.int .u8 (s3 : Int)) (.int .u8 (s4 : Int)) q0 q1 q2 q3 q4 (f + 1) 1 (cl X 0) (cl X 1) (cl X 2) (cl X 3) (cl X 4) = m9_L0 N (.int .u8 (s0 : Int)) (.int .u8 (s1 : Int)) (.int .u8 (s2 : Int)) (.int .u8 (s3 : Int)) (.int .u8 (s4 : Int)) q0 q1 q2 q3 q4 f 2 (cl (swp 1 (s1 % 2) [] X) 0) (cl (swp 1 (s1 % 2) [] X) 1) (cl (swp 1 (s1 % 2) [] X) 2) (cl (swp 1 (s1 % 2) [] X) 3) (cl (swp 1 (s1 % 2) [] X) 4) := by
  have ek : Int.tmod (IntKind.i64.wrap (s1 : Int)) (IntKind.i64.wrap (1 + 1)) = ((s1 % 2 : Nat) : Int) := by
    rw [show IntKind.i64.wrap (1 + 1) = ((2 : Nat) : Int) by decide]; exact wr0 h
  have hm : s1 % 2 = 0 ∨ s1 % 2 = 1 := by omega
  rcases hm with hm | hm
  · rw [m9_L0, brn_dt (by decide), grd_t ⟨by decide, by decide⟩, grd_t (by decide), show gp [.int .u8 (s0 : Int), .int .u8 (s1 : Int), .int .u8 (s2 : Int), .int .u8 (s3 : Int), .int .u8 (s4 : Int)] (Int.toNat 1) = .int .u8 (s1 : Int) from rfl, getI_t8, grd_t (by decide), ek, hm, casI_t (by decide), casI_f (by decide), casI_t rfl, cl_sw (by omega) (by omega) 0, cl_sw (by omega) (by omega) 1, cl_sw (by omega) (by omega) 2, cl_sw (by omega) (by omega) 3, cl_sw (by omega) (by omega) 4]; rfl
  · rw [m9_L0, brn_dt (by decide), grd_t ⟨by decide, by decide⟩, grd_t (by decide), show gp [.int .u8 (s0 : Int), .int .u8 (s1 : Int), .int .u8 (s2 : Int), .int .u8 (s3 : Int), .int .u8 (s4 : Int)] (Int.toNat 1) = .int .u8 (s1 : Int) from rfl, getI_t8, grd_t (by decide), ek, hm, casI_f (by decide), casI_t (by decide), casI_f (by decide), casI_t rfl, cl_sw (by omega) (by omega) 0, cl_sw (by omega) (by omega) 1, cl_sw (by omega) (by omega) 2, cl_sw (by omega) (by omega) 3, cl_sw (by omega) (by omega) 4]; rfl
theorem ec5_1 (N : Nat) (t0 t1 t2 t3 t4 : Nat) (h : t1 < 256) (f : Nat) (X : List (List Nat)) (hX : X.length = 5) (hl : ∀ j, j < 5 → (X.getD j []).length = 5) : m9_L1 N (.int .u8 (t0 : Int)) (.int .u8 (t1 : Int)) (.int .u8 (t2 : Int)) (.int .u8 (t3 : Int)) (.int .u8 (t4 : Int)) (f + 1) 1 (cl X 0) (cl X 1) (cl X 2) (cl X 3) (cl X 4) = m9_L1 N (.int .u8 (t0 : Int)) (.int .u8 (t1 : Int)) (.int .u8 (t2 : Int)) (.int .u8 (t3 : Int)) (.int .u8 (t4 : Int)) f 2 (cl (X.map (swp 1 (t1 % 2) 0)) 0) (cl (X.map (swp 1 (t1 % 2) 0)) 1) (cl (X.map (swp 1 (t1 % 2) 0)) 2) (cl (X.map (swp 1 (t1 % 2) 0)) 3) (cl (X.map (swp 1 (t1 % 2) 0)) 4) := by
  have ek : Int.tmod (IntKind.i64.wrap (t1 : Int)) (IntKind.i64.wrap (1 + 1)) = ((t1 % 2 : Nat) : Int) := by
    rw [show IntKind.i64.wrap (1 + 1) = ((2 : Nat) : Int) by decide]; exact wr0 h
  have hk : t1 % 2 < 2 := Nat.mod_lt _ (by decide)
  have l0 := hl 0 (by decide)
  have l1 := hl 1 (by decide)
  have l2 := hl 2 (by decide)
  have l3 := hl 3 (by decide)
  have l4 := hl 4 (by decide)
  rw [m9_L1, brn_dt (by decide), grd_t ⟨by decide, by decide⟩, grd_t (by decide), show gp [.int .u8 (t0 : Int), .int .u8 (t1 : Int), .int .u8 (t2 : Int), .int .u8 (t3 : Int), .int .u8 (t4 : Int)] (Int.toNat 1) = .int .u8 (t1 : Int) from rfl, getI_t8, grd_t (by decide), ek, grd_t ⟨by omega, by omega⟩, toNatN, show Int.toNat 1 = 1 from rfl, show IntKind.i64.wrap (1 + 1) = 2 by decide, cl_map (j := 0) (by omega), cl_map (j := 1) (by omega), cl_map (j := 2) (by omega), cl_map (j := 3) (by omega), cl_map (j := 4) (by omega)]
  unfold cl
  rw [grd_t (by rw [lgr l0]; omega), gI_r (by omega), grd_t (by rw [lgr l0]; omega), gI_r (by omega), grd_t (by rw [lgr l0]; omega), grd_t (by rw [lgr l0]; omega), grd_t (by rw [lgr l1]; omega), gI_r (by omega), grd_t (by rw [lgr l1]; omega), gI_r (by omega), grd_t (by rw [lgr l1]; omega), grd_t (by rw [lgr l1]; omega), grd_t (by rw [lgr l2]; omega), gI_r (by omega), grd_t (by rw [lgr l2]; omega), gI_r (by omega), grd_t (by rw [lgr l2]; omega), grd_t (by rw [lgr l2]; omega), grd_t (by rw [lgr l3]; omega), gI_r (by omega), grd_t (by rw [lgr l3]; omega), gI_r (by omega), grd_t (by rw [lgr l3]; omega), grd_t (by rw [lgr l3]; omega), grd_t (by rw [lgr l4]; omega), gI_r (by omega), grd_t (by rw [lgr l4]; omega), gI_r (by omega), grd_t (by rw [lgr l4]; omega), grd_t (by rw [lgr l4]; omega)]
  rw [set2, set2, set2, set2, set2]
theorem er5_2 (N : Nat) (s0 s1 s2 s3 s4 : Nat) (h : s2 < 256) (q0 q1 q2 q3 q4 : PV) (f : Nat) (X : List (List Nat)) (hX : X.length = 5) : m9_L0 N (.int .u8 (s0 : Int)) (.int .u8 (s1 : Int)) (.int .u8 (s2 : Int)) (.int .u8 (s3 : Int)) (.int .u8 (s4 : Int)) q0 q1 q2 q3 q4 (f + 1) 2 (cl X 0) (cl X 1) (cl X 2) (cl X 3) (cl X 4) = m9_L0 N (.int .u8 (s0 : Int)) (.int .u8 (s1 : Int)) (.int .u8 (s2 : Int)) (.int .u8 (s3 : Int)) (.int .u8 (s4 : Int)) q0 q1 q2 q3 q4 f 3 (cl (swp 2 (s2 % 3) [] X) 0) (cl (swp 2 (s2 % 3) [] X) 1) (cl (swp 2 (s2 % 3) [] X) 2) (cl (swp 2 (s2 % 3) [] X) 3) (cl (swp 2 (s2 % 3) [] X) 4) := by
  have ek : Int.tmod (IntKind.i64.wrap (s2 : Int)) (IntKind.i64.wrap (2 + 1)) = ((s2 % 3 : Nat) : Int) := by
    rw [show IntKind.i64.wrap (2 + 1) = ((3 : Nat) : Int) by decide]; exact wr0 h
  have hm : s2 % 3 = 0 ∨ s2 % 3 = 1 ∨ s2 % 3 = 2 := by omega
  rcases hm with hm | hm | hm
  · rw [m9_L0, brn_dt (by decide), grd_t ⟨by decide, by decide⟩, grd_t (by decide), show gp [.int .u8 (s0 : Int), .int .u8 (s1 : Int), .int .u8 (s2 : Int), .int .u8 (s3 : Int), .int .u8 (s4 : Int)] (Int.toNat 2) = .int .u8 (s2 : Int) from rfl, getI_t8, grd_t (by decide), ek, hm, casI_t (by decide), casI_f (by decide), casI_f (by decide), casI_t rfl, cl_sw (by omega) (by omega) 0, cl_sw (by omega) (by omega) 1, cl_sw (by omega) (by omega) 2, cl_sw (by omega) (by omega) 3, cl_sw (by omega) (by omega) 4]; rfl
  · rw [m9_L0, brn_dt (by decide), grd_t ⟨by decide, by decide⟩, grd_t (by decide), show gp [.int .u8 (s0 : Int), .int .u8 (s1 : Int), .int .u8 (s2 : Int), .int .u8 (s3 : Int), .int .u8 (s4 : Int)] (Int.toNat 2) = .int .u8 (s2 : Int) from rfl, getI_t8, grd_t (by decide), ek, hm, casI_f (by decide), casI_t (by decide), casI_f (by decide), casI_f (by decide), casI_t rfl, cl_sw (by omega) (by omega) 0, cl_sw (by omega) (by omega) 1, cl_sw (by omega) (by omega) 2, cl_sw (by omega) (by omega) 3, cl_sw (by omega) (by omega) 4]; rfl
  · rw [m9_L0, brn_dt (by decide), grd_t ⟨by decide, by decide⟩, grd_t (by decide), show gp [.int .u8 (s0 : Int), .int .u8 (s1 : Int), .int .u8 (s2 : Int), .int .u8 (s3 : Int), .int .u8 (s4 : Int)] (Int.toNat 2) = .int .u8 (s2 : Int) from rfl, getI_t8, grd_t (by decide), ek, hm, casI_f (by decide), casI_f (by decide), casI_t (by decide), casI_f (by decide), casI_f (by decide), casI_t rfl, cl_sw (by omega) (by omega) 0, cl_sw (by omega) (by omega) 1, cl_sw (by omega) (by omega) 2, cl_sw (by omega) (by omega) 3, cl_sw (by omega) (by omega) 4]; rfl
theorem ec5_2 (N : Nat) (t0 t1 t2 t3 t4 : Nat) (h : t2 < 256) (f : Nat) (X : List (List Nat)) (hX : X.length = 5) (hl : ∀ j, j < 5 → (X.getD j []).length = 5) : m9_L1 N (.int .u8 (t0 : Int)) (.int .u8 (t1 : Int)) (.int .u8 (t2 : Int)) (.int .u8 (t3 : Int)) (.int .u8 (t4 : Int)) (f + 1) 2 (cl X 0) (cl X 1) (cl X 2) (cl X 3) (cl X 4) = m9_L1 N (.int .u8 (t0 : Int)) (.int .u8 (t1 : Int)) (.int .u8 (t2 : Int)) (.int .u8 (t3 : Int)) (.int .u8 (t4 : Int)) f 3 (cl (X.map (swp 2 (t2 % 3) 0)) 0) (cl (X.map (swp 2 (t2 % 3) 0)) 1) (cl (X.map (swp 2 (t2 % 3) 0)) 2) (cl (X.map (swp 2 (t2 % 3) 0)) 3) (cl (X.map (swp 2 (t2 % 3) 0)) 4) := by
  have ek : Int.tmod (IntKind.i64.wrap (t2 : Int)) (IntKind.i64.wrap (2 + 1)) = ((t2 % 3 : Nat) : Int) := by
    rw [show IntKind.i64.wrap (2 + 1) = ((3 : Nat) : Int) by decide]; exact wr0 h
  have hk : t2 % 3 < 3 := Nat.mod_lt _ (by decide)
  have l0 := hl 0 (by decide)
  have l1 := hl 1 (by decide)
  have l2 := hl 2 (by decide)
  have l3 := hl 3 (by decide)
  have l4 := hl 4 (by decide)
  rw [m9_L1, brn_dt (by decide), grd_t ⟨by decide, by decide⟩, grd_t (by decide), show gp [.int .u8 (t0 : Int), .int .u8 (t1 : Int), .int .u8 (t2 : Int), .int .u8 (t3 : Int), .int .u8 (t4 : Int)] (Int.toNat 2) = .int .u8 (t2 : Int) from rfl, getI_t8, grd_t (by decide), ek, grd_t ⟨by omega, by omega⟩, toNatN, show Int.toNat 2 = 2 from rfl, show IntKind.i64.wrap (2 + 1) = 3 by decide, cl_map (j := 0) (by omega), cl_map (j := 1) (by omega), cl_map (j := 2) (by omega), cl_map (j := 3) (by omega), cl_map (j := 4) (by omega)]
  unfold cl
  rw [grd_t (by rw [lgr l0]; omega), gI_r (by omega), grd_t (by rw [lgr l0]; omega), gI_r (by omega), grd_t (by rw [lgr l0]; omega), grd_t (by rw [lgr l0]; omega), grd_t (by rw [lgr l1]; omega), gI_r (by omega), grd_t (by rw [lgr l1]; omega), gI_r (by omega), grd_t (by rw [lgr l1]; omega), grd_t (by rw [lgr l1]; omega), grd_t (by rw [lgr l2]; omega), gI_r (by omega), grd_t (by rw [lgr l2]; omega), gI_r (by omega), grd_t (by rw [lgr l2]; omega), grd_t (by rw [lgr l2]; omega), grd_t (by rw [lgr l3]; omega), gI_r (by omega), grd_t (by rw [lgr l3]; omega), gI_r (by omega), grd_t (by rw [lgr l3]; omega), grd_t (by rw [lgr l3]; omega), grd_t (by rw [lgr l4]; omega), gI_r (by omega), grd_t (by rw [lgr l4]; omega), gI_r (by omega), grd_t (by rw [lgr l4]; omega), grd_t (by rw [lgr l4]; omega)]
  rw [set2, set2, set2, set2, set2]
theorem er5_3 (N : Nat) (s0 s1 s2 s3 s4 : Nat) (h : s3 < 256) (q0 q1 q2 q3 q4 : PV) (f : Nat) (X : List (List Nat)) (hX : X.length = 5) : m9_L0 N (.int .u8 (s0 : Int)) (.int .u8 (s1 : Int)) (.int .u8 (s2 : Int)) (.int .u8 (s3 : Int)) (.int .u8 (s4 : Int)) q0 q1 q2 q3 q4 (f + 1) 3 (cl X 0) (cl X 1) (cl X 2) (cl X 3) (cl X 4) = m9_L0 N (.int .u8 (s0 : Int)) (.int .u8 (s1 : Int)) (.int .u8 (s2 : Int)) (.int .u8 (s3 : Int)) (.int .u8 (s4 : Int)) q0 q1 q2 q3 q4 f 4 (cl (swp 3 (s3 % 4) [] X) 0) (cl (swp 3 (s3 % 4) [] X) 1) (cl (swp 3 (s3 % 4) [] X) 2) (cl (swp 3 (s3 % 4) [] X) 3) (cl (swp 3 (s3 % 4) [] X) 4) := by
  have ek : Int.tmod (IntKind.i64.wrap (s3 : Int)) (IntKind.i64.wrap (3 + 1)) = ((s3 % 4 : Nat) : Int) := by
    rw [show IntKind.i64.wrap (3 + 1) = ((4 : Nat) : Int) by decide]; exact wr0 h
  have hm : s3 % 4 = 0 ∨ s3 % 4 = 1 ∨ s3 % 4 = 2 ∨ s3 % 4 = 3 := by omega
  rcases hm with hm | hm | hm | hm
  · rw [m9_L0, brn_dt (by decide), grd_t ⟨by decide, by decide⟩, grd_t (by decide), show gp [.int .u8 (s0 : Int), .int .u8 (s1 : Int), .int .u8 (s2 : Int), .int .u8 (s3 : Int), .int .u8 (s4 : Int)] (Int.toNat 3) = .int .u8 (s3 : Int) from rfl, getI_t8, grd_t (by decide), ek, hm, casI_t (by decide), casI_f (by decide), casI_f (by decide), casI_f (by decide), casI_t rfl, cl_sw (by omega) (by omega) 0, cl_sw (by omega) (by omega) 1, cl_sw (by omega) (by omega) 2, cl_sw (by omega) (by omega) 3, cl_sw (by omega) (by omega) 4]; rfl
  · rw [m9_L0, brn_dt (by decide), grd_t ⟨by decide, by decide⟩, grd_t (by decide), show gp [.int .u8 (s0 : Int), .int .u8 (s1 : Int), .int .u8 (s2 : Int), .int .u8 (s3 : Int), .int .u8 (s4 : Int)] (Int.toNat 3) = .int .u8 (s3 : Int) from rfl, getI_t8, grd_t (by decide), ek, hm, casI_f (by decide), casI_t (by decide), casI_f (by decide), casI_f (by decide), casI_f (by decide), casI_t rfl, cl_sw (by omega) (by omega) 0, cl_sw (by omega) (by omega) 1, cl_sw (by omega) (by omega) 2, cl_sw (by omega) (by omega) 3, cl_sw (by omega) (by omega) 4]; rfl
  · rw [m9_L0, brn_dt (by decide), grd_t ⟨by decide, by decide⟩, grd_t (by decide), show gp [.int .u8 (s0 : Int), .int .u8 (s1 : Int), .int .u8 (s2 : Int), .int .u8 (s3 : Int), .int .u8 (s4 : Int)] (Int.toNat 3) = .int .u8 (s3 : Int) from rfl, getI_t8, grd_t (by decide), ek, hm, casI_f (by decide), casI_f (by decide), casI_t (by decide), casI_f (by decide), casI_f (by decide), casI_f (by decide), casI_t rfl, cl_sw (by omega) (by omega) 0, cl_sw (by omega) (by omega) 1, cl_sw (by omega) (by omega) 2, cl_sw (by omega) (by omega) 3, cl_sw (by omega) (by omega) 4]; rfl
  · rw [m9_L0, brn_dt (by decide), grd_t ⟨by decide, by decide⟩, grd_t (by decide), show gp [.int .u8 (s0 : Int), .int .u8 (s1 : Int), .int .u8 (s2 : Int), .int .u8 (s3 : Int), .int .u8 (s4 : Int)] (Int.toNat 3) = .int .u8 (s3 : Int) from rfl, getI_t8, grd_t (by decide), ek, hm, casI_f (by decide), casI_f (by decide), casI_f (by decide), casI_t (by decide), casI_f (by decide), casI_f (by decide), casI_f (by decide), casI_t rfl, cl_sw (by omega) (by omega) 0, cl_sw (by omega) (by omega) 1, cl_sw (by omega) (by omega) 2, cl_sw (by omega) (by omega) 3, cl_sw (by omega) (by omega) 4]; rfl
theorem ec5_3 (N : Nat) (t0 t1 t2 t3 t4 : Nat) (h : t3 < 256) (f : Nat) (X : List (List Nat)) (hX : X.length = 5) (hl : ∀ j, j < 5 → (X.getD j []).length = 5) : m9_L1 N (.int .u8 (t0 : Int)) (.int .u8 (t1 : Int)) (.int .u8 (t2 : Int)) (.int .u8 (t3 : Int)) (.int .u8 (t4 : Int)) (f + 1) 3 (cl X 0) (cl X 1) (cl X 2) (cl X 3) (cl X 4) = m9_L1 N (.int .u8 (t0 : Int)) (.int .u8 (t1 : Int)) (.int .u8 (t2 : Int)) (.int .u8 (t3 : Int)) (.int .u8 (t4 : Int)) f 4 (cl (X.map (swp 3 (t3 % 4) 0)) 0) (cl (X.map (swp 3 (t3 % 4) 0)) 1) (cl (X.map (swp 3 (t3 % 4) 0)) 2) (cl (X.map (swp 3 (t3 % 4) 0)) 3) (cl (X.map (swp 3 (t3 % 4) 0)) 4) := by
  have ek : Int.tmod (IntKind.i64.wrap (t3 : Int)) (IntKind.i64.wrap (3 + 1)) = ((t3 % 4 : Nat) : Int) := by
    rw [show IntKind.i64.wrap (3 + 1) = ((4 : Nat) : Int) by decide]; exact wr0 h
  have hk : t3 % 4 < 4 := Nat.mod_lt _ (by decide)
  have l0 := hl 0 (by decide)
  have l1 := hl 1 (by decide)
  have l2 := hl 2 (by decide)
  have l3 := hl 3 (by decide)
  have l4 := hl 4 (by decide)
  rw [m9_L1, brn_dt (by decide), grd_t ⟨by decide, by decide⟩, grd_t (by decide), show gp [.int .u8 (t0 : Int), .int .u8 (t1 : Int), .int .u8 (t2 : Int), .int .u8 (t3 : Int), .int .u8 (t4 : Int)] (Int.toNat 3) = .int .u8 (t3 : Int) from rfl, getI_t8, grd_t (by decide), ek, grd_t ⟨by omega, by omega⟩, toNatN, show Int.toNat 3 = 3 from rfl, show IntKind.i64.wrap (3 + 1) = 4 by decide, cl_map (j := 0) (by omega), cl_map (j := 1) (by omega), cl_map (j := 2) (by omega), cl_map (j := 3) (by omega), cl_map (j := 4) (by omega)]
  unfold cl
  rw [grd_t (by rw [lgr l0]; omega), gI_r (by omega), grd_t (by rw [lgr l0]; omega), gI_r (by omega), grd_t (by rw [lgr l0]; omega), grd_t (by rw [lgr l0]; omega), grd_t (by rw [lgr l1]; omega), gI_r (by omega), grd_t (by rw [lgr l1]; omega), gI_r (by omega), grd_t (by rw [lgr l1]; omega), grd_t (by rw [lgr l1]; omega), grd_t (by rw [lgr l2]; omega), gI_r (by omega), grd_t (by rw [lgr l2]; omega), gI_r (by omega), grd_t (by rw [lgr l2]; omega), grd_t (by rw [lgr l2]; omega), grd_t (by rw [lgr l3]; omega), gI_r (by omega), grd_t (by rw [lgr l3]; omega), gI_r (by omega), grd_t (by rw [lgr l3]; omega), grd_t (by rw [lgr l3]; omega), grd_t (by rw [lgr l4]; omega), gI_r (by omega), grd_t (by rw [lgr l4]; omega), gI_r (by omega), grd_t (by rw [lgr l4]; omega), grd_t (by rw [lgr l4]; omega)]
  rw [set2, set2, set2, set2, set2]
theorem er5_4 (N : Nat) (s0 s1 s2 s3 s4 : Nat) (h : s4 < 256) (q0 q1 q2 q3 q4 : PV) (f : Nat) (X : List (List Nat)) (hX : X.length = 5) : m9_L0 N (.int .u8 (s0 : Int)) (.int .u8 (s1 : Int)) (.int .u8 (s2 : Int)) (.int .u8 (s3 : Int)) (.int .u8 (s4 : Int)) q0 q1 q2 q3 q4 (f + 1) 4 (cl X 0) (cl X 1) (cl X 2) (cl X 3) (cl X 4) = m9_L0 N (.int .u8 (s0 : Int)) (.int .u8 (s1 : Int)) (.int .u8 (s2 : Int)) (.int .u8 (s3 : Int)) (.int .u8 (s4 : Int)) q0 q1 q2 q3 q4 f 5 (cl (swp 4 (s4 % 5) [] X) 0) (cl (swp 4 (s4 % 5) [] X) 1) (cl (swp 4 (s4 % 5) [] X) 2) (cl (swp 4 (s4 % 5) [] X) 3) (cl (swp 4 (s4 % 5) [] X) 4) := by
  have ek : Int.tmod (IntKind.i64.wrap (s4 : Int)) (IntKind.i64.wrap (4 + 1)) = ((s4 % 5 : Nat) : Int) := by
    rw [show IntKind.i64.wrap (4 + 1) = ((5 : Nat) : Int) by decide]; exact wr0 h
  have hm : s4 % 5 = 0 ∨ s4 % 5 = 1 ∨ s4 % 5 = 2 ∨ s4 % 5 = 3 ∨ s4 % 5 = 4 := by omega
  rcases hm with hm | hm | hm | hm | hm
  · rw [m9_L0, brn_dt (by decide), grd_t ⟨by decide, by decide⟩, grd_t (by decide), show gp [.int .u8 (s0 : Int), .int .u8 (s1 : Int), .int .u8 (s2 : Int), .int .u8 (s3 : Int), .int .u8 (s4 : Int)] (Int.toNat 4) = .int .u8 (s4 : Int) from rfl, getI_t8, grd_t (by decide), ek, hm, casI_t (by decide), casI_f (by decide), casI_f (by decide), casI_f (by decide), casI_f (by decide), casI_t rfl, cl_sw (by omega) (by omega) 0, cl_sw (by omega) (by omega) 1, cl_sw (by omega) (by omega) 2, cl_sw (by omega) (by omega) 3, cl_sw (by omega) (by omega) 4]; rfl
  · rw [m9_L0, brn_dt (by decide), grd_t ⟨by decide, by decide⟩, grd_t (by decide), show gp [.int .u8 (s0 : Int), .int .u8 (s1 : Int), .int .u8 (s2 : Int), .int .u8 (s3 : Int), .int .u8 (s4 : Int)] (Int.toNat 4) = .int .u8 (s4 : Int) from rfl, getI_t8, grd_t (by decide), ek, hm, casI_f (by decide), casI_t (by decide), casI_f (by decide), casI_f (by decide), casI_f (by decide), casI_f (by decide), casI_t rfl, cl_sw (by omega) (by omega) 0, cl_sw (by omega) (by omega) 1, cl_sw (by omega) (by omega) 2, cl_sw (by omega) (by omega) 3, cl_sw (by omega) (by omega) 4]; rfl
  · rw [m9_L0, brn_dt (by decide), grd_t ⟨by decide, by decide⟩, grd_t (by decide), show gp [.int .u8 (s0 : Int), .int .u8 (s1 : Int), .int .u8 (s2 : Int), .int .u8 (s3 : Int), .int .u8 (s4 : Int)] (Int.toNat 4) = .int .u8 (s4 : Int) from rfl, getI_t8, grd_t (by decide), ek, hm, casI_f (by decide), casI_f (by decide), casI_t (by decide), casI_f (by decide), casI_f (by decide), casI_f (by decide), casI_f (by decide), casI_t rfl, cl_sw (by omega) (by omega) 0, cl_sw (by omega) (by omega) 1, cl_sw (by omega) (by omega) 2, cl_sw (by omega) (by omega) 3, cl_sw (by omega) (by omega) 4]; rfl
  · rw [m9_L0, brn_dt (by decide), grd_t ⟨by decide, by decide⟩, grd_t (by decide), show gp [.int .u8 (s0 : Int), .int .u8 (s1 : Int), .int .u8 (s2 : Int), .int .u8 (s3 : Int), .int .u8 (s4 : Int)] (Int.toNat 4) = .int .u8 (s4 : Int) from rfl, getI_t8, grd_t (by decide), ek, hm, casI_f (by decide), casI_f (by decide), casI_f (by decide), casI_t (by decide), casI_f (by decide), casI_f (by decide), casI_f (by decide), casI_f (by decide), casI_t rfl, cl_sw (by omega) (by omega) 0, cl_sw (by omega) (by omega) 1, cl_sw (by omega) (by omega) 2, cl_sw (by omega) (by omega) 3, cl_sw (by omega) (by omega) 4]; rfl
  · rw [m9_L0, brn_dt (by decide), grd_t ⟨by decide, by decide⟩, grd_t (by decide), show gp [.int .u8 (s0 : Int), .int .u8 (s1 : Int), .int .u8 (s2 : Int), .int .u8 (s3 : Int), .int .u8 (s4 : Int)] (Int.toNat 4) = .int .u8 (s4 : Int) from rfl, getI_t8, grd_t (by decide), ek, hm, casI_f (by decide), casI_f (by decide), casI_f (by decide), casI_f (by decide), casI_t (by decide), casI_f (by decide), casI_f (by decide), casI_f (by decide), casI_f (by decide), casI_t rfl, cl_sw (by omega) (by omega) 0, cl_sw (by omega) (by omega) 1, cl_sw (by omega) (by omega) 2, cl_sw (by omega) (by omega) 3, cl_sw (by omega) (by omega) 4]; rfl
theorem ec5_4 (N : Nat) (t0 t1 t2 t3 t4 : Nat) (h : t4 < 256) (f : Nat) (X : List (List Nat)) (hX : X.length = 5) (hl : ∀ j, j < 5 → (X.getD j []).length = 5) : m9_L1 N (.int .u8 (t0 : Int)) (.int .u8 (t1 : Int)) (.int .u8 (t2 : Int)) (.int .u8 (t3 : Int)) (.int .u8 (t4 : Int)) (f + 1) 4 (cl X 0) (cl X 1) (cl X 2) (cl X 3) (cl X 4) = m9_L1 N (.int .u8 (t0 : Int)) (.int .u8 (t1 : Int)) (.int .u8 (t2 : Int)) (.int .u8 (t3 : Int)) (.int .u8 (t4 : Int)) f 5 (cl (X.map (swp 4 (t4 % 5) 0)) 0) (cl (X.map (swp 4 (t4 % 5) 0)) 1) (cl (X.map (swp 4 (t4 % 5) 0)) 2) (cl (X.map (swp 4 (t4 % 5) 0)) 3) (cl (X.map (swp 4 (t4 % 5) 0)) 4) := by
  have ek : Int.tmod (IntKind.i64.wrap (t4 : Int)) (IntKind.i64.wrap (4 + 1)) = ((t4 % 5 : Nat) : Int) := by
    rw [show IntKind.i64.wrap (4 + 1) = ((5 : Nat) : Int) by decide]; exact wr0 h
  have hk : t4 % 5 < 5 := Nat.mod_lt _ (by decide)
  have l0 := hl 0 (by decide)
  have l1 := hl 1 (by decide)
  have l2 := hl 2 (by decide)
  have l3 := hl 3 (by decide)
  have l4 := hl 4 (by decide)
  rw [m9_L1, brn_dt (by decide), grd_t ⟨by decide, by decide⟩, grd_t (by decide), show gp [.int .u8 (t0 : Int), .int .u8 (t1 : Int), .int .u8 (t2 : Int), .int .u8 (t3 : Int), .int .u8 (t4 : Int)] (Int.toNat 4) = .int .u8 (t4 : Int) from rfl, getI_t8, grd_t (by decide), ek, grd_t ⟨by omega, by omega⟩, toNatN, show Int.toNat 4 = 4 from rfl, show IntKind.i64.wrap (4 + 1) = 5 by decide, cl_map (j := 0) (by omega), cl_map (j := 1) (by omega), cl_map (j := 2) (by omega), cl_map (j := 3) (by omega), cl_map (j := 4) (by omega)]
  unfold cl
  rw [grd_t (by rw [lgr l0]; omega), gI_r (by omega), grd_t (by rw [lgr l0]; omega), gI_r (by omega), grd_t (by rw [lgr l0]; omega), grd_t (by rw [lgr l0]; omega), grd_t (by rw [lgr l1]; omega), gI_r (by omega), grd_t (by rw [lgr l1]; omega), gI_r (by omega), grd_t (by rw [lgr l1]; omega), grd_t (by rw [lgr l1]; omega), grd_t (by rw [lgr l2]; omega), gI_r (by omega), grd_t (by rw [lgr l2]; omega), gI_r (by omega), grd_t (by rw [lgr l2]; omega), grd_t (by rw [lgr l2]; omega), grd_t (by rw [lgr l3]; omega), gI_r (by omega), grd_t (by rw [lgr l3]; omega), gI_r (by omega), grd_t (by rw [lgr l3]; omega), grd_t (by rw [lgr l3]; omega), grd_t (by rw [lgr l4]; omega), gI_r (by omega), grd_t (by rw [lgr l4]; omega), gI_r (by omega), grd_t (by rw [lgr l4]; omega), grd_t (by rw [lgr l4]; omega)]
  rw [set2, set2, set2, set2, set2]
theorem er5 (N v : Nat) (s0 s1 s2 s3 s4 : Nat) (h : ∀ j, j < 5 → gn [s0, s1, s2, s3, s4] j < 256) (q0 q1 q2 q3 q4 : PV) (f : Nat) (X : List (List Nat)) (hX : Pv 5 v X) : ∃ Y, Pv 5 v Y ∧ m9_L0 N (.int .u8 (s0 : Int)) (.int .u8 (s1 : Int)) (.int .u8 (s2 : Int)) (.int .u8 (s3 : Int)) (.int .u8 (s4 : Int)) q0 q1 q2 q3 q4 (f + 6) 0 (cl X 0) (cl X 1) (cl X 2) (cl X 3) (cl X 4) = some (cl Y 0, cl Y 1, cl Y 2, cl Y 3, cl Y 4) := by
  have p0 := hX
  have p1 := p0.swR (i := 0) (k := s0 % 1) (by decide) (by have := Nat.mod_lt s0 (show 0 < 1 by decide); omega)
  have p2 := p1.swR (i := 1) (k := s1 % 2) (by decide) (by have := Nat.mod_lt s1 (show 0 < 2 by decide); omega)
  have p3 := p2.swR (i := 2) (k := s2 % 3) (by decide) (by have := Nat.mod_lt s2 (show 0 < 3 by decide); omega)
  have p4 := p3.swR (i := 3) (k := s3 % 4) (by decide) (by have := Nat.mod_lt s3 (show 0 < 4 by decide); omega)
  have p5 := p4.swR (i := 4) (k := s4 % 5) (by decide) (by have := Nat.mod_lt s4 (show 0 < 5 by decide); omega)
  refine ⟨_, p5, ?_⟩
  rw [show f + 6 = f + 5 + 1 from rfl, er5_0 N s0 s1 s2 s3 s4 (h 0 (by decide)) q0 q1 q2 q3 q4 _ _ p0.pq.len]
  rw [show f + 5 = f + 4 + 1 from rfl, er5_1 N s0 s1 s2 s3 s4 (h 1 (by decide)) q0 q1 q2 q3 q4 _ _ p1.pq.len]
  rw [show f + 4 = f + 3 + 1 from rfl, er5_2 N s0 s1 s2 s3 s4 (h 2 (by decide)) q0 q1 q2 q3 q4 _ _ p2.pq.len]
  rw [show f + 3 = f + 2 + 1 from rfl, er5_3 N s0 s1 s2 s3 s4 (h 3 (by decide)) q0 q1 q2 q3 q4 _ _ p3.pq.len]
  rw [show f + 2 = f + 1 + 1 from rfl, er5_4 N s0 s1 s2 s3 s4 (h 4 (by decide)) q0 q1 q2 q3 q4 _ _ p4.pq.len]
  rw [m9_L0, brn_df (by decide)]
theorem ec5 (N v : Nat) (t0 t1 t2 t3 t4 : Nat) (h : ∀ j, j < 5 → gn [t0, t1, t2, t3, t4] j < 256) (f : Nat) (X : List (List Nat)) (hX : Pv 5 v X) : ∃ Y, Pv 5 v Y ∧ m9_L1 N (.int .u8 (t0 : Int)) (.int .u8 (t1 : Int)) (.int .u8 (t2 : Int)) (.int .u8 (t3 : Int)) (.int .u8 (t4 : Int)) (f + 6) 0 (cl X 0) (cl X 1) (cl X 2) (cl X 3) (cl X 4) = some (cl Y 0, cl Y 1, cl Y 2, cl Y 3, cl Y 4) := by
  have p0 := hX
  have p1 := p0.swC (i := 0) (k := t0 % 1) (by decide) (by have := Nat.mod_lt t0 (show 0 < 1 by decide); omega)
  have p2 := p1.swC (i := 1) (k := t1 % 2) (by decide) (by have := Nat.mod_lt t1 (show 0 < 2 by decide); omega)
  have p3 := p2.swC (i := 2) (k := t2 % 3) (by decide) (by have := Nat.mod_lt t2 (show 0 < 3 by decide); omega)
  have p4 := p3.swC (i := 3) (k := t3 % 4) (by decide) (by have := Nat.mod_lt t3 (show 0 < 4 by decide); omega)
  have p5 := p4.swC (i := 4) (k := t4 % 5) (by decide) (by have := Nat.mod_lt t4 (show 0 < 5 by decide); omega)
  have hq : ∀ Z, Pv 5 v Z → ∀ j, j < 5 → (Z.getD j []).length = 5 := fun Z hZ j hj => by have := (ext_get (hZ.pq.row j hj)).1; simpa using this
  refine ⟨_, p5, ?_⟩
  rw [show f + 6 = f + 5 + 1 from rfl, ec5_0 N t0 t1 t2 t3 t4 (h 0 (by decide)) _ _ p0.pq.len (hq _ p0)]
  rw [show f + 5 = f + 4 + 1 from rfl, ec5_1 N t0 t1 t2 t3 t4 (h 1 (by decide)) _ _ p1.pq.len (hq _ p1)]
  rw [show f + 4 = f + 3 + 1 from rfl, ec5_2 N t0 t1 t2 t3 t4 (h 2 (by decide)) _ _ p2.pq.len (hq _ p2)]
  rw [show f + 3 = f + 2 + 1 from rfl, ec5_3 N t0 t1 t2 t3 t4 (h 3 (by decide)) _ _ p3.pq.len (hq _ p3)]
  rw [show f + 2 = f + 1 + 1 from rfl, ec5_4 N t0 t1 t2 t3 t4 (h 4 (by decide)) _ _ p4.pq.len (hq _ p4)]
  rw [m9_L1, brn_df (by decide)]
set_option maxRecDepth 100000 in
theorem ea5 : m42 5000 5 = some (.lst false 5 (rwsP ((rN 5).map nL))) ∧ m21_6 5000 (.lst false 5 (rwsP ((rN 5).map nL))) [.int .i64 0, .int .i64 1, .int .i64 2, .int .i64 3, .int .i64 4] [.int .i64 1, .int .i64 2, .int .i64 3, .int .i64 4, .int .i64 0] [.int .i64 2, .int .i64 3, .int .i64 4, .int .i64 0, .int .i64 1] [.int .i64 3, .int .i64 4, .int .i64 0, .int .i64 1, .int .i64 2] [.int .i64 4, .int .i64 0, .int .i64 1, .int .i64 2, .int .i64 3] = some (.bool true) ∧ m31 5000 10 = some (.tup [.lst false 0 [], .int .i64 1]) := ⟨by kernel_rfl, by kernel_rfl, by kernel_rfl⟩
theorem el5 (a : Nat) (ha : a < 256) (hn : 1 + a % 5 = 5) (s0 s1 s2 s3 s4 : Nat) (hs : ∀ j, j < 5 → gn [s0, s1, s2, s3, s4] j < 256) (t0 t1 t2 t3 t4 : Nat) (ht : ∀ j, j < 5 → gn [t0, t1, t2, t3, t4] j < 256) : m9 5000 (a : Int) (.agg [.int .u8 (s0 : Int), .int .u8 (s1 : Int), .int .u8 (s2 : Int), .int .u8 (s3 : Int), .int .u8 (s4 : Int)]) (.agg [.int .u8 (t0 : Int), .int .u8 (t1 : Int), .int .u8 (t2 : Int), .int .u8 (t3 : Int), .int .u8 (t4 : Int)]) = some (.bool true) := by
  obtain ⟨Y, hY, eY⟩ := er5 5000 15 s0 s1 s2 s3 s4 hs (.int .u8 (t0 : Int)) (.int .u8 (t1 : Int)) (.int .u8 (t2 : Int)) (.int .u8 (t3 : Int)) (.int .u8 (t4 : Int)) 4994 (rN 5) rN5
  obtain ⟨Z, hZ, eZ⟩ := ec5 5000 15 t0 t1 t2 t3 t4 ht 4994 Y hY
  obtain ⟨D, hV⟩ := hZ.pq.pl.vp'
  have hcr := (cross_n 5000 (by decide) 5 (by decide) (by decide) Z D hV hZ.pq.len).2
  rw [hZ.c] at hcr
  have hq : ∀ j, j < 5 → (Z.getD j []).length = 5 := fun j hj => by have := (ext_get (hZ.pq.row j hj)).1; simpa using this
  have eR : rwsP (Z.map nL) = [.lst false 5 (cl Z 0), .lst false 5 (cl Z 1), .lst false 5 (cl Z 2), .lst false 5 (cl Z 3), .lst false 5 (cl Z 4)] := by
    have hl := hZ.pq.len
    match Z, hl, hq with
    | [z0, z1, z2, z3, z4], _, hq =>
      have w0 : z0.length = 5 := hq 0 (by decide)
      have w1 : z1.length = 5 := hq 1 (by decide)
      have w2 : z2.length = 5 := hq 2 (by decide)
      have w3 : z3.length = 5 := hq 3 (by decide)
      have w4 : z4.length = 5 := hq 4 (by decide)
      simp only [rwsP, rwP, List.map_cons, List.map_nil, nL_len, w0, w1, w2, w3, w4]; rfl
  rw [eR] at hcr
  have m16t : m16 5000 = some (.bool true) := rfl
  obtain ⟨e42, e21, e31⟩ := ea5
  rw [m9, show ∀ (p q r s t : PV) (k : PV → PV → PV → PV → PV → Option PV), getA5 (.agg [p, q, r, s, t]) k = k p q r s t from fun _ _ _ _ _ _ => rfl, show ∀ (p q r s t : PV) (k : PV → PV → PV → PV → PV → Option PV), getA5 (.agg [p, q, r, s, t]) k = k p q r s t from fun _ _ _ _ _ _ => rfl, grd_t (by decide), wr8 a ha, hn, casI_f (by decide), casI_f (by decide), casI_f (by decide), casI_f (by decide), casI_t (by decide), e42, bnd_t, getL_t, e21, bnd_t, getB_t, brn_t rfl]
  rw [show m9_L0 5000 (.int .u8 (s0 : Int)) (.int .u8 (s1 : Int)) (.int .u8 (s2 : Int)) (.int .u8 (s3 : Int)) (.int .u8 (s4 : Int)) (.int .u8 (t0 : Int)) (.int .u8 (t1 : Int)) (.int .u8 (t2 : Int)) (.int .u8 (t3 : Int)) (.int .u8 (t4 : Int)) 5000 0 [.int .i64 0, .int .i64 1, .int .i64 2, .int .i64 3, .int .i64 4] [.int .i64 1, .int .i64 2, .int .i64 3, .int .i64 4, .int .i64 0] [.int .i64 2, .int .i64 3, .int .i64 4, .int .i64 0, .int .i64 1] [.int .i64 3, .int .i64 4, .int .i64 0, .int .i64 1, .int .i64 2] [.int .i64 4, .int .i64 0, .int .i64 1, .int .i64 2, .int .i64 3] = _ from eY, bnd_t]
  dsimp only
  rw [show m9_L1 5000 (.int .u8 (t0 : Int)) (.int .u8 (t1 : Int)) (.int .u8 (t2 : Int)) (.int .u8 (t3 : Int)) (.int .u8 (t4 : Int)) 5000 0 (cl Y 0) (cl Y 1) (cl Y 2) (cl Y 3) (cl Y 4) = _ from eZ, bnd_t]
  dsimp only
  rw [grd_t (show (cl Z 0).length = 5 from lgr (hq 0 (by decide))), grd_t (show (cl Z 1).length = 5 from lgr (hq 1 (by decide))), grd_t (show (cl Z 2).length = 5 from lgr (hq 2 (by decide))), grd_t (show (cl Z 3).length = 5 from lgr (hq 3 (by decide))), grd_t (show (cl Z 4).length = 5 from lgr (hq 4 (by decide))), show m35 5000 5 (.lst false 5 [.lst false 5 (cl Z 0), .lst false 5 (cl Z 1), .lst false 5 (cl Z 2), .lst false 5 (cl Z 3), .lst false 5 (cl Z 4)]) = _ from hcr, bnd_t, getT2_t, getI_t, getI_t, e31, bnd_t, getT2_t, getL_t, getI_t, brn_et rfl, m43, getL_t, bnd_t, getL_t, grd_t (by decide), grd_t (by simp), show gp [PV.int .i64 0, .int .i64 1, .int .i64 0, .int .i64 3, .int .i64 0, .int .i64 15] 5 = .int .i64 15 from rfl, getI_t, brn_et (by decide), brn_et (by decide), m16t, bnd_t, getB_t]
theorem law9 (a : Nat) (ha : a < 256) (s0 s1 s2 s3 s4 : Nat) (hs : ∀ j, j < 5 → gn [s0, s1, s2, s3, s4] j < 256) (t0 t1 t2 t3 t4 : Nat) (ht : ∀ j, j < 5 → gn [t0, t1, t2, t3, t4] j < 256) : m9 5000 (a : Int) (.agg [.int .u8 (s0 : Int), .int .u8 (s1 : Int), .int .u8 (s2 : Int), .int .u8 (s3 : Int), .int .u8 (s4 : Int)]) (.agg [.int .u8 (t0 : Int), .int .u8 (t1 : Int), .int .u8 (t2 : Int), .int .u8 (t3 : Int), .int .u8 (t4 : Int)]) = some (.bool true) := by
  have hn : 1 + a % 5 = 1 ∨ 1 + a % 5 = 2 ∨ 1 + a % 5 = 3 ∨ 1 + a % 5 = 4 ∨ 1 + a % 5 = 5 := by omega
  rcases hn with h | h | h | h | h
  · exact el1 a ha h s0 s1 s2 s3 s4 hs t0 t1 t2 t3 t4 ht
  · exact el2 a ha h s0 s1 s2 s3 s4 hs t0 t1 t2 t3 t4 ht
  · exact el3 a ha h s0 s1 s2 s3 s4 hs t0 t1 t2 t3 t4 ht
  · exact el4 a ha h s0 s1 s2 s3 s4 hs t0 t1 t2 t3 t4 ht
  · exact el5 a ha h s0 s1 s2 s3 s4 hs t0 t1 t2 t3 t4 ht
end Go.Proofs.YtcaecfofgdogbaaDoor
namespace Go.Proofs.YtcaecfofgdogbaaDoor
open Go.V
theorem oct_of {x : List PV} (h : PT tab 5 x) : ∃ n : Nat, n < 256 ∧ x = [.int .u8 (n : Int)] := by
  obtain ⟨a, e, h1, h2⟩ := h.int' tl5 rfl
  have h1' : (0 : Int) ≤ a := h1
  have h2' : a ≤ 255 := h2
  exact ⟨a.toNat, by omega, by rw [e]; congr 2; omega⟩
theorem five_of {x : List PV} (h : PT tab 38 x) : ∃ a b c d e : Nat, (∀ j, j < 5 → gn [a, b, c, d, e] j < 256) ∧ x = [.int .u8 (a : Int), .int .u8 (b : Int), .int .u8 (c : Int), .int .u8 (d : Int), .int .u8 (e : Int)] := by
  obtain ⟨xs, rfl, hl, hxs⟩ := h.arr' tl38 rfl
  match xs, hl with
  | [p, q, r, s, t], _ =>
    obtain ⟨c0, h0, rfl⟩ := oct_of (hxs p (by simp))
    obtain ⟨c1, h1, rfl⟩ := oct_of (hxs q (by simp))
    obtain ⟨c2, h2, rfl⟩ := oct_of (hxs r (by simp))
    obtain ⟨c3, h3, rfl⟩ := oct_of (hxs s (by simp))
    obtain ⟨c4, h4, rfl⟩ := oct_of (hxs t (by simp))
    refine ⟨c0, c1, c2, c3, c4, fun j hj => ?_, rfl⟩
    match j, hj with
    | 0, _ => exact h0
    | 1, _ => exact h1
    | 2, _ => exact h2
    | 3, _ => exact h3
    | 4, _ => exact h4
theorem con9 (x0 : PV) (hw : PT tab 5 [x0]) (x1 : List PV) (hy : PT tab 38 x1) (x2 : List PV) (hz : PT tab 38 x2) : FnP Tryd.prog 9 [x0, .agg x1, .agg x2] (.bool true) := by
  obtain ⟨w, hwd, e⟩ := oct_of hw
  cases e
  obtain ⟨a0, a1, a2, a3, a4, hA, rfl⟩ := five_of hy
  obtain ⟨b0, b1, b2, b3, b4, hB, rfl⟩ := five_of hz
  exact FnP_le (c9 5000 _ _ _ _ (law9 w hwd a0 a1 a2 a3 a4 hA b0 b1 b2 b3 b4 hB)) (.cons _ _ _ _ (.refl _) (.cons _ _ _ _ (.refl _) (.cons _ _ _ _ (.refl _) .nil))) (.refl _)
end Go.Proofs.YtcaecfofgdogbaaDoor
namespace Go.Proofs.YtcaecfofgdogbaaDoor.weekEven
open Go.ChangeShapes Go.WideShapes Go.ChangeAt Go.RowKit Go.V
theorem own : ownKnob Tryd.prog.godebug = none := by kernel_rfl
theorem laid : laidOutB Tryd.prog = true := by kernel_rfl
set_option maxRecDepth 100000 in
theorem lifted (os : Os) (started : os.Started) (H : Type) (enc : TypeId × Value → H) :
    ReturnsInHanded {} Tryd.checked os 9 .any (fun w args => (Rows.weekEvenSpec.pre enc Tryd.prog Tryd.f9 [] false w args ∧ laidMetH Tryd.prog [("math/bits.deBruijn32tab", Rows.laid_math_bits_deBruijn32tab), ("math/bits.deBruijn64tab", Rows.laid_math_bits_deBruijn64tab)] w) ∧ sizedMet enc Tryd.prog Tryd.f9 (OpenSpec.ofChange Rows.weekEvenSpec) false w args)
      (Rows.weekEvenSpec.post enc Tryd.prog Tryd.f9 false true false false) := by
  refine returnsInHanded_of_change_and (C := Tryd.checked) (X := fun w _ => laidMetH Tryd.prog [("math/bits.deBruijn32tab", Rows.laid_math_bits_deBruijn32tab), ("math/bits.deBruijn64tab", Rows.laid_math_bits_deBruijn64tab)] w) (fun _ _ _ hh h => h.of_heap hh) own started (by kernel_rfl) Tryd.func9
    (ChangeSpec.witness_shaped (enc := enc) (C := Tryd.checked) (os := os) (X := fun w _ => laidMetH Tryd.prog [("math/bits.deBruijn32tab", Rows.laid_math_bits_deBruijn32tab), ("math/bits.deBruijn64tab", Rows.laid_math_bits_deBruijn64tab)] w) false (World.laidAll Tryd.prog os [("math/bits.deBruijn32tab", Rows.laid_math_bits_deBruijn32tab), ("math/bits.deBruijn64tab", Rows.laid_math_bits_deBruijn64tab)]) #[.int .u8 0, .agg #[.int .u8 0, .int .u8 0, .int .u8 0, .int .u8 0, .int .u8 0], .agg #[.int .u8 0, .int .u8 0, .int .u8 0, .int .u8 0, .int .u8 0]] 8 (World.laidAll_os _ _ _)
      (World.shaped_of_ZipB (by kernel_rfl) (by kernel_rfl)) (by kernel_rfl) (by kernel_rfl) (by kernel_rfl)
      (by rw [MakeChecks.laidMetH_plain _ _ _ (by kernel_rfl)]; exact laidMet_laidAll _ (by kernel_rfl) (by kernel_rfl))) ?_
  intro W base args ds gs before hval0 hW _ _ hL _
  have hW' := hW
  obtain ⟨p, q, hA0, hV, rfl, hfz, hnd⟩ := hW
  have hA : DataW.TrodAll enc Tryd.prog W 0 (fun _ => true) true Tryd.f9.params.toList args.toList ds p := hA0
  rw [Tryd.params9] at hA
  obtain ⟨v0, vs0, d0, ds0, p0, q0, e0, rfl, rfl, h0, hr0⟩ := trodAll_cons hA
  obtain ⟨v1, vs1, d1, ds1, p1, q1, e1, rfl, rfl, h1, hr1⟩ := trodAll_cons hr0
  obtain ⟨v2, vs2, d2, ds2, p2, q2, e2, rfl, rfl, h2, hr2⟩ := trodAll_cons hr1
  obtain ⟨rfl, rfl, rfl⟩ := trodAll_nil hr2
  subst e2
  subst e1
  obtain rfl : args = #[v0, v1, v2] := by cases args; simp_all
  obtain ⟨x0, k0, t0⟩ := arg_one (n := 8) tab_ok (hval0 0 5 v0 rfl rfl) h0 (by kernel_rfl) (by kernel_rfl)
  obtain ⟨x1, k1, t1⟩ := arg_agg (n := 8) tab_ok (hval0 1 38 v1 rfl rfl) h1 (by kernel_rfl) (by kernel_rfl)
  obtain ⟨x2, k2, t2⟩ := arg_agg (n := 8) tab_ok (hval0 2 38 v2 rfl rfl) h2 (by kernel_rfl) (by kernel_rfl)
  obtain ⟨rfl, rfl⟩ := trodVars_none hV
  clear hA0 hval0
  simp only [List.append_nil] at hW'
  refine (FnP.calls (W := W) (vals := #[v0, v1, v2]) (con9 x0 t0 x1 t1 x2 t2) (.cons _ _ _ _ k0 (.cons _ _ _ _ k1 (.cons _ _ _ _ k2 .nil))) (laidG hL)).mono fun e W' ⟨he, hg⟩ => ?_
  subst he
  exact ⟨_, rfl, post_of_kept (pv := []) hW' (fun _ _ _ => trodAll_cons_mk (shut_bool Tryd.underlying4 _) trodAll_mk0) (fun sp hsp => trodAll_cons_mk (Kept.trod hg laid (by kernel_rfl) (of_decide_eq_true (by kernel_rfl)) h0 (fun y hy => hsp y (by simp [hy]))) (trodAll_cons_mk (Kept.trod hg laid (by kernel_rfl) (of_decide_eq_true (by kernel_rfl)) h1 (fun y hy => hsp y (by simp [hy]))) (trodAll_cons_mk (Kept.trod hg laid (by kernel_rfl) (of_decide_eq_true (by kernel_rfl)) h2 (fun y hy => hsp y (by simp [hy]))) (trodAll_mk0)))) (fun _ _ => rfl) (by simp)
    hg (ok_one (by kernel_rfl) rfl (okWide_bool_mk Tryd.underlying4 _))⟩
theorem over : Rows.weekEvenRow.holds Tryd.pinned (OpenSpec.ofChange Rows.weekEvenSpec) :=
  OpenClaim.holds_of_wide 9 Tryd.f9 rfl rfl rfl rfl rfl rfl rfl ⟨rfl, rfl, rfl, rfl, rfl⟩ rfl rfl rfl rfl rfl (by kernel_rfl) Tryd.func9 (by kernel_rfl)
    (of_decide_eq_true (by kernel_rfl)) (by unfold Func.isWrapper; first | (rw [if_pos (by decide +kernel)]; kernel_rfl) | (rw [if_neg (by decide +kernel)]; exact ⟨rfl, rfl⟩))
    (fun os started H enc _ => lifted os started H enc)
theorem card : Rows.WeekEvenCardSaid :=
  Claim7.holds_tied_plain_at .later [] [.data, .data] true (true, "b10945a5c0c6bbe518806a5b2982a3effa3ad2c65afd0553d66b8bf8a483c2f3") true (over) (fun _ h => by cases h) (by kernel_rfl) (fun _ h => by cases h) weekEven_row_tie rfl ⟨rfl, rfl⟩ (by kernel_rfl) rfl
    (fun f fn hf hfn => by
      obtain rfl : f = 9 := Option.some.inj ((show Tryd.prog.funcNamed "breeze/breezelaw03.WeekEven" = some 9 by kernel_rfl).symm.trans hf) |>.symm
      obtain rfl : fn = Tryd.f9 := (Option.some.inj (Tryd.func9.symm.trans hfn)).symm
      exact ⟨by kernel_rfl, fun j t ht => by
        rw [Tryd.params9] at ht
        rcases j with _ | _ | _ | j
        · obtain rfl : t = 5 := by simpa using ht.symm
          exact (show Tryd.prog.wantsStandIn 5 = false by kernel_rfl)
        · obtain rfl : t = 38 := by simpa using ht.symm
          exact (show Tryd.prog.wantsStandIn 38 = false by kernel_rfl)
        · obtain rfl : t = 38 := by simpa using ht.symm
          exact (show Tryd.prog.wantsStandIn 38 = false by kernel_rfl)
        · simp at ht⟩)
    (by kernel_rfl)
end Go.Proofs.YtcaecfofgdogbaaDoor.weekEven
namespace Go.Proofs.YtcaecfofgdogbaaDoor
/-- the statement -/
theorem weekEven_holds : Rows.WeekEvenCardSaid := weekEven.card
#print axioms weekEven_holds
end Go.Proofs.YtcaecfofgdogbaaDoor
