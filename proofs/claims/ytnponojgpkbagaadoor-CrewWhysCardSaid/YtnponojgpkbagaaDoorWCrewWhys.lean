/-
  A crew that is checked fits; Rank is as stated.
  The pairs of a choice.
  The pairs of a choice, in the reference; Valid.
  Valid: the chapter's and the reference's.
  The first of the shortest, or of the longest, lists that have a property.
  The first of the shortest lists that have a property: best, as Ring calls it.
  Ring: the chapter's and the reference's.
  Ring in the reference.
  Ring: both answer the same.
  CrewChecks: what the functions compute answers as the law says.
  CrewWhys: what the functions compute answers as the law says.
  CrewChecks: at every argument of its types.
  CrewWhys: at every argument of its types.
  CrewWhys: the law returns true.
-/
import Derived.Test.YtnponojgpkbagaaDoorWCref
import Derived.Test.YtnponojgpkbagaaDoorWChkA
import Derived.Test.YtnponojgpkbagaaDoorWChkC
import Derived.Test.YtnponojgpkbagaaDoorV32
import Derived.Test.YtnponojgpkbagaaDoorRows
import Derived.Test.YtnponojgpkbagaaDoorCards
import Derived.Test.YtnponojgpkbagaaDoorTie
import Derived.Test.YtnponojgpkbagaaDoorB
import Derived.Test.YtnponojgpkbagaaDoorG
import Derived.Test.YtnponojgpkbagaaDoorK
import Derived.Test.YtnponojgpkbagaaDoorV31
import Derived.WalkKit
import Derived.ProofKit
import Derived.OpenShut
import Derived.Lay
import Derived.SevenTiedAt
import Derived.MakeChecks
namespace Go.Proofs.YtnponojgpkbagaaDoor
open Go.V Go.Crew
set_option linter.unusedSectionVars false
set_option linter.unnecessarySimpa false

theorem chkL_zero {n : Int} : ∀ (r d : List (Int × Int)), chkL n d r = 0 → d.Nodup → (∀ p ∈ r, 0 ≤ p.1 ∧ p.1 < p.2 ∧ p.2 < n) ∧ (d ++ r).Nodup
  | [], d, _, hd => ⟨fun p hp => by simp at hp, by simpa using hd⟩
  | p :: r, d, h, hd => by
    rw [chkL] at h
    split at h
    · cases h
    · rename_i h1
      split at h
      · cases h
      · rename_i h2
        split at h
        · cases h
        · rename_i h3
          split at h
          · cases h
          · rename_i h4
            rw [minI_min] at h1
            rw [maxI_max] at h2
            have hm : p ∉ d := by simpa using h4
            obtain ⟨a, b⟩ := chkL_zero r (d ++ [p]) h (List.nodup_append.2 ⟨hd, by simp, fun x hx y hy => by simp only [List.mem_singleton] at hy; subst hy; exact fun e => hm (e ▸ hx)⟩)
            refine ⟨fun q hq => ?_, by simpa using b⟩
            rcases List.mem_cons.1 hq with rfl | hq
            · omega
            · exact a q hq
theorem chkK_zero {n : Int} : ∀ (K : List (List (Int × Int))), chkK n K = 0 → ∀ l ∈ K, l.length ≤ 6 ∧ (∀ p ∈ l, 0 ≤ p.1 ∧ p.1 < p.2 ∧ p.2 < n) ∧ l.Nodup
  | [], _, _, hl => by simp at hl
  | l :: K, h, x, hx => by
    rw [chkK] at h
    split at h
    · cases h
    · rename_i h1
      split at h
      · rename_i h2; exact absurd h h2
      · rename_i h2
        rcases List.mem_cons.1 hx with rfl | hx
        · have h2' : chkL n [] x = 0 := by simpa using h2
          obtain ⟨a, b⟩ := chkL_zero x [] h2' .nil
          exact ⟨by omega, a, by simpa using b⟩
        · exact chkK_zero K h x hx
def toP (p : Int × Int) : Nat × Nat := (p.1.toNat, p.2.toNat)
theorem toP_cI {p : Int × Int} (h : 0 ≤ p.1 ∧ 0 ≤ p.2) : cI (toP p) = p := by
  simp only [cI, toP]
  exact Prod.ext (by simp only []; omega) (by simp only []; omega)
theorem map_toP : ∀ {l : List (Int × Int)}, (∀ p ∈ l, 0 ≤ p.1 ∧ 0 ≤ p.2) → cL (l.map toP) = l
  | [], _ => rfl
  | p :: l, h => by
    show cI (toP p) :: cL (l.map toP) = p :: l
    rw [toP_cI (h p (.head _)), map_toP fun q hq => h q (.tail _ hq)]
theorem chk_zero {n : Int} {K : List (List (Int × Int))} (h : chk n K = 0) : ∃ (m : Nat) (K' : List (List (Nat × Nat))), n = (m : Int) ∧ K = cK K' ∧ Fit m K' := by
  unfold chk at h
  split at h
  · cases h
  · rename_i h1
    split at h
    · cases h
    · rename_i h2
      split at h
      · cases h
      · rename_i h3
        have hz := chkK_zero K h
        have e : cK (K.map fun l => l.map toP) = K := by
          unfold cK
          rw [List.map_map]
          have : ∀ K0 : List (List (Int × Int)), (∀ l ∈ K0, l ∈ K) → K0.map (cL ∘ fun l => l.map toP) = K0 := by
            intro K0
            induction K0 with
            | nil => intro _; rfl
            | cons l K0 ih =>
              intro hk
              rw [List.map_cons, ih fun x hx => hk x (.tail _ hx)]
              congr 1
              have := hz l (hk l (.head _))
              exact map_toP fun p hp => by have := this.2.1 p hp; omega
          exact this K fun l hl => hl
        refine ⟨n.toNat, K.map fun l => l.map toP, by omega, e.symm, by omega, by omega, by simp; omega, fun l hl => ?_, fun l hl p hp => ?_, fun l hl => ?_⟩
        · obtain ⟨l0, h0, rfl⟩ := List.mem_map.1 hl
          have := (hz l0 h0).1
          simpa using this
        · obtain ⟨l0, h0, rfl⟩ := List.mem_map.1 hl
          obtain ⟨p0, hp0, rfl⟩ := List.mem_map.1 hp
          have := (hz l0 h0).2.1 p0 hp0
          simp only [toP]; omega
        · obtain ⟨l0, h0, rfl⟩ := List.mem_map.1 hl
          obtain ⟨_, b, c⟩ := hz l0 h0
          refine List.Pairwise.map _ (fun p q (hpq : p ≠ q ∧ (0 ≤ p.1 ∧ 0 ≤ p.2) ∧ (0 ≤ q.1 ∧ 0 ≤ q.2)) e => ?_) (?_ : l0.Pairwise fun p q => p ≠ q ∧ (0 ≤ p.1 ∧ 0 ≤ p.2) ∧ (0 ≤ q.1 ∧ 0 ≤ q.2))
          · have e1 := congrArg cI e
            rw [toP_cI hpq.2.1, toP_cI hpq.2.2] at e1
            exact hpq.1 e1
          · refine List.Pairwise.imp_of_mem (fun {p q} hp hq hpq => ⟨hpq, ?_, ?_⟩) c
            · have := b p hp; omega
            · have := b q hq; omega
theorem lsE_zero {m : Nat} : ∀ (X : List Int) (last : Int), -1 ≤ last → lsE m last X = 0 → ∃ Y : List Nat, X = cS Y ∧ (∀ k ∈ Y, k < m ∧ last < (k : Int)) ∧ Y.Pairwise (· < ·)
  | [], _, _, _ => ⟨[], rfl, by simp, .nil⟩
  | k :: X, last, hl, h => by
    rw [lsE] at h
    split at h
    · cases h
    · rename_i h1
      split at h
      · cases h
      · rename_i h2
        split at h
        · cases h
        · rename_i h3
          obtain ⟨Y, rfl, y2, y3⟩ := lsE_zero X k (by omega) h
          refine ⟨k.toNat :: Y, ?_, fun q hq => ?_, List.pairwise_cons.2 ⟨fun q hq => by have := (y2 q hq).2; omega, y3⟩⟩
          · simp only [cS, List.map_cons]; congr 1; omega
          · rcases List.mem_cons.1 hq with rfl | hq
            · omega
            · have := y2 q hq; omega
end Go.Proofs.YtnponojgpkbagaaDoor

namespace Go.Proofs.YtnponojgpkbagaaDoor
open Go.V Go.Crew
set_option linter.unusedSectionVars false
set_option linter.unnecessarySimpa false

end Go.Proofs.YtnponojgpkbagaaDoor

namespace Go.Proofs.YtnponojgpkbagaaDoor
open Go.V Go.Crew
set_option linter.unusedSectionVars false
set_option linter.unnecessarySimpa false

theorem getT2_t {α : Type} {a b : PV} {f : PV → PV → Option α} : getT2 (.tup [a, b]) f = f a b := rfl
end Go.Proofs.YtnponojgpkbagaaDoor

namespace Go.Proofs.YtnponojgpkbagaaDoor
open Go.V Go.Crew
set_option linter.unusedSectionVars false
set_option linter.unnecessarySimpa false

end Go.Proofs.YtnponojgpkbagaaDoor

namespace Go.Proofs.YtnponojgpkbagaaDoor
open Go.V Go.Crew
set_option linter.unusedSectionVars false
set_option linter.unnecessarySimpa false

theorem mems_ok : ∀ (s : Nat), s < 32 → m77 2000 (s : Int) = some (.lst false (memb s).length (nL (memb s)))
  | 0, _ => by kernel_rfl
  | 1, _ => by kernel_rfl
  | 2, _ => by kernel_rfl
  | 3, _ => by kernel_rfl
  | 4, _ => by kernel_rfl
  | 5, _ => by kernel_rfl
  | 6, _ => by kernel_rfl
  | 7, _ => by kernel_rfl
  | 8, _ => by kernel_rfl
  | 9, _ => by kernel_rfl
  | 10, _ => by kernel_rfl
  | 11, _ => by kernel_rfl
  | 12, _ => by kernel_rfl
  | 13, _ => by kernel_rfl
  | 14, _ => by kernel_rfl
  | 15, _ => by kernel_rfl
  | 16, _ => by kernel_rfl
  | 17, _ => by kernel_rfl
  | 18, _ => by kernel_rfl
  | 19, _ => by kernel_rfl
  | 20, _ => by kernel_rfl
  | 21, _ => by kernel_rfl
  | 22, _ => by kernel_rfl
  | 23, _ => by kernel_rfl
  | 24, _ => by kernel_rfl
  | 25, _ => by kernel_rfl
  | 26, _ => by kernel_rfl
  | 27, _ => by kernel_rfl
  | 28, _ => by kernel_rfl
  | 29, _ => by kernel_rfl
  | 30, _ => by kernel_rfl
  | 31, _ => by kernel_rfl
  | n + 32, h => by omega
def cmpI (x y : Int) : Int := if x < y then -1 else if x > y then 1 else 0
theorem cmp_ok (N : Nat) (x y : Int) : m91 N x y = some (.int .i64 (cmpI x y)) := by
  have h1 : (x != x) = false := by simp
  have h2 : (y != y) = false := by simp
  unfold cmpI
  rw [m91, m104, bnd_t, getB_t, m104, bnd_t, getB_t, h1, h2, brn_f rfl, brn_f rfl]
  by_cases a : x < y
  · rw [brn_t (decide_eq_true a), if_pos a]
  · rw [brn_f (decide_eq_false a), if_neg a]
    by_cases b : x > y
    · rw [brn_t (decide_eq_true b), if_pos b]
    · rw [brn_f (decide_eq_false b), if_neg b]
/-- how two lists compare -/
def cmpL : List Nat → List Nat → Int
  | [], [] => 0
  | [], _ :: _ => -1
  | _ :: _, [] => 1
  | a :: x, b :: y => if a < b then -1 else if b < a then 1 else cmpL x y
theorem cmpL_lex : ∀ x y, (cmpL x y < 0) ↔ lexL x y = true
  | [], [] => by simp [cmpL, lexL]
  | [], _ :: _ => by simp [cmpL, lexL]
  | _ :: _, [] => by simp [cmpL, lexL]
  | a :: x, b :: y => by
    have ih := cmpL_lex x y
    unfold cmpL lexL
    by_cases h1 : a < b
    · simp [h1]
    · rw [if_neg h1, if_neg h1]
      by_cases h2 : b < a
      · simp [h2]
      · rw [if_neg h2, if_neg h2]; exact ih
def cmO (n m : Nat) (e : Int) : PV ⊕ Unit → Option PV
  | .inl p => some p
  | .inr () => brn (decide ((n : Int) < (m : Int))) (some (.int .i64 (-1))) (some (.int .i64 0))
theorem compare_L (N : Nat) (x y : List Nat) (hx : x.length ≤ 1000) : ∀ (r i fuel : Nat), x.length - i = r → r < fuel → i ≤ x.length → i ≤ y.length →
    ∃ o, m47_L0 N x.length (nL x) y.length (nL y) fuel (i : Int) = some o ∧ cmO x.length y.length 0 o = some (.int .i64 (cmpL (x.drop i) (y.drop i)))
  | r, i, 0, _, h, _, _ => by omega
  | r, i, f + 1, hr, hf, hi, hy => by
    have lx := nL_len x
    have ly := nL_len y
    rw [m47_L0]
    by_cases h : i < x.length
    · rw [brn_t (by simp; omega), toNatN, grd_t ⟨by omega, by omega⟩, grd_t (by simp only [List.length_drop]; omega), nL_gp h, getI_t, drop_nn h]
      by_cases h2 : i < y.length
      · rw [brn_f (by simp; omega), grd_t (by omega), grd_t (by simp only [List.length_drop]; omega), nL_gp h2, getI_t, cmp_ok, bnd_t, getI_t, drop_nn h2, cmpL]
        unfold cmpI
        by_cases a : nn x i < nn y i
        · have a' : ((nn x i : Nat) : Int) < (nn y i : Int) := by omega
          rw [if_pos a', if_pos a, brn_t (by decide)]
          exact ⟨_, rfl, rfl⟩
        · have a' : ¬ ((nn x i : Nat) : Int) < (nn y i : Int) := by omega
          rw [if_neg a', if_neg a]
          by_cases b : nn y i < nn x i
          · have b' : ((nn x i : Nat) : Int) > (nn y i : Int) := by omega
            rw [if_pos b', if_pos b, brn_t (by decide)]
            exact ⟨_, rfl, rfl⟩
          · have b' : ¬ ((nn x i : Nat) : Int) > (nn y i : Int) := by omega
            rw [if_neg b', if_neg b, brn_f (by rfl), wrapN (by omega)]
            exact compare_L N x y hx (r - 1) (i + 1) f (by omega) (by omega) (by omega) (by omega)
      · rw [brn_t (by simp; omega), show y.drop i = [] from List.drop_eq_nil_of_le (by omega)]
        exact ⟨_, rfl, rfl⟩
    · rw [brn_f (by simp; omega), show x.drop i = [] from List.drop_eq_nil_of_le (by omega)]
      refine ⟨_, rfl, ?_⟩
      by_cases h2 : i < y.length
      · rw [drop_nn h2, cmO, brn_t (by simp; omega)]; rfl
      · rw [show y.drop i = [] from List.drop_eq_nil_of_le (by omega), cmO, brn_f (by simp; omega)]; rfl
theorem compare_ok (N : Nat) (hN : 2000 ≤ N) (x y : List Nat) (hx : x.length ≤ 1000) : m47 N (.lst false x.length (nL x)) (.lst false y.length (nL y)) = some (.int .i64 (cmpL x y)) := by
  obtain ⟨o, o1, o2⟩ := compare_L N x y hx x.length 0 N (by omega) (by omega) (by omega) (by omega)
  rw [List.drop_zero, List.drop_zero] at o2
  rw [m47, getL_t, getL_t, show m47_L0 N x.length (nL x) y.length (nL y) N 0 = some o from o1, bnd_t, ← o2]
  cases o with
  | inl p => rfl
  | inr u => rfl
end Go.Proofs.YtnponojgpkbagaaDoor

namespace Go.Proofs.YtnponojgpkbagaaDoor
open Go.V Go.Crew
set_option linter.unusedSectionVars false
set_option linter.unnecessarySimpa false

def fnd : Option (List Nat) → PV
  | none => .fn 999999 []
  | some l => .fn 1000025 [.lst false l.length (nL l)]
theorem getIf_n {α : Type} {f : Nat} {k1 : Option α} {k2 : PV → Option α} : getIf f (fnd none) k1 k2 = k1 := by simp [getIf, fnd]
theorem getIf_s {α : Type} {l : List Nat} {k1 : Option α} {k2 : PV → Option α} : getIf 1000025 (fnd (some l)) k1 k2 = k2 (.lst false l.length (nL l)) := by simp [getIf, fnd]
theorem memb_len (s : Nat) : (memb s).length ≤ 5 := by
  have := List.length_filter_le (fun k => s.testBit k) (List.range 5)
  simpa [memb] using this
theorem wrapU (s : Nat) (h : s ≤ 32) : IntKind.u64.wrap ((s : Int) + 1) = ((s + 1 : Nat) : Int) := by
  have : ((List.range 33).all fun s => IntKind.u64.wrap ((s : Int) + 1) == ((s + 1 : Nat) : Int)) = true := by kernel_rfl
  simpa using List.all_eq_true.1 this s (List.mem_range.2 (by omega))
theorem pow_U (n : Nat) (h : n ≤ 5) : IntKind.u64.wrap (1 * 2 ^ (min (Int.toNat (n : Int)) 64)) = ((2 ^ n : Nat) : Int) := by
  have : n = 0 ∨ n = 1 ∨ n = 2 ∨ n = 3 ∨ n = 4 ∨ n = 5 := by omega
  rcases this with rfl | rfl | rfl | rfl | rfl | rfl <;> rfl
theorem bs_f {is : List Nat → Bool} {lt : List Nat → List Nat → Bool} {acc : Option (List Nat)} {l : List Nat} (h : is l = false) : bstep is lt acc l = acc := by simp [bstep, h]
theorem bs_n {is : List Nat → Bool} {lt : List Nat → List Nat → Bool} {l : List Nat} (h : is l = true) : bstep is lt none l = some l := by simp [bstep, h]
theorem bs_t {is : List Nat → Bool} {lt : List Nat → List Nat → Bool} {o l : List Nat} (h : is l = true) (h2 : lt l o = true) : bstep is lt (some o) l = some l := by simp [bstep, h, h2]
theorem bs_k {is : List Nat → Bool} {lt : List Nat → List Nat → Bool} {o l : List Nat} (h : is l = true) (h2 : lt l o = false) : bstep is lt (some o) l = some o := by simp [bstep, h, h2]
section
end
end Go.Proofs.YtnponojgpkbagaaDoor

namespace Go.Proofs.YtnponojgpkbagaaDoor
open Go.V Go.Crew
set_option linter.unusedSectionVars false
set_option linter.unnecessarySimpa false

def rwN (l : List Nat) : PV := .lst false l.length (nL l)
end Go.Proofs.YtnponojgpkbagaaDoor

namespace Go.Proofs.YtnponojgpkbagaaDoor
open Go.V Go.Crew
set_option linter.unusedSectionVars false
set_option linter.unnecessarySimpa false

def roN (P : List (List Nat)) (k : Nat) : List Nat := P.getD k []
theorem gpN {P : List (List Nat)} {k : Nat} (h : k < P.length) : gp (P.map rwN) k = .lst false (roN P k).length (nL (roN P k)) := by
  simp [gp, roN, rwN, List.getD, h]
theorem roN_mem {P : List (List Nat)} {k : Nat} (h : k < P.length) : roN P k ∈ P := by
  simp [roN, List.getD, h]
theorem drop_roN {P : List (List Nat)} {k : Nat} (h : k < P.length) : P.drop k = roN P k :: P.drop (k + 1) := by
  rw [List.drop_eq_getElem_cons h]; simp [roN, List.getD, h]
section
end
end Go.Proofs.YtnponojgpkbagaaDoor

namespace Go.Proofs.YtnponojgpkbagaaDoor
open Go.V Go.Crew
set_option linter.unusedSectionVars false
set_option linter.unnecessarySimpa false

theorem ls_all : ((List.range 6).all fun n => (List.range (n + 1)).all fun m => (ls n m 0).all (fun l => l.length == m && l.all fun k => decide (k < n)) && decide ((ls n m 0).length ≤ 100)) = true := by decide +kernel
theorem ls_mem {n m : Nat} (hn : n ≤ 5) (hm : m ≤ n) : (∀ l ∈ ls n m 0, l.length = m ∧ ∀ k ∈ l, k < n) ∧ (ls n m 0).length ≤ 100 := by
  have h := List.all_eq_true.1 (List.all_eq_true.1 ls_all n (List.mem_range.2 (by omega))) m (List.mem_range.2 (by omega))
  simp only [Bool.and_eq_true, List.all_eq_true, beq_iff_eq, decide_eq_true_eq] at h
  exact ⟨fun l hl => h.1 l hl, h.2⟩
def rgU : Option (List Nat) → PV ⊕ Unit
  | some l => .inl (.tup [rwN l, .int .i64 0])
  | none => .inr ()
theorem memb_lt_all : ((List.range 6).all fun m => (List.range (2 ^ m)).all fun s => (memb s).all fun k => decide (k < m)) = true := by decide +kernel
theorem memb_lt {s m : Nat} (hm : m ≤ 5) (hs : s < 2 ^ m) : ∀ k ∈ memb s, k < m := fun k hk => by
  have := List.all_eq_true.1 (List.all_eq_true.1 (List.all_eq_true.1 memb_lt_all m (List.mem_range.2 (by omega))) s (List.mem_range.2 hs)) k hk
  simpa using this
end Go.Proofs.YtnponojgpkbagaaDoor

namespace Go.Proofs.YtnponojgpkbagaaDoor
open Go.V Go.Crew
set_option linter.unusedSectionVars false
set_option linter.unnecessarySimpa false

def bigK (K : List (List (Int × Int))) : Bool := decide (20 < K.length) || K.any fun l => decide (20 < l.length)
theorem large_L (N : Nat) (p : PV) (K : List (List (Int × Int))) (hK : K.length ≤ 20) : ∀ (r i fuel : Nat), K.length - i = r → r < fuel →
    m15_L0 N p K.length (knsI K) fuel (i : Int) = some (if (K.drop i).any (fun l => decide (20 < l.length)) then .inl (.bool true) else .inr ())
  | r, i, 0, _, h => by omega
  | r, i, f + 1, hr, hf => by
    have hk := knsI_len K
    rw [m15_L0]
    by_cases h : i < K.length
    · have ih := large_L N p K hK (r - 1) (i + 1) f (by omega) (by omega)
      rw [brn_t (decide_eq_true (by omega)), toNatN, grd_t ⟨by omega, by omega⟩, grd_t (by simp only [List.length_drop]; omega), knsI_gp h, getL_t, drop_kI h, List.any_cons]
      by_cases q : 20 < (kI K i).length
      · rw [brn_t (decide_eq_true (by omega))]; simp [q]
      · rw [brn_f (decide_eq_false (by omega)), wrapN (by omega), ih]; simp [q]
    · rw [brn_f (decide_eq_false (by omega)), List.drop_eq_nil_of_le (by omega)]; rfl
theorem large_ok (N : Nat) (hN : 2000 ≤ N) (p : PV) (K : List (List (Int × Int))) : m15 N (.agg [p, .lst false K.length (knsI K)]) = some (.bool (bigK K)) := by
  rw [m15, getA2_t, getL_t]
  by_cases h : 20 < K.length
  · rw [brn_t (decide_eq_true (by omega))]; simp [bigK, h]
  · have e := large_L N p K (by omega) K.length 0 N (by omega) (by omega)
    rw [List.drop_zero] at e
    rw [brn_f (decide_eq_false (by omega)), show m15_L0 N p K.length (knsI K) N 0 = _ from e, bnd_t]
    simp only [bigK, h, decide_false, Bool.false_or]
    cases K.any fun l => decide (20 < l.length) <;> rfl
theorem big_f {K : List (List (Int × Int))} (h : bigK K = false) : K.length ≤ 20 ∧ ∀ l ∈ K, l.length ≤ 20 := by
  simp only [bigK, Bool.or_eq_false_iff, decide_eq_false_iff_not] at h
  refine ⟨by omega, fun l hl => ?_⟩
  have := List.any_eq_false.1 h.2 l hl
  simp at this; exact this
theorem same_L (N : Nat) (X : List Nat) (hX : X.length ≤ 1000) : ∀ (r i fuel : Nat), X.length - i = r → r < fuel → m21_L0 N X.length (nL X) X.length (nL X) fuel (i : Int) = some (.inr ())
  | r, i, 0, _, h => by omega
  | r, i, f + 1, hr, hf => by
    have hl := nL_len X
    rw [m21_L0]
    by_cases h : i < X.length
    · rw [brn_t (decide_eq_true (by omega)), toNatN, grd_t ⟨by omega, by omega⟩, grd_t (by simp only [List.length_drop]; omega), nL_gp h, getI_t, grd_t (by omega), grd_t (by simp only [List.length_drop]; omega), getI_t, brn_f (by simp), wrapN (by omega)]
      exact same_L N X hX (r - 1) (i + 1) f (by omega) (by omega)
    · rw [brn_f (decide_eq_false (by omega))]
theorem same_ok (X : List Nat) (hX : X.length ≤ 1000) : m21 2000 (.lst false X.length (nL X)) (.lst false X.length (nL X)) = some (.bool true) := by
  have := same_L 2000 X hX X.length 0 2000 (by omega) (by omega)
  rw [m21, getL_t, getL_t, brn_f (by simp), show m21_L0 2000 X.length (nL X) X.length (nL X) 2000 0 = _ from this, bnd_t]
end Go.Proofs.YtnponojgpkbagaaDoor

namespace Go.Proofs.YtnponojgpkbagaaDoor
open Go.V Go.Crew
set_option linter.unusedSectionVars false
set_option linter.unnecessarySimpa false

section
variable (n : Nat) (hn : n ≤ 5) (p : PV) (is : List Nat → Bool) (his : ∀ s, s < 2 ^ n → m86 2000 p (.lst false (memb s).length (nL (memb s))) = some (.bool (is (memb s))))
include hn his
theorem bestw_L : ∀ (r s fuel : Nat) (acc : Option (List Nat)), 2 ^ n - s = r → r < fuel → (∀ l, acc = some l → l.length ≤ 5) →
    m68_2_L0 2000 (n : Int) false p fuel (fnd acc) (s : Int) = some (fnd (((List.range' s (2 ^ n - s)).map memb).foldl (bstep is ltS) acc))
  | r, s, 0, acc, _, h, _ => by omega
  | r, s, f + 1, acc, hr, hf, ha => by
    have hp : 2 ^ n ≤ 32 := Nat.pow_le_pow_right (n := 2) (by omega) hn
    have hm := memb_len s
    rw [m68_2_L0, pow_U n hn]
    by_cases h : s < 2 ^ n
    · have ih := fun acc => bestw_L (r - 1) (s + 1) f acc (by omega) (by omega)
      rw [brn_t (decide_eq_true (by omega)), mems_ok s (by omega), bnd_t, getL_t, his s h, bnd_t, getB_t, show 2 ^ n - s = (2 ^ n - (s + 1)) + 1 by omega, List.range'_succ, List.map_cons, List.foldl_cons, wrapU s (by omega)]
      have take : m68_2_L0 2000 (n : Int) false p f (.fn 1000025 [.lst false (memb s).length (nL (memb s))]) ((s + 1 : Nat) : Int) = some (fnd (((List.range' (s + 1) (2 ^ n - (s + 1))).map memb).foldl (bstep is ltS) (some (memb s)))) := ih (some (memb s)) (fun l hl => by cases hl; exact hm)
      cases hi : is (memb s) with
      | false => rw [brn_f rfl, bs_f hi]; exact ih acc ha
      | true =>
        rw [brn_t rfl]
        cases acc with
        | none => rw [getIf_n, bs_n hi]; exact take
        | some o =>
          have ho := ha o rfl
          have keep : m68_2_L0 2000 (n : Int) false p f (.fn 1000025 [.lst false o.length (nL o)]) ((s + 1 : Nat) : Int) = some (fnd (((List.range' (s + 1) (2 ^ n - (s + 1))).map memb).foldl (bstep is ltS) (some o))) := ih (some o) ha
          rw [getIf_s, getL_t]
          by_cases e : (memb s).length = o.length
          · have hlt : ltS (memb s) o = lexL (memb s) o := by unfold ltS; rw [if_pos e]
            rw [brn_t (by simp; omega), compare_ok 2000 (by omega) _ _ (by omega), bnd_t, getI_t]
            cases hx : lexL (memb s) o with
            | true =>
              have := (cmpL_lex (memb s) o).2 hx
              rw [brn_t (decide_eq_true this), bs_t hi (hlt.trans hx)]; exact take
            | false =>
              have : ¬ cmpL (memb s) o < 0 := fun q => by rw [(cmpL_lex _ _).1 q] at hx; cases hx
              rw [brn_f (decide_eq_false this), brn_f (by simp; omega), bs_k hi (hlt.trans hx)]; exact keep
          · have hlt : ltS (memb s) o = decide ((memb s).length < o.length) := by unfold ltS; rw [if_neg e]
            rw [brn_f (by simp; omega), brn_t (by simp; omega)]
            by_cases g : (memb s).length < o.length
            · rw [brn_t (by simp; omega), bs_t hi (by rw [hlt]; exact decide_eq_true g)]; exact take
            · rw [brn_f (by simp; omega), bs_k hi (by rw [hlt]; exact decide_eq_false g)]; exact keep
    · rw [brn_f (decide_eq_false (by omega)), show 2 ^ n - s = 0 by omega]; rfl
theorem bestw_ok : m68_2 2000 (n : Int) false p = some (match (upT n).find? is with | some l => .tup [.lst false l.length (nL l), .bool true] | none => .tup [.lst false 0 [], .bool false]) := by
  have hp : 2 ^ n ≤ 32 := Nat.pow_le_pow_right (n := 2) (by omega) hn
  have e := bestw_L n hn p is his (2 ^ n) 0 2000 none (Nat.sub_zero _) (Nat.lt_of_le_of_lt hp (by decide)) (fun l hl => by cases hl)
  have r := best_up is hn
  unfold allS at r
  rw [Nat.sub_zero, ← List.range_eq_range', r] at e
  rw [m68_2, grd_t (by omega), show m68_2_L0 2000 (n : Int) false p 2000 (.fn 999999 []) 0 = _ from e, bnd_t]
  cases (upT n).find? is with
  | none => rw [getIf_n]
  | some l => rw [getIf_s, getL_t]
end

theorem some_ok : ∀ (d : Nat), d ≤ 5 → m87 2000 (.lst false (List.range d).length (nL (List.range d))) = some (.lst false (upT d).length ((upT d).map rwN))
  | 0, _ => by kernel_rfl
  | 1, _ => by kernel_rfl
  | 2, _ => by kernel_rfl
  | 3, _ => by kernel_rfl
  | 4, _ => by kernel_rfl
  | 5, _ => by kernel_rfl
  | d + 6, h => by omega
theorem every_L (N : Nat) (p : PV) (d : Nat) (c : List PV) (hd : d ≤ 1000) : ∀ (r i fuel : Nat), d - i = r → i ≤ d → r < fuel → m80_L0 N p fuel i (i : Int) (.lst false d c) (nL (List.range i)) = some (d, nL (List.range d))
  | r, i, 0, _, _, h => by omega
  | r, i, f + 1, hr, hi, hf => by
    rw [m80_L0, getL_t]
    by_cases h : i < d
    · have ih := every_L N p d c hd (r - 1) (i + 1) f (by omega) (by omega) (by omega)
      have hl : (nL (List.range i)).length = i := by rw [nL_len, List.length_range]
      rw [brn_t (decide_eq_true (by omega)), grd_t (by omega), grd_t hl, wrapN (by omega)]
      have e : nL (List.range i) ++ [PV.int .i64 (i : Int)] = nL (List.range (i + 1)) := by simp [nL, List.range_succ]
      rw [e]; exact ih
    · rw [brn_f (decide_eq_false (by omega)), show i = d by omega]
theorem every_ok (N : Nat) (hN : 2000 ≤ N) (p : PV) (d : Nat) (c : List PV) (hd : d ≤ 1000) : m80 N (.agg [p, .lst false d c]) = some (.lst false (List.range d).length (nL (List.range d))) := by
  have e := every_L N p d c hd d 0 N (by omega) (by omega) (by omega)
  rw [m80, getA2_t, show m80_L0 N p N 0 0 (.lst false d c) [] = _ from e, bnd_t]
  simp only []
  rw [grd_t (by rw [nL_len, List.length_range]), List.length_range]
def blk (K : List (List (Nat × Nat))) (l : List Nat) : Bool := decide (rk (pairsOf K l) < l.length)
theorem blocks_ok (n : Nat) (K : List (List (Nat × Nat))) (hK : Fit n K) (l : List Nat) (hl : ∀ k ∈ l, k < K.length) (h : l.length ≤ 80) : m86 2000 (crw n K) (.lst false l.length (nL l)) = some (.bool (blk K l)) := by
  have r := rank_ok n K hK l hl (by omega)
  unfold crw at *
  rw [m86, getA2_t, getL_t, r, bnd_t, getI_t]
  unfold blk
  congr 2
  rw [Bool.eq_iff_iff]; simp
theorem rblocks_ok (n : Nat) (K : List (List (Nat × Nat))) (hK : Fit n K) (l : List Nat) (hl : ∀ k ∈ l, k < K.length) (h : l.length ≤ 80) : m88 2000 (crw n K) (.lst false l.length (nL l)) = some (.bool (blk K l)) := by
  have r := rrank_ok 2000 (by omega) n K hK l hl h
  unfold crw at *
  rw [m88, getA2_t, getL_t, r, bnd_t, getI_t]
  unfold blk
  congr 2
  rw [Bool.eq_iff_iff]; simp
theorem rwhy_L (n : Nat) (K : List (List (Nat × Nat))) (hK : Fit n K) (T : List (List Nat)) (hT : ∀ l ∈ T, (∀ k ∈ l, k < K.length) ∧ l.length ≤ 80) (hTl : T.length ≤ 1000) : ∀ (r i fuel : Nat), T.length - i = r → r < fuel →
    m37_L0 2000 (.int .i64 (n : Int)) (.lst false K.length (knsI (cK K))) T.length (T.map rwN) fuel (i : Int) = some (rgU ((T.drop i).find? (blk K)))
  | r, i, 0, _, h => by omega
  | r, i, f + 1, hr, hf => by
    have hTm : (T.map rwN).length = T.length := by simp
    rw [m37_L0]
    by_cases h : i < T.length
    · have ih := rwhy_L n K hK T hT hTl (r - 1) (i + 1) f (by omega) (by omega)
      obtain ⟨t1, t2⟩ := hT _ (roN_mem h)
      have b := rblocks_ok n K hK (roN T i) t1 t2
      unfold crw at b
      rw [brn_t (decide_eq_true (by omega)), toNatN, grd_t ⟨by omega, by omega⟩, grd_t (by simp only [List.length_drop]; omega), gpN h, getL_t, b, bnd_t, getB_t, drop_roN h, List.find?_cons]
      cases blk K (roN T i) with
      | true => rw [brn_t rfl]; rfl
      | false => rw [brn_f rfl, wrapN (by omega)]; exact ih
    · rw [brn_f (decide_eq_false (by omega)), List.drop_eq_nil_of_le (by omega)]; rfl
theorem upT_mem {d : Nat} (hd : d ≤ 5) {l : List Nat} (h : l ∈ upT d) : (∀ k ∈ l, k < d) ∧ l.length ≤ 5 := by
  obtain ⟨j, hj, hl⟩ := List.mem_flatMap.1 h
  have hj' : j ≤ d := by have := List.mem_range.1 hj; omega
  obtain ⟨a, b⟩ := (ls_mem hd hj').1 l hl
  exact ⟨b, by omega⟩
theorem upT_len : ∀ d, d ≤ 5 → (upT d).length ≤ 1000 := by decide +kernel
theorem Why_both (n : Int) (K : List (List (Int × Int))) (hK : K.length ≤ 1000) (hl : ∀ l ∈ K, l.length ≤ 1000) :
    ∃ (l : List Nat) (e : Int), m36 2000 (.agg [.int .i64 n, .lst false K.length (knsI K)]) = some (.tup [rwN l, .int .i64 e]) ∧ m37 2000 (.agg [.int .i64 n, .lst false K.length (knsI K)]) = some (.tup [rwN l, .int .i64 e]) ∧ l.length ≤ 1000 := by
  have c1 := check_ok 2000 (by omega) n K hK hl
  have c2 := rcheck_ok 2000 (by omega) n K hK hl
  by_cases h : chk n K = 0
  · obtain ⟨m, K', rfl, rfl, hF⟩ := chk_zero h
    have h5 := hF.many
    rw [h, cK_len] at c1 c2
    have b := bestw_ok K'.length h5 (crw m K') (blk K') (fun s hs => blocks_ok m K' hF (memb s) (memb_lt h5 hs) (by have := memb_len s; omega))
    have q := rwhy_L m K' hF (upT K'.length) (fun l hl => by have := upT_mem h5 hl; exact ⟨this.1, by omega⟩) (upT_len _ h5) (upT K'.length).length 0 2000 (by omega) (by have := upT_len _ h5; omega)
    rw [List.drop_zero] at q
    unfold crw at b
    rw [cK_len]
    rw [m36, getA2_t, c1, bnd_t, getI_t, brn_f (b := ((0 : Int) != 0)) rfl, getL_t, b, bnd_t]
    rw [m37, getA2_t, c2, bnd_t, getI_t, brn_f (b := ((0 : Int) != 0)) rfl, every_ok 2000 (by omega) _ _ _ (by omega), bnd_t, getL_t, some_ok _ h5, bnd_t, getL_t, show m37_L0 2000 (.int .i64 (m : Int)) (.lst false K'.length (knsI (cK K'))) (upT K'.length).length ((upT K'.length).map rwN) 2000 0 = _ from q, bnd_t]
    cases hf : (upT K'.length).find? (blk K') with
    | some l =>
      have := upT_mem h5 (List.mem_of_find?_eq_some hf)
      exact ⟨l, 0, rfl, rfl, by omega⟩
    | none => exact ⟨[], 13, rfl, rfl, by simp⟩
  · refine ⟨[], chk n K, ?_, ?_, by simp⟩
    · rw [m36, getA2_t, c1, bnd_t, getI_t, brn_t (by simpa using h)]; rfl
    · rw [m37, getA2_t, c2, bnd_t, getI_t, brn_t (by simpa using h)]; rfl
theorem Proves_both (n : Int) (K : List (List (Int × Int))) (hK : K.length ≤ 1000) (hl : ∀ l ∈ K, l.length ≤ 1000) (ks : List Int) (hk : ks.length ≤ 80) :
    ∃ e : Int, m38 2000 (.agg [.int .i64 n, .lst false K.length (knsI K)]) (.lst false ks.length (iL ks)) = some (.int .i64 e) ∧ m39 2000 (.agg [.int .i64 n, .lst false K.length (knsI K)]) (.lst false ks.length (iL ks)) = some (.int .i64 e) := by
  have e1 := listed_ok 2000 (by omega) n K hK hl ks (by omega)
  have e2 := rlisted_ok 2000 (by omega) n K hK hl ks (by omega)
  by_cases h : lstE n K ks = 0
  · have h0 := h
    unfold lstE at h
    by_cases hc : chk n K = 0
    · rw [if_neg (by simpa using hc)] at h
      obtain ⟨m, K', rfl, rfl, hF⟩ := chk_zero hc
      obtain ⟨Y, rfl, y2, y3⟩ := lsE_zero ks (-1) (by omega) h
      rw [cS_len] at hk
      have y2' : ∀ k ∈ Y, k < K'.length := fun k hk => by have := (y2 k hk).1; rw [cK_len] at this; exact this
      have r1 := blocks_ok m K' hF Y y2' (by omega)
      have r2 := rblocks_ok m K' hF Y y2' (by omega)
      rw [h0, cS_len, ← nL_iL, cK_len] at e1 e2
      rw [cS_len, ← nL_iL, cK_len]
      unfold crw at r1 r2
      rw [m38, getA2_t, getL_t, e1, bnd_t, getI_t, brn_f (b := ((0 : Int) != 0)) rfl, r1, bnd_t, getB_t]
      rw [m39, getA2_t, getL_t, e2, bnd_t, getI_t, brn_t (b := ((0 : Int) == 0)) rfl, r2, bnd_t, getB_t]
      cases blk K' Y with
      | true => exact ⟨0, rfl, rfl⟩
      | false => exact ⟨14, rfl, rfl⟩
    · rw [if_pos hc] at h; exact absurd h hc
  · refine ⟨lstE n K ks, ?_, ?_⟩
    · rw [m38, getA2_t, getL_t, e1, bnd_t, getI_t, brn_t (by simpa using h)]
    · rw [m39, getA2_t, getL_t, e2, bnd_t, getI_t, brn_f (by simpa using h)]
theorem law6 (n : Int) (K : List (List (Int × Int))) (ks : List Int) : m6 2000 (.agg [.int .i64 n, .lst false K.length (knsI K)]) (.lst false ks.length (iL ks)) = some (.bool true) := by
  have w : m16 2000 = some (.bool true) := rfl
  rw [m6, getA2_t, getL_t, large_ok 2000 (by omega), bnd_t, getB_t]
  cases hb : bigK K with
  | true => rw [brn_t rfl, w, bnd_t, getB_t]
  | false =>
    obtain ⟨b1, b2⟩ := big_f hb
    have hK : K.length ≤ 1000 := by omega
    have hl : ∀ l ∈ K, l.length ≤ 1000 := fun l h => by have := b2 l h; omega
    rw [brn_f rfl]
    by_cases h1 : 20 < ks.length
    · rw [brn_t (decide_eq_true (by omega)), w, bnd_t, getB_t]
    · obtain ⟨l, g, q1, q2, q3⟩ := Why_both n K hK hl
      obtain ⟨v, v1, v2⟩ := Proves_both n K hK hl ks (by omega)
      unfold rwN at q1 q2
      rw [brn_f (decide_eq_false (by omega)), getI_t, q1, bnd_t, getT2_t, getL_t, getI_t, q2, bnd_t, getT2_t, getL_t, getI_t, same_ok l q3, bnd_t, getB_t, brn_t rfl, brn_t (by simp), v1, bnd_t, getI_t, v2, bnd_t, getI_t, brn_t (by simp), w, bnd_t, getB_t]
end Go.Proofs.YtnponojgpkbagaaDoor

namespace Go.Proofs.YtnponojgpkbagaaDoor
open Go.V Go.Crew
set_option linter.unusedSectionVars false
set_option linter.unnecessarySimpa false

theorem int_of {x : List PV} (h : PT tab 3 x) : ∃ n : Int, x = [.int .i64 n] := by
  obtain ⟨a, e, _⟩ := h.int' tl3 rfl
  exact ⟨a, e⟩
theorem ints_of {x : PV} (h : PT tab 25 [x]) : ∃ X : List Int, PLe x (.lst false X.length (iL X)) := by
  rcases h.slice' tl25 rfl with h | ⟨xs, h, hx⟩
  · cases h; exact ⟨[], .nl false⟩
  · cases h
    obtain ⟨L, h1, h2, _⟩ := opened (fun p : Int => [PV.int .i64 p]) (fun x => PT tab 3 x) (fun _ => True) (fun x hx => by obtain ⟨n, e⟩ := int_of hx; exact ⟨n, e, trivial⟩) xs hx
    refine ⟨L, ?_⟩
    rw [h2, ← h1]
    have : L.flatMap (fun p : Int => [PV.int .i64 p]) = iL L := by
      clear h1 h2
      induction L with
      | nil => rfl
      | cons a L ih => simpa [iL] using ih
    rw [this]; exact .refl _
theorem pair_of {x : List PV} (h : PT tab 71 x) : ∃ p : Int × Int, x = prI p := by
  obtain ⟨xs, rfl, hl, hxs⟩ := h.arr' tl71 rfl
  match xs, hl with
  | [a, b], _ =>
    obtain ⟨u, rfl⟩ := int_of (hxs a (by simp))
    obtain ⟨v, rfl⟩ := int_of (hxs b (by simp))
    exact ⟨(u, v), rfl⟩
theorem kind_of {x : List PV} (h : PT tab 70 x) : ∃ (y : PV) (l : List (Int × Int)), x = [y] ∧ PLe y (knI l) := by
  rcases h.slice' tl70 rfl with h | ⟨xs, h, hx⟩
  · exact ⟨.nl, [], h, .nl false⟩
  · obtain ⟨L, h1, h2, _⟩ := opened prI (fun x => PT tab 71 x) (fun _ => True) (fun x hx => by obtain ⟨p, e⟩ := pair_of hx; exact ⟨p, e, trivial⟩) xs hx
    refine ⟨_, L, h, ?_⟩
    rw [h2, ← h1]
    exact .refl _
theorem kinds_of' : ∀ (xs : List (List PV)), (∀ x ∈ xs, PT tab 70 x) → ∃ K : List (List (Int × Int)), K.length = xs.length ∧ PLes xs.flatten (knsI K)
  | [], _ => ⟨[], rfl, .nil⟩
  | x :: xs, h => by
    obtain ⟨K, h1, h2⟩ := kinds_of' xs fun y hy => h y (.tail _ hy)
    obtain ⟨y, l, rfl, hr⟩ := kind_of (h x (.head _))
    exact ⟨l :: K, by simp [h1], .cons _ _ _ _ hr h2⟩
theorem crew_of {qs : List PV} (h : PT tab 24 qs) : ∃ (n : Int) (K : List (List (Int × Int))), PLes qs [.int .i64 n, .lst false K.length (knsI K)] := by
  obtain ⟨a, rs, rfl, ha, h⟩ := (h.structs tl24 rfl).cons'
  obtain ⟨b, rs, rfl, hb, h⟩ := h.cons'
  obtain rfl := h.nil'
  obtain ⟨n, rfl⟩ := int_of ha
  rcases hb.slice' tl22 rfl with h | ⟨xs, h, hx⟩
  · subst h; exact ⟨n, [], .cons _ _ _ _ (.refl _) (.cons _ _ _ _ (.nl false) .nil)⟩
  · subst h
    obtain ⟨K, h1, h2⟩ := kinds_of' xs hx
    refine ⟨n, K, .cons _ _ _ _ (.refl _) (.cons _ _ _ _ ?_ .nil)⟩
    rw [h1]
    exact .lst false false _ _ _ (fun h => h) h2
end Go.Proofs.YtnponojgpkbagaaDoor

namespace Go.Proofs.YtnponojgpkbagaaDoor
open Go.V Go.Crew
set_option linter.unusedSectionVars false
set_option linter.unnecessarySimpa false
theorem con6 (x0 : List PV) (h0 : PT tab 24 x0) (x1 : PV) (h1 : PT tab 25 [x1]) : FnP Tryd.prog 6 [.agg x0, x1] (.bool true) := by
  obtain ⟨n, K, hK⟩ := crew_of h0
  obtain ⟨ks, hk⟩ := ints_of h1
  exact FnP_le (c6 2000 _ _ _ (law6 n K ks)) (.cons _ _ _ _ (.agg _ _ hK) (.cons _ _ _ _ hk .nil)) (.refl _)
end Go.Proofs.YtnponojgpkbagaaDoor

namespace Go.Proofs.YtnponojgpkbagaaDoor.crewWhys
open Go.ChangeShapes Go.WideShapes Go.ChangeAt Go.RowKit Go.V

theorem own : ownKnob Tryd.prog.godebug = none := by kernel_rfl
theorem laid : laidOutB Tryd.prog = true := by kernel_rfl
set_option maxRecDepth 100000 in
theorem lifted (os : Os) (started : os.Started) (H : Type) (enc : TypeId × Value → H) :
    ReturnsInHanded {} Tryd.checked os 6 .any (fun w args => (Rows.crewWhysSpec.pre enc Tryd.prog Tryd.f6 [] false w args ∧ laidMetH Tryd.prog [("math/bits.deBruijn32tab", Rows.laid_math_bits_deBruijn32tab), ("math/bits.deBruijn64tab", Rows.laid_math_bits_deBruijn64tab)] w) ∧ sizedMet enc Tryd.prog Tryd.f6 (OpenSpec.ofChange Rows.crewWhysSpec) false w args)
      (Rows.crewWhysSpec.post enc Tryd.prog Tryd.f6 false true false false) := by
  refine returnsInHanded_of_change_and (C := Tryd.checked) (X := fun w _ => laidMetH Tryd.prog [("math/bits.deBruijn32tab", Rows.laid_math_bits_deBruijn32tab), ("math/bits.deBruijn64tab", Rows.laid_math_bits_deBruijn64tab)] w) (fun _ _ _ hh h => h.of_heap hh) own started (by kernel_rfl) Tryd.func6
    (ChangeSpec.witness_shaped (enc := enc) (C := Tryd.checked) (os := os) (X := fun w _ => laidMetH Tryd.prog [("math/bits.deBruijn32tab", Rows.laid_math_bits_deBruijn32tab), ("math/bits.deBruijn64tab", Rows.laid_math_bits_deBruijn64tab)] w) false (World.laidAll Tryd.prog os [("math/bits.deBruijn32tab", Rows.laid_math_bits_deBruijn32tab), ("math/bits.deBruijn64tab", Rows.laid_math_bits_deBruijn64tab)]) #[.agg #[.int .i64 0, .slice none 0 0], .slice none 0 0] 8 (World.laidAll_os _ _ _)
      (World.shaped_of_ZipB (by kernel_rfl) (by kernel_rfl)) (by kernel_rfl) (by kernel_rfl) (by kernel_rfl)
      (by rw [MakeChecks.laidMetH_plain _ _ _ (by kernel_rfl)]; exact laidMet_laidAll _ (by kernel_rfl) (by kernel_rfl))) ?_
  intro W base args ds gs before hval0 hW _ _ hL _
  have hW' := hW
  obtain ⟨p, q, hA0, hV, rfl, hfz, hnd⟩ := hW
  have hA : DataW.TrodAll enc Tryd.prog W 0 (fun _ => true) true Tryd.f6.params.toList args.toList ds p := hA0
  rw [Tryd.params6] at hA
  obtain ⟨v0, vs0, d0, ds0, p0, q0, e0, rfl, rfl, h0, hr0⟩ := trodAll_cons hA
  obtain ⟨v1, vs1, d1, ds1, p1, q1, e1, rfl, rfl, h1, hr1⟩ := trodAll_cons hr0
  obtain ⟨rfl, rfl, rfl⟩ := trodAll_nil hr1
  subst e1
  obtain rfl : args = #[v0, v1] := by cases args; simp_all
  obtain ⟨x0, k0, t0⟩ := arg_agg (n := 8) tab_ok (hval0 0 24 v0 rfl rfl) h0 (by kernel_rfl) (by kernel_rfl)
  obtain ⟨x1, k1, t1⟩ := arg_one (n := 8) tab_ok (hval0 1 25 v1 rfl rfl) h1 (by kernel_rfl) (by kernel_rfl)
  obtain ⟨rfl, rfl⟩ := trodVars_none hV
  clear hA0 hval0
  simp only [List.append_nil] at hW'
  refine (FnP.calls (W := W) (vals := #[v0, v1]) (con6 x0 t0 x1 t1) (.cons _ _ _ _ k0 (.cons _ _ _ _ k1 .nil)) (laidG hL)).mono fun e W' ⟨he, hg⟩ => ?_
  subst he
  exact ⟨_, rfl, post_of_kept (pv := []) hW' (fun _ _ _ => trodAll_cons_mk (shut_bool Tryd.underlying4 _) trodAll_mk0) (fun sp hsp => trodAll_cons_mk (Kept.trod hg laid (by kernel_rfl) (of_decide_eq_true (by kernel_rfl)) h0 (fun y hy => hsp y (by simp [hy]))) (trodAll_cons_mk (Kept.trod hg laid (by kernel_rfl) (of_decide_eq_true (by kernel_rfl)) h1 (fun y hy => hsp y (by simp [hy]))) (trodAll_mk0))) (fun _ _ => rfl) (by simp)
    hg (ok_one (by kernel_rfl) rfl (okWide_bool_mk Tryd.underlying4 _))⟩

theorem over : Rows.crewWhysRow.holds Tryd.pinned (OpenSpec.ofChange Rows.crewWhysSpec) :=
  OpenClaim.holds_of_wide 6 Tryd.f6 rfl rfl rfl rfl rfl rfl rfl ⟨rfl, rfl, rfl, rfl, rfl⟩ rfl rfl rfl rfl rfl (by kernel_rfl) Tryd.func6 (by kernel_rfl)
    (of_decide_eq_true (by kernel_rfl)) (by unfold Func.isWrapper; first | (rw [if_pos (by decide +kernel)]; kernel_rfl) | (rw [if_neg (by decide +kernel)]; exact ⟨rfl, rfl⟩))
    (fun os started H enc _ => lifted os started H enc)

theorem card : Rows.CrewWhysCardSaid :=
  Claim7.holds_tied_plain_at .later [] [.data, .data] true (true, "36f3adb999a13030bb38168af2e88bed1a560d200de820ff25b5e377fa9c04d7") true (over) (fun _ h => by cases h) (by kernel_rfl) (fun _ h => by cases h) crewWhys_row_tie rfl ⟨rfl, rfl⟩ (by kernel_rfl) rfl
    (fun f fn hf hfn => by
      obtain rfl : f = 6 := Option.some.inj ((show Tryd.prog.funcNamed "breeze/breezelaw10.CrewWhys" = some 6 by kernel_rfl).symm.trans hf) |>.symm
      obtain rfl : fn = Tryd.f6 := (Option.some.inj (Tryd.func6.symm.trans hfn)).symm
      exact ⟨by kernel_rfl, fun j t ht => by
        rw [Tryd.params6] at ht
        rcases j with _ | _ | j
        · obtain rfl : t = 24 := by simpa using ht.symm
          exact (show Tryd.prog.wantsStandIn 24 = false by kernel_rfl)
        · obtain rfl : t = 25 := by simpa using ht.symm
          exact (show Tryd.prog.wantsStandIn 25 = false by kernel_rfl)
        · simp at ht⟩)
    (by kernel_rfl)

end Go.Proofs.YtnponojgpkbagaaDoor.crewWhys
namespace Go.Proofs.YtnponojgpkbagaaDoor
/-- the statement -/
theorem crewWhys_holds : Rows.CrewWhysCardSaid := crewWhys.card
#print axioms crewWhys_holds
end Go.Proofs.YtnponojgpkbagaaDoor
