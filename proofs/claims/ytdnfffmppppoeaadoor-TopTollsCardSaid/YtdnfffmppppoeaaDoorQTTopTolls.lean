/-
  TopTolls: the law returns true.
-/
import Derived.Test.YtdnfffmppppoeaaDoorQTTtb
import Derived.KernelRfl
import Derived.Test.YtdnfffmppppoeaaDoorQTV32
import Derived.Test.YtdnfffmppppoeaaDoorRows
import Derived.Test.YtdnfffmppppoeaaDoorCards
import Derived.Test.YtdnfffmppppoeaaDoorTie
import Derived.Test.YtdnfffmppppoeaaDoorQTK
import Derived.Test.YtdnfffmppppoeaaDoorQTV31
import Derived.WalkKit
import Derived.ProofKit
import Derived.OpenShut
import Derived.Lay
import Derived.SevenTiedAt
import Derived.MakeChecks
set_option linter.unusedSimpArgs false
set_option linter.unusedVariables false
namespace Go.Proofs.YtdnfffmppppoeaaDoor
open Go.V
set_option maxRecDepth 100000
def pN : List PV → Option (List Nat)
  | [] => some []
  | .int .i64 (.ofNat n) :: l => (pN l).map (n :: ·)
  | _ => none
theorem pN_ok : ∀ {cs : List PV} {X : List Nat}, pN cs = some X → cs = nL X
  | [], X, h => by cases h; rfl
  | p :: l, X, h => by
    unfold pN at h
    split at h
    · rename_i e; cases e
    · rename_i n l' e
      cases e
      cases hl : pN l with
      | none => rw [hl] at h; cases h
      | some Y =>
        rw [hl] at h
        cases h
        rw [pN_ok hl]; rfl
    · cases h
def isL (r : Option PV) (X : List Nat) : Bool := match r with
  | some (.lst false n cs) => n == X.length && pN cs == some X
  | _ => false
theorem isL_ok {r : Option PV} {X : List Nat} (h : isL r X = true) : r = some (.lst false X.length (nL X)) := by
  unfold isL at h
  split at h
  · simp only [Bool.and_eq_true, beq_iff_eq] at h
    rw [h.1, pN_ok h.2]
  · cases h
def isD (r : Option PV) (X : List Nat) : Bool := match r with
  | some (.tup [.lst false n cs, .int .i64 (.ofNat 0)]) => n == X.length && pN cs == some X
  | _ => false
theorem isD_ok {r : Option PV} {X : List Nat} (h : isD r X = true) : r = some (.tup [.lst false X.length (nL X), .int .i64 0]) := by
  unfold isD at h
  split at h
  · simp only [Bool.and_eq_true, beq_iff_eq] at h
    rw [h.1, pN_ok h.2]; rfl
  · cases h
def ck8 (D : List Nat) : Bool := D.sum % 2 == 1 || isD (m8 2000 ((D.sum / 2 : Nat) : Int) (.lst false D.length (nL D))) (D.map (60 * ·))
def comps : Nat → Nat → List (List Nat)
  | 0, _ => [[]]
  | k + 1, m => (List.range 9).flatMap fun d => if d + 1 + k ≤ m then (comps k (m - (d + 1))).map ((d + 1) :: ·) else []
theorem len_sum : ∀ {D : List Nat}, (∀ x ∈ D, 1 ≤ x ∧ x ≤ 9) → D.length ≤ D.sum
  | [], _ => Nat.le_refl _
  | x :: D, h => by
    have := len_sum fun y hy => h y (.tail _ hy)
    have := h x (.head _)
    rw [List.length_cons, List.sum_cons]; omega
theorem comps_mem : ∀ (D : List Nat) (m : Nat), (∀ x ∈ D, 1 ≤ x ∧ x ≤ 9) → D.sum ≤ m → D ∈ comps D.length m
  | [], _, _, _ => .head _
  | x :: D, m, h, hs => by
    have hD := fun y hy => h y (.tail _ hy)
    have h1 := h x (.head _)
    have l := len_sum hD
    rw [List.sum_cons] at hs
    rw [List.length_cons, comps, List.mem_flatMap]
    refine ⟨x - 1, List.mem_range.2 (by omega), ?_⟩
    rw [show x - 1 + 1 = x by omega, if_pos (by omega)]
    exact List.mem_map.2 ⟨D, comps_mem D (m - x) hD (by omega), rfl⟩
theorem comps_all {k m : Nat} {p : List Nat → Bool} (h : ∀ d, d < 9 → d + 1 + k ≤ m → ((comps k (m - (d + 1))).all fun D => p ((d + 1) :: D)) = true) : (comps (k + 1) m).all p = true := by
  rw [comps, List.all_flatMap, List.all_eq_true]
  intro d hd
  have hd' := List.mem_range.1 hd
  by_cases g : d + 1 + k ≤ m
  · rw [if_pos g, List.all_map]
    exact h d hd' g
  · rw [if_neg g]; rfl
theorem q2 : (comps 2 18).all ck8 = true := by kernel_rfl
theorem q3 : (comps 3 18).all ck8 = true := by kernel_rfl
theorem q4_0 : ((comps 3 (18 - (0 + 1))).all fun D => ck8 ((0 + 1) :: D)) = true := by kernel_rfl
theorem q4_1 : ((comps 3 (18 - (1 + 1))).all fun D => ck8 ((1 + 1) :: D)) = true := by kernel_rfl
theorem q4_2 : ((comps 3 (18 - (2 + 1))).all fun D => ck8 ((2 + 1) :: D)) = true := by kernel_rfl
theorem q4_3 : ((comps 3 (18 - (3 + 1))).all fun D => ck8 ((3 + 1) :: D)) = true := by kernel_rfl
theorem q4_4 : ((comps 3 (18 - (4 + 1))).all fun D => ck8 ((4 + 1) :: D)) = true := by kernel_rfl
theorem q4_5 : ((comps 3 (18 - (5 + 1))).all fun D => ck8 ((5 + 1) :: D)) = true := by kernel_rfl
theorem q4_6 : ((comps 3 (18 - (6 + 1))).all fun D => ck8 ((6 + 1) :: D)) = true := by kernel_rfl
theorem q4_7 : ((comps 3 (18 - (7 + 1))).all fun D => ck8 ((7 + 1) :: D)) = true := by kernel_rfl
theorem q4_8 : ((comps 3 (18 - (8 + 1))).all fun D => ck8 ((8 + 1) :: D)) = true := by kernel_rfl
theorem q4 : (comps 4 18).all ck8 = true := comps_all fun d hd hg => by
  have h : d = 0 ∨ d = 1 ∨ d = 2 ∨ d = 3 ∨ d = 4 ∨ d = 5 ∨ d = 6 ∨ d = 7 ∨ d = 8 := by omega
  rcases h with rfl | rfl | rfl | rfl | rfl | rfl | rfl | rfl | rfl
  · exact q4_0
  · exact q4_1
  · exact q4_2
  · exact q4_3
  · exact q4_4
  · exact q4_5
  · exact q4_6
  · exact q4_7
  · exact q4_8
theorem q5_0_0 : ((comps 3 (18 - (0 + 1) - (0 + 1))).all fun D => ck8 ((0 + 1) :: (0 + 1) :: D)) = true := by kernel_rfl
theorem q5_0_1 : ((comps 3 (18 - (0 + 1) - (1 + 1))).all fun D => ck8 ((0 + 1) :: (1 + 1) :: D)) = true := by kernel_rfl
theorem q5_0_2 : ((comps 3 (18 - (0 + 1) - (2 + 1))).all fun D => ck8 ((0 + 1) :: (2 + 1) :: D)) = true := by kernel_rfl
theorem q5_0_3 : ((comps 3 (18 - (0 + 1) - (3 + 1))).all fun D => ck8 ((0 + 1) :: (3 + 1) :: D)) = true := by kernel_rfl
theorem q5_0_4 : ((comps 3 (18 - (0 + 1) - (4 + 1))).all fun D => ck8 ((0 + 1) :: (4 + 1) :: D)) = true := by kernel_rfl
theorem q5_0_5 : ((comps 3 (18 - (0 + 1) - (5 + 1))).all fun D => ck8 ((0 + 1) :: (5 + 1) :: D)) = true := by kernel_rfl
theorem q5_0_6 : ((comps 3 (18 - (0 + 1) - (6 + 1))).all fun D => ck8 ((0 + 1) :: (6 + 1) :: D)) = true := by kernel_rfl
theorem q5_0_7 : ((comps 3 (18 - (0 + 1) - (7 + 1))).all fun D => ck8 ((0 + 1) :: (7 + 1) :: D)) = true := by kernel_rfl
theorem q5_0_8 : ((comps 3 (18 - (0 + 1) - (8 + 1))).all fun D => ck8 ((0 + 1) :: (8 + 1) :: D)) = true := by kernel_rfl
theorem q5_1_0 : ((comps 3 (18 - (1 + 1) - (0 + 1))).all fun D => ck8 ((1 + 1) :: (0 + 1) :: D)) = true := by kernel_rfl
theorem q5_1_1 : ((comps 3 (18 - (1 + 1) - (1 + 1))).all fun D => ck8 ((1 + 1) :: (1 + 1) :: D)) = true := by kernel_rfl
theorem q5_1_2 : ((comps 3 (18 - (1 + 1) - (2 + 1))).all fun D => ck8 ((1 + 1) :: (2 + 1) :: D)) = true := by kernel_rfl
theorem q5_1_3 : ((comps 3 (18 - (1 + 1) - (3 + 1))).all fun D => ck8 ((1 + 1) :: (3 + 1) :: D)) = true := by kernel_rfl
theorem q5_1_4 : ((comps 3 (18 - (1 + 1) - (4 + 1))).all fun D => ck8 ((1 + 1) :: (4 + 1) :: D)) = true := by kernel_rfl
theorem q5_1_5 : ((comps 3 (18 - (1 + 1) - (5 + 1))).all fun D => ck8 ((1 + 1) :: (5 + 1) :: D)) = true := by kernel_rfl
theorem q5_1_6 : ((comps 3 (18 - (1 + 1) - (6 + 1))).all fun D => ck8 ((1 + 1) :: (6 + 1) :: D)) = true := by kernel_rfl
theorem q5_1_7 : ((comps 3 (18 - (1 + 1) - (7 + 1))).all fun D => ck8 ((1 + 1) :: (7 + 1) :: D)) = true := by kernel_rfl
theorem q5_1_8 : ((comps 3 (18 - (1 + 1) - (8 + 1))).all fun D => ck8 ((1 + 1) :: (8 + 1) :: D)) = true := by kernel_rfl
theorem q5_2_0 : ((comps 3 (18 - (2 + 1) - (0 + 1))).all fun D => ck8 ((2 + 1) :: (0 + 1) :: D)) = true := by kernel_rfl
theorem q5_2_1 : ((comps 3 (18 - (2 + 1) - (1 + 1))).all fun D => ck8 ((2 + 1) :: (1 + 1) :: D)) = true := by kernel_rfl
theorem q5_2_2 : ((comps 3 (18 - (2 + 1) - (2 + 1))).all fun D => ck8 ((2 + 1) :: (2 + 1) :: D)) = true := by kernel_rfl
theorem q5_2_3 : ((comps 3 (18 - (2 + 1) - (3 + 1))).all fun D => ck8 ((2 + 1) :: (3 + 1) :: D)) = true := by kernel_rfl
theorem q5_2_4 : ((comps 3 (18 - (2 + 1) - (4 + 1))).all fun D => ck8 ((2 + 1) :: (4 + 1) :: D)) = true := by kernel_rfl
theorem q5_2_5 : ((comps 3 (18 - (2 + 1) - (5 + 1))).all fun D => ck8 ((2 + 1) :: (5 + 1) :: D)) = true := by kernel_rfl
theorem q5_2_6 : ((comps 3 (18 - (2 + 1) - (6 + 1))).all fun D => ck8 ((2 + 1) :: (6 + 1) :: D)) = true := by kernel_rfl
theorem q5_2_7 : ((comps 3 (18 - (2 + 1) - (7 + 1))).all fun D => ck8 ((2 + 1) :: (7 + 1) :: D)) = true := by kernel_rfl
theorem q5_2_8 : ((comps 3 (18 - (2 + 1) - (8 + 1))).all fun D => ck8 ((2 + 1) :: (8 + 1) :: D)) = true := by kernel_rfl
theorem q5_3_0 : ((comps 3 (18 - (3 + 1) - (0 + 1))).all fun D => ck8 ((3 + 1) :: (0 + 1) :: D)) = true := by kernel_rfl
theorem q5_3_1 : ((comps 3 (18 - (3 + 1) - (1 + 1))).all fun D => ck8 ((3 + 1) :: (1 + 1) :: D)) = true := by kernel_rfl
theorem q5_3_2 : ((comps 3 (18 - (3 + 1) - (2 + 1))).all fun D => ck8 ((3 + 1) :: (2 + 1) :: D)) = true := by kernel_rfl
theorem q5_3_3 : ((comps 3 (18 - (3 + 1) - (3 + 1))).all fun D => ck8 ((3 + 1) :: (3 + 1) :: D)) = true := by kernel_rfl
theorem q5_3_4 : ((comps 3 (18 - (3 + 1) - (4 + 1))).all fun D => ck8 ((3 + 1) :: (4 + 1) :: D)) = true := by kernel_rfl
theorem q5_3_5 : ((comps 3 (18 - (3 + 1) - (5 + 1))).all fun D => ck8 ((3 + 1) :: (5 + 1) :: D)) = true := by kernel_rfl
theorem q5_3_6 : ((comps 3 (18 - (3 + 1) - (6 + 1))).all fun D => ck8 ((3 + 1) :: (6 + 1) :: D)) = true := by kernel_rfl
theorem q5_3_7 : ((comps 3 (18 - (3 + 1) - (7 + 1))).all fun D => ck8 ((3 + 1) :: (7 + 1) :: D)) = true := by kernel_rfl
theorem q5_3_8 : ((comps 3 (18 - (3 + 1) - (8 + 1))).all fun D => ck8 ((3 + 1) :: (8 + 1) :: D)) = true := by kernel_rfl
theorem q5_4_0 : ((comps 3 (18 - (4 + 1) - (0 + 1))).all fun D => ck8 ((4 + 1) :: (0 + 1) :: D)) = true := by kernel_rfl
theorem q5_4_1 : ((comps 3 (18 - (4 + 1) - (1 + 1))).all fun D => ck8 ((4 + 1) :: (1 + 1) :: D)) = true := by kernel_rfl
theorem q5_4_2 : ((comps 3 (18 - (4 + 1) - (2 + 1))).all fun D => ck8 ((4 + 1) :: (2 + 1) :: D)) = true := by kernel_rfl
theorem q5_4_3 : ((comps 3 (18 - (4 + 1) - (3 + 1))).all fun D => ck8 ((4 + 1) :: (3 + 1) :: D)) = true := by kernel_rfl
theorem q5_4_4 : ((comps 3 (18 - (4 + 1) - (4 + 1))).all fun D => ck8 ((4 + 1) :: (4 + 1) :: D)) = true := by kernel_rfl
theorem q5_4_5 : ((comps 3 (18 - (4 + 1) - (5 + 1))).all fun D => ck8 ((4 + 1) :: (5 + 1) :: D)) = true := by kernel_rfl
theorem q5_4_6 : ((comps 3 (18 - (4 + 1) - (6 + 1))).all fun D => ck8 ((4 + 1) :: (6 + 1) :: D)) = true := by kernel_rfl
theorem q5_4_7 : ((comps 3 (18 - (4 + 1) - (7 + 1))).all fun D => ck8 ((4 + 1) :: (7 + 1) :: D)) = true := by kernel_rfl
theorem q5_4_8 : ((comps 3 (18 - (4 + 1) - (8 + 1))).all fun D => ck8 ((4 + 1) :: (8 + 1) :: D)) = true := by kernel_rfl
theorem q5_5_0 : ((comps 3 (18 - (5 + 1) - (0 + 1))).all fun D => ck8 ((5 + 1) :: (0 + 1) :: D)) = true := by kernel_rfl
theorem q5_5_1 : ((comps 3 (18 - (5 + 1) - (1 + 1))).all fun D => ck8 ((5 + 1) :: (1 + 1) :: D)) = true := by kernel_rfl
theorem q5_5_2 : ((comps 3 (18 - (5 + 1) - (2 + 1))).all fun D => ck8 ((5 + 1) :: (2 + 1) :: D)) = true := by kernel_rfl
theorem q5_5_3 : ((comps 3 (18 - (5 + 1) - (3 + 1))).all fun D => ck8 ((5 + 1) :: (3 + 1) :: D)) = true := by kernel_rfl
theorem q5_5_4 : ((comps 3 (18 - (5 + 1) - (4 + 1))).all fun D => ck8 ((5 + 1) :: (4 + 1) :: D)) = true := by kernel_rfl
theorem q5_5_5 : ((comps 3 (18 - (5 + 1) - (5 + 1))).all fun D => ck8 ((5 + 1) :: (5 + 1) :: D)) = true := by kernel_rfl
theorem q5_5_6 : ((comps 3 (18 - (5 + 1) - (6 + 1))).all fun D => ck8 ((5 + 1) :: (6 + 1) :: D)) = true := by kernel_rfl
theorem q5_5_7 : ((comps 3 (18 - (5 + 1) - (7 + 1))).all fun D => ck8 ((5 + 1) :: (7 + 1) :: D)) = true := by kernel_rfl
theorem q5_5_8 : ((comps 3 (18 - (5 + 1) - (8 + 1))).all fun D => ck8 ((5 + 1) :: (8 + 1) :: D)) = true := by kernel_rfl
theorem q5_6_0 : ((comps 3 (18 - (6 + 1) - (0 + 1))).all fun D => ck8 ((6 + 1) :: (0 + 1) :: D)) = true := by kernel_rfl
theorem q5_6_1 : ((comps 3 (18 - (6 + 1) - (1 + 1))).all fun D => ck8 ((6 + 1) :: (1 + 1) :: D)) = true := by kernel_rfl
theorem q5_6_2 : ((comps 3 (18 - (6 + 1) - (2 + 1))).all fun D => ck8 ((6 + 1) :: (2 + 1) :: D)) = true := by kernel_rfl
theorem q5_6_3 : ((comps 3 (18 - (6 + 1) - (3 + 1))).all fun D => ck8 ((6 + 1) :: (3 + 1) :: D)) = true := by kernel_rfl
theorem q5_6_4 : ((comps 3 (18 - (6 + 1) - (4 + 1))).all fun D => ck8 ((6 + 1) :: (4 + 1) :: D)) = true := by kernel_rfl
theorem q5_6_5 : ((comps 3 (18 - (6 + 1) - (5 + 1))).all fun D => ck8 ((6 + 1) :: (5 + 1) :: D)) = true := by kernel_rfl
theorem q5_6_6 : ((comps 3 (18 - (6 + 1) - (6 + 1))).all fun D => ck8 ((6 + 1) :: (6 + 1) :: D)) = true := by kernel_rfl
theorem q5_6_7 : ((comps 3 (18 - (6 + 1) - (7 + 1))).all fun D => ck8 ((6 + 1) :: (7 + 1) :: D)) = true := by kernel_rfl
theorem q5_7_0 : ((comps 3 (18 - (7 + 1) - (0 + 1))).all fun D => ck8 ((7 + 1) :: (0 + 1) :: D)) = true := by kernel_rfl
theorem q5_7_1 : ((comps 3 (18 - (7 + 1) - (1 + 1))).all fun D => ck8 ((7 + 1) :: (1 + 1) :: D)) = true := by kernel_rfl
theorem q5_7_2 : ((comps 3 (18 - (7 + 1) - (2 + 1))).all fun D => ck8 ((7 + 1) :: (2 + 1) :: D)) = true := by kernel_rfl
theorem q5_7_3 : ((comps 3 (18 - (7 + 1) - (3 + 1))).all fun D => ck8 ((7 + 1) :: (3 + 1) :: D)) = true := by kernel_rfl
theorem q5_7_4 : ((comps 3 (18 - (7 + 1) - (4 + 1))).all fun D => ck8 ((7 + 1) :: (4 + 1) :: D)) = true := by kernel_rfl
theorem q5_7_5 : ((comps 3 (18 - (7 + 1) - (5 + 1))).all fun D => ck8 ((7 + 1) :: (5 + 1) :: D)) = true := by kernel_rfl
theorem q5_7_6 : ((comps 3 (18 - (7 + 1) - (6 + 1))).all fun D => ck8 ((7 + 1) :: (6 + 1) :: D)) = true := by kernel_rfl
theorem q5_8_0 : ((comps 3 (18 - (8 + 1) - (0 + 1))).all fun D => ck8 ((8 + 1) :: (0 + 1) :: D)) = true := by kernel_rfl
theorem q5_8_1 : ((comps 3 (18 - (8 + 1) - (1 + 1))).all fun D => ck8 ((8 + 1) :: (1 + 1) :: D)) = true := by kernel_rfl
theorem q5_8_2 : ((comps 3 (18 - (8 + 1) - (2 + 1))).all fun D => ck8 ((8 + 1) :: (2 + 1) :: D)) = true := by kernel_rfl
theorem q5_8_3 : ((comps 3 (18 - (8 + 1) - (3 + 1))).all fun D => ck8 ((8 + 1) :: (3 + 1) :: D)) = true := by kernel_rfl
theorem q5_8_4 : ((comps 3 (18 - (8 + 1) - (4 + 1))).all fun D => ck8 ((8 + 1) :: (4 + 1) :: D)) = true := by kernel_rfl
theorem q5_8_5 : ((comps 3 (18 - (8 + 1) - (5 + 1))).all fun D => ck8 ((8 + 1) :: (5 + 1) :: D)) = true := by kernel_rfl
theorem q5_0 : ((comps 4 (18 - (0 + 1))).all fun D => ck8 ((0 + 1) :: D)) = true := comps_all (p := fun D => ck8 ((0 + 1) :: D)) fun e he hg => by
  have h : e = 0 ∨ e = 1 ∨ e = 2 ∨ e = 3 ∨ e = 4 ∨ e = 5 ∨ e = 6 ∨ e = 7 ∨ e = 8 := by omega
  rcases h with rfl | rfl | rfl | rfl | rfl | rfl | rfl | rfl | rfl
  · exact q5_0_0
  · exact q5_0_1
  · exact q5_0_2
  · exact q5_0_3
  · exact q5_0_4
  · exact q5_0_5
  · exact q5_0_6
  · exact q5_0_7
  · exact q5_0_8
theorem q5_1 : ((comps 4 (18 - (1 + 1))).all fun D => ck8 ((1 + 1) :: D)) = true := comps_all (p := fun D => ck8 ((1 + 1) :: D)) fun e he hg => by
  have h : e = 0 ∨ e = 1 ∨ e = 2 ∨ e = 3 ∨ e = 4 ∨ e = 5 ∨ e = 6 ∨ e = 7 ∨ e = 8 := by omega
  rcases h with rfl | rfl | rfl | rfl | rfl | rfl | rfl | rfl | rfl
  · exact q5_1_0
  · exact q5_1_1
  · exact q5_1_2
  · exact q5_1_3
  · exact q5_1_4
  · exact q5_1_5
  · exact q5_1_6
  · exact q5_1_7
  · exact q5_1_8
theorem q5_2 : ((comps 4 (18 - (2 + 1))).all fun D => ck8 ((2 + 1) :: D)) = true := comps_all (p := fun D => ck8 ((2 + 1) :: D)) fun e he hg => by
  have h : e = 0 ∨ e = 1 ∨ e = 2 ∨ e = 3 ∨ e = 4 ∨ e = 5 ∨ e = 6 ∨ e = 7 ∨ e = 8 := by omega
  rcases h with rfl | rfl | rfl | rfl | rfl | rfl | rfl | rfl | rfl
  · exact q5_2_0
  · exact q5_2_1
  · exact q5_2_2
  · exact q5_2_3
  · exact q5_2_4
  · exact q5_2_5
  · exact q5_2_6
  · exact q5_2_7
  · exact q5_2_8
theorem q5_3 : ((comps 4 (18 - (3 + 1))).all fun D => ck8 ((3 + 1) :: D)) = true := comps_all (p := fun D => ck8 ((3 + 1) :: D)) fun e he hg => by
  have h : e = 0 ∨ e = 1 ∨ e = 2 ∨ e = 3 ∨ e = 4 ∨ e = 5 ∨ e = 6 ∨ e = 7 ∨ e = 8 := by omega
  rcases h with rfl | rfl | rfl | rfl | rfl | rfl | rfl | rfl | rfl
  · exact q5_3_0
  · exact q5_3_1
  · exact q5_3_2
  · exact q5_3_3
  · exact q5_3_4
  · exact q5_3_5
  · exact q5_3_6
  · exact q5_3_7
  · exact q5_3_8
theorem q5_4 : ((comps 4 (18 - (4 + 1))).all fun D => ck8 ((4 + 1) :: D)) = true := comps_all (p := fun D => ck8 ((4 + 1) :: D)) fun e he hg => by
  have h : e = 0 ∨ e = 1 ∨ e = 2 ∨ e = 3 ∨ e = 4 ∨ e = 5 ∨ e = 6 ∨ e = 7 ∨ e = 8 := by omega
  rcases h with rfl | rfl | rfl | rfl | rfl | rfl | rfl | rfl | rfl
  · exact q5_4_0
  · exact q5_4_1
  · exact q5_4_2
  · exact q5_4_3
  · exact q5_4_4
  · exact q5_4_5
  · exact q5_4_6
  · exact q5_4_7
  · exact q5_4_8
theorem q5_5 : ((comps 4 (18 - (5 + 1))).all fun D => ck8 ((5 + 1) :: D)) = true := comps_all (p := fun D => ck8 ((5 + 1) :: D)) fun e he hg => by
  have h : e = 0 ∨ e = 1 ∨ e = 2 ∨ e = 3 ∨ e = 4 ∨ e = 5 ∨ e = 6 ∨ e = 7 ∨ e = 8 := by omega
  rcases h with rfl | rfl | rfl | rfl | rfl | rfl | rfl | rfl | rfl
  · exact q5_5_0
  · exact q5_5_1
  · exact q5_5_2
  · exact q5_5_3
  · exact q5_5_4
  · exact q5_5_5
  · exact q5_5_6
  · exact q5_5_7
  · exact q5_5_8
theorem q5_6 : ((comps 4 (18 - (6 + 1))).all fun D => ck8 ((6 + 1) :: D)) = true := comps_all (p := fun D => ck8 ((6 + 1) :: D)) fun e he hg => by
  have h : e = 0 ∨ e = 1 ∨ e = 2 ∨ e = 3 ∨ e = 4 ∨ e = 5 ∨ e = 6 ∨ e = 7 := by omega
  rcases h with rfl | rfl | rfl | rfl | rfl | rfl | rfl | rfl
  · exact q5_6_0
  · exact q5_6_1
  · exact q5_6_2
  · exact q5_6_3
  · exact q5_6_4
  · exact q5_6_5
  · exact q5_6_6
  · exact q5_6_7
theorem q5_7 : ((comps 4 (18 - (7 + 1))).all fun D => ck8 ((7 + 1) :: D)) = true := comps_all (p := fun D => ck8 ((7 + 1) :: D)) fun e he hg => by
  have h : e = 0 ∨ e = 1 ∨ e = 2 ∨ e = 3 ∨ e = 4 ∨ e = 5 ∨ e = 6 := by omega
  rcases h with rfl | rfl | rfl | rfl | rfl | rfl | rfl
  · exact q5_7_0
  · exact q5_7_1
  · exact q5_7_2
  · exact q5_7_3
  · exact q5_7_4
  · exact q5_7_5
  · exact q5_7_6
theorem q5_8 : ((comps 4 (18 - (8 + 1))).all fun D => ck8 ((8 + 1) :: D)) = true := comps_all (p := fun D => ck8 ((8 + 1) :: D)) fun e he hg => by
  have h : e = 0 ∨ e = 1 ∨ e = 2 ∨ e = 3 ∨ e = 4 ∨ e = 5 := by omega
  rcases h with rfl | rfl | rfl | rfl | rfl | rfl
  · exact q5_8_0
  · exact q5_8_1
  · exact q5_8_2
  · exact q5_8_3
  · exact q5_8_4
  · exact q5_8_5
theorem q5 : (comps 5 18).all ck8 = true := comps_all fun d hd hg => by
  have h : d = 0 ∨ d = 1 ∨ d = 2 ∨ d = 3 ∨ d = 4 ∨ d = 5 ∨ d = 6 ∨ d = 7 ∨ d = 8 := by omega
  rcases h with rfl | rfl | rfl | rfl | rfl | rfl | rfl | rfl | rfl
  · exact q5_0
  · exact q5_1
  · exact q5_2
  · exact q5_3
  · exact q5_4
  · exact q5_5
  · exact q5_6
  · exact q5_7
  · exact q5_8
theorem divide_ok (D : List Nat) (E : Nat) (h2 : 2 ≤ D.length) (h5 : D.length ≤ 5) (hD : ∀ x ∈ D, 1 ≤ x ∧ x ≤ 9) (hE : E ≤ 9) (hs : D.sum = 2 * E) :
    m8 2000 (E : Int) (.lst false D.length (nL D)) = some (.tup [.lst false D.length (nL (D.map (60 * ·))), .int .i64 0]) := by
  have m := comps_mem D 18 hD (by omega)
  have q : ck8 D = true := by
    have h : D.length = 2 ∨ D.length = 3 ∨ D.length = 4 ∨ D.length = 5 := by omega
    rcases h with h | h | h | h
    · rw [h] at m; exact List.all_eq_true.1 q2 D m
    · rw [h] at m; exact List.all_eq_true.1 q3 D m
    · rw [h] at m; exact List.all_eq_true.1 q4 D m
    · rw [h] at m; exact List.all_eq_true.1 q5 D m
  unfold ck8 at q
  rw [hs, show 2 * E % 2 = 0 by omega, show 2 * E / 2 = E by omega] at q
  have e := isD_ok (by simpa using q)
  rw [List.length_map] at e
  exact e
def ups (k X : Nat) : List Nat := (List.range k).filter fun c => X.testBit c
theorem mem5 : ((List.range 6).all fun k => (List.range (2 ^ k)).all fun X => isL (m31 2000 (X : Int)) (ups k X)) = true := by kernel_rfl
theorem mem9 : ((List.range 10).all fun e => isL (m31 2000 ((2 ^ e - 1 : Nat) : Int)) (List.range e)) = true := by kernel_rfl
theorem members_ok {k X : Nat} (hk : k ≤ 5) (hX : X < 2 ^ k) : m31 2000 (X : Int) = some (.lst false (ups k X).length (nL (ups k X))) :=
  isL_ok (List.all_eq_true.1 (List.all_eq_true.1 mem5 k (List.mem_range.2 (by omega))) X (List.mem_range.2 hX))
theorem streets_ok {e : Nat} (he : e ≤ 9) : m31 2000 ((2 ^ e - 1 : Nat) : Int) = some (.lst false e (nL (List.range e))) := by
  have h := isL_ok (List.all_eq_true.1 mem9 e (List.mem_range.2 (by omega)))
  rw [List.length_range] at h
  exact h
theorem ands : ((List.range 32).all fun x => (List.range 32).all fun y => decide (bitsI .and .u64 (x : Int) (y : Int) = ((x &&& y : Nat) : Int))) = true := by kernel_rfl
theorem ors : ((List.range 32).all fun x => (List.range 32).all fun y => decide (bitsI .or .u64 (x : Int) (y : Int) = ((x ||| y : Nat) : Int))) = true := by kernel_rfl
theorem xors : ((List.range 32).all fun x => (List.range 32).all fun y => decide (bitsI .xor .u64 (x : Int) (y : Int) = ((x ^^^ y : Nat) : Int))) = true := by kernel_rfl
theorem two (p : Nat → Nat → Prop) [∀ x y, Decidable (p x y)] (n : Nat) (h : ((List.range n).all fun x => (List.range n).all fun y => decide (p x y)) = true) {x y : Nat} (hx : x < n) (hy : y < n) : p x y :=
  of_decide_eq_true (List.all_eq_true.1 (List.all_eq_true.1 h x (List.mem_range.2 hx)) y (List.mem_range.2 hy))
theorem and_ok {x y : Nat} (hx : x < 32) (hy : y < 32) : bitsI .and .u64 (x : Int) (y : Int) = ((x &&& y : Nat) : Int) := two (fun x y => bitsI .and .u64 (x : Int) (y : Int) = ((x &&& y : Nat) : Int)) 32 ands hx hy
theorem or_ok {x y : Nat} (hx : x < 32) (hy : y < 32) : bitsI .or .u64 (x : Int) (y : Int) = ((x ||| y : Nat) : Int) := two (fun x y => bitsI .or .u64 (x : Int) (y : Int) = ((x ||| y : Nat) : Int)) 32 ors hx hy
theorem xor_ok {x y : Nat} (hx : x < 32) (hy : y < 32) : bitsI .xor .u64 (x : Int) (y : Int) = ((x ^^^ y : Nat) : Int) := two (fun x y => bitsI .xor .u64 (x : Int) (y : Int) = ((x ^^^ y : Nat) : Int)) 32 xors hx hy
def bt (s : Nat × Nat) : Nat := 2 ^ s.1 ||| 2 ^ s.2
theorem bts : ((List.range 5).all fun a => (List.range 5).all fun b => decide (bitsI .or .u64 (IntKind.u64.wrap (1 * 2 ^ (min a 64))) (IntKind.u64.wrap (1 * 2 ^ (min b 64))) = ((bt (a, b) : Nat) : Int))) = true := by kernel_rfl
theorem bt_ok {a b : Nat} (ha : a < 5) (hb : b < 5) : bitsI .or .u64 (IntKind.u64.wrap (1 * 2 ^ (min a 64))) (IntKind.u64.wrap (1 * 2 ^ (min b 64))) = ((bt (a, b) : Nat) : Int) := two (fun a b => bitsI .or .u64 (IntKind.u64.wrap (1 * 2 ^ (min a 64))) (IntKind.u64.wrap (1 * 2 ^ (min b 64))) = ((bt (a, b) : Nat) : Int)) 5 bts ha hb
theorem fulls : ((List.range 10).all fun e => decide (IntKind.u64.wrap ((IntKind.u64.wrap (1 * 2 ^ (min e 64))) - 1) = ((2 ^ e - 1 : Nat) : Int))) = true := by kernel_rfl
theorem full_ok {e : Nat} (he : e ≤ 9) : IntKind.u64.wrap ((IntKind.u64.wrap (1 * 2 ^ (min e 64))) - 1) = ((2 ^ e - 1 : Nat) : Int) := of_decide_eq_true (List.all_eq_true.1 fulls e (List.mem_range.2 (by omega)))
end Go.Proofs.YtdnfffmppppoeaaDoor
namespace Go.Proofs.YtdnfffmppppoeaaDoor
open Go.V
theorem bt_bit (s : Nat × Nat) (c : Nat) : (bt s).testBit c = (decide (s.1 = c) || decide (s.2 = c)) := by
  unfold bt; rw [Nat.testBit_or, Nat.testBit_two_pow, Nat.testBit_two_pow]
theorem bt_lt {s : Nat × Nat} {k : Nat} (h1 : s.1 < k) (h2 : s.2 < k) : bt s < 2 ^ k :=
  Nat.or_lt_two_pow (Nat.pow_lt_pow_right (by omega) h1) (Nat.pow_lt_pow_right (by omega) h2)
theorem pow32 {k : Nat} (hk : k ≤ 5) : 2 ^ k ≤ 32 := Nat.pow_le_pow_right (n := 2) (by omega) hk
theorem m40_ok (N : Nat) {s : Nat × Nat} (h1 : s.1 < 5) (h2 : s.2 < 5) : m40 N (.agg [.int .i64 (s.1 : Int), .int .i64 (s.2 : Int)]) = some (.int .u64 (bt s : Int)) := by
  rw [m40, getA2_t, getI_t, grd_t (by omega), getI_t, grd_t (by omega), toNatN, toNatN, bt_ok h1 h2]
def rS (x : Nat) (s : Nat × Nat) : Nat := if x &&& bt s ≠ 0 then x ||| bt s else x
theorem rS_lt {k x : Nat} {s : Nat × Nat} (hx : x < 2 ^ k) (h1 : s.1 < k) (h2 : s.2 < k) : rS x s < 2 ^ k := by
  unfold rS; split
  · exact Nat.or_lt_two_pow hx (bt_lt h1 h2)
  · exact hx
theorem rS_mono {x : Nat} {s : Nat × Nat} {c : Nat} (h : x.testBit c = true) : (rS x s).testBit c = true := by
  unfold rS; split
  · rw [Nat.testBit_or, h]; rfl
  · exact h
theorem rS_new {x : Nat} {s : Nat × Nat} (h : x.testBit s.1 = true) : (rS x s).testBit s.2 = true := by
  unfold rS
  rw [if_pos]
  · rw [Nat.testBit_or, bt_bit]; simp
  · intro e
    have := congrArg (fun y => Nat.testBit y s.1) e
    simp only [Nat.testBit_and, h, bt_bit, Nat.zero_testBit] at this
    simp at this
theorem full_bits {k x : Nat} (hx : x < 2 ^ k) (h : ∀ c, c < k → x.testBit c = true) : x = 2 ^ k - 1 := by
  apply Nat.eq_of_testBit_eq
  intro c
  rw [Nat.testBit_two_pow_sub_one]
  by_cases g : c < k
  · rw [h c g, decide_eq_true g]
  · rw [Nat.testBit_lt_two_pow (Nat.lt_of_lt_of_le hx (Nat.pow_le_pow_right (by omega) (by omega))), decide_eq_false g]
theorem full_bit {k c : Nat} (h : c < k) : (2 ^ k - 1).testBit c = true := by
  rw [Nat.testBit_two_pow_sub_one, decide_eq_true h]
theorem fold_lt {k : Nat} : ∀ (T : List (Nat × Nat)) (x : Nat), x < 2 ^ k → (∀ s ∈ T, s.1 < s.2 ∧ s.2 < k) → T.foldl rS x < 2 ^ k
  | [], x, hx, _ => hx
  | s :: T, x, hx, h => by
    have := h s (.head _)
    exact fold_lt T _ (rS_lt hx (by omega) (by omega)) fun y hy => h y (.tail _ hy)
theorem fold_mono : ∀ (T : List (Nat × Nat)) (x c : Nat), x.testBit c = true → (T.foldl rS x).testBit c = true
  | [], _, _, h => h
  | s :: T, x, c, h => fold_mono T _ c (rS_mono h)
theorem fold_tree {k : Nat} {S : List (Nat × Nat)} (g : Gm k S) : ∀ i, i < k → ∀ c, c ≤ i → ((S.take i).foldl rS 1).testBit c = true
  | 0, _, c, h => by
    rw [show c = 0 by omega, List.take_zero]; rfl
  | i + 1, hi, c, h => by
    obtain ⟨p, hp, e⟩ := g.tree (i + 1) (by omega) hi
    rw [Nat.add_sub_cancel] at e
    have ih := fold_tree g i (by omega)
    rw [List.take_add_one, e, List.foldl_append]
    show (rS _ (p, i + 1)).testBit c = true
    by_cases h' : c ≤ i
    · exact rS_mono (ih c h')
    · rw [show c = i + 1 by omega]
      exact rS_new (s := (p, i + 1)) (ih p (by show p ≤ i; omega))
theorem fold_full {k : Nat} {S : List (Nat × Nat)} (g : Gm k S) (hk : 2 ≤ k) : S.foldl rS 1 = 2 ^ k - 1 := by
  refine full_bits (fold_lt S 1 (Nat.one_lt_two_pow (by omega)) g.ok) fun c hc => ?_
  rw [← List.take_append_drop (k - 1) S, List.foldl_append]
  exact fold_mono _ _ _ (fold_tree g (k - 1) (by omega) c (by omega))
theorem fold_stay {k : Nat} (T : List (Nat × Nat)) (h : ∀ s ∈ T, s.1 < s.2 ∧ s.2 < k) : T.foldl rS (2 ^ k - 1) = 2 ^ k - 1 :=
  full_bits (fold_lt T _ (by have := Nat.one_le_two_pow (n := k); omega) h) fun c hc => fold_mono _ _ _ (full_bit hc)
theorem getN_nl {α : Type} {k1 : Option α} {k2 : Nat → List PV → Option α} : getN .nl k1 k2 = k1 := rfl
theorem m39L1 (N k : Nat) (hk : k ≤ 5) (p : PV) (x0 : Int) (S : List (Nat × Nat)) (hS : ∀ s ∈ S, s.1 < s.2 ∧ s.2 < k) : ∀ (T : List (Nat × Nat)) (i fuel x : Nat), S.drop i = T → T.length < fuel → i + T.length ≤ 100 → x < 2 ^ k →
    m39_L1 N p x0 S.length (fl S) fuel .nl (x : Int) (i : Int) = some (.nl, ((T.foldl rS x : Nat) : Int))
  | [], i, fu + 1, x, h, _, _, _ => by
    have := drop_end h
    rw [m39_L1, brn_df (by omega)]
    rfl
  | [], i, 0, x, h, hf, _, _ => by simp at hf
  | s :: T, i, 0, x, h, hf, _, _ => by simp at hf
  | s :: T, i, fu + 1, x, h, hf, hi, hx => by
    have hl := drop_lt h
    have lf := fl_len S
    obtain ⟨h1, h2⟩ := hS s (drop_mem h)
    have p5 := pow32 hk
    have hb := bt_lt (s := s) (k := k) (by omega) h2
    simp only [List.length_cons] at hf hi
    have ih := m39L1 N k hk p x0 S hS T (i + 1) fu (rS x s) (drop_next h) (by omega) (by omega) (rS_lt hx (by omega) h2)
    rw [m39_L1, brn_dt (by omega), grd_t ⟨by omega, by omega⟩, grd_t (by rw [List.length_drop, lf, toNatN]; omega), fl_two h, getA2_t, getN_nl, m40_ok N (by omega) (by omega), bnd_t, getI_t, and_ok (by omega) (by omega), wrapN (by omega), List.foldl_cons, ← ih]
    unfold rS
    by_cases g : x &&& bt s = 0
    · rw [brn_nf (by omega), if_neg (by simpa using g)]
    · rw [brn_nt (by omega), if_pos g, bnd_t, getI_t, or_ok (by omega) (by omega)]
theorem reach_ok (N : Nat) (hN : 2000 ≤ N) (k : Nat) (hk : k ≤ 5) (hk2 : 2 ≤ k) (S : List (Nat × Nat)) (g : Gm k S) : m39 N (.agg [.int .i64 (k : Int), .lst false S.length (fl S)]) 1 .nl = some (.int .u64 ((2 ^ k - 1 : Nat) : Int)) := by
  have hl := g.len
  have k4 : 4 ≤ 2 ^ k := Nat.pow_le_pow_right (n := 2) (by omega) hk2
  obtain ⟨n, rfl⟩ : ∃ n, N = n + 2 := ⟨N - 2, by omega⟩
  have e1 := m39L1 (n + 2) k hk (.int .i64 (k : Int)) 1 S g.ok S 0 (n + 2) 1 rfl (by omega) (by omega) (by omega)
  have e2 := m39L1 (n + 2) k hk (.int .i64 (k : Int)) ((2 ^ k - 1 : Nat) : Int) S g.ok S 0 (n + 2) (2 ^ k - 1) rfl (by omega) (by omega) (by omega)
  rw [fold_full g hk2] at e1
  rw [fold_stay S g.ok] at e2
  rw [m39, getA2_t, m39_L0, getL_t]
  rw [show m39_L1 (n + 2) (.int .i64 (k : Int)) 1 S.length (fl S) (n + 2) .nl 1 0 = _ from e1, bnd_t]
  show bnd' (brn _ _ _) _ = _
  rw [brn_ef (by omega), m39_L0, getL_t]
  rw [show m39_L1 (n + 2) (.int .i64 (k : Int)) ((2 ^ k - 1 : Nat) : Int) S.length (fl S) (n + 2) .nl ((2 ^ k - 1 : Nat) : Int) 0 = _ from e2, bnd_t]
  show bnd' (brn _ _ _) _ = _
  rw [brn_et rfl, bnd_t]
theorem m41_ok (N : Nat) {x k : Nat} (h : x < k) : m41 N (x : Int) (k : Int) = some (.bool false) := by
  rw [m41, brn_df (by omega), decide_eq_false (by omega)]
theorem m30L0 (N k : Nat) (S : List (Nat × Nat)) (hS : ∀ s ∈ S, s.1 < s.2 ∧ s.2 < k) : ∀ (T : List (Nat × Nat)) (i fuel : Nat), S.drop i = T → T.length < fuel → i + T.length ≤ 100 →
    m30_L0 N k S.length (fl S) fuel (i : Int) = some (.inr ())
  | [], i, fu + 1, h, _, _ => by
    have := drop_end h
    rw [m30_L0, brn_df (by omega)]
  | [], i, 0, h, hf, _ => by simp at hf
  | s :: T, i, 0, h, hf, _ => by simp at hf
  | s :: T, i, fu + 1, h, hf, hi => by
    have hl := drop_lt h
    have lf := fl_len S
    obtain ⟨h1, h2⟩ := hS s (drop_mem h)
    simp only [List.length_cons] at hf hi
    rw [m30_L0, brn_dt (by omega), grd_t ⟨by omega, by omega⟩, grd_t (by rw [List.length_drop, lf, toNatN]; omega), fl_two h, getA2_t, getI_t, m41_ok N (by omega), bnd_t, getB_t, brn_f rfl, getI_t, m41_ok N h2, bnd_t, getB_t, brn_f rfl, brn_df (by omega), wrapN (by omega)]
    exact m30L0 N k S hS T (i + 1) fu (drop_next h) (by omega) (by omega)
theorem check_ok (N : Nat) (hN : 2000 ≤ N) (k : Nat) (hk : k ≤ 5) (hk2 : 2 ≤ k) (S : List (Nat × Nat)) (g : Gm k S) : m30 N (.agg [.int .i64 (k : Int), .lst false S.length (fl S)]) = some (.int .i64 0) := by
  have hl := g.len
  have e := m30L0 N k S g.ok S 0 N rfl (by omega) (by omega)
  rw [m30, getA2_t, getI_t, brn_df (by omega), brn_df (by omega), getL_t, brn_df (by omega)]
  rw [show m30_L0 N k S.length (fl S) N 0 = _ from e, bnd_t]
  show bnd' _ _ = _
  rw [reach_ok N hN k hk hk2 S g, bnd_t, getI_t, grd_t (by omega), toNatN, full_ok (by omega), brn_nf rfl]
def xS (x : Nat) (s : Nat × Nat) : Nat := x ^^^ bt s
theorem xS_lt {k : Nat} : ∀ (T : List (Nat × Nat)) (x : Nat), x < 2 ^ k → (∀ s ∈ T, s.1 < s.2 ∧ s.2 < k) → T.foldl xS x < 2 ^ k
  | [], x, hx, _ => hx
  | s :: T, x, hx, h => by
    have := h s (.head _)
    exact xS_lt T _ (Nat.xor_lt_two_pow hx (bt_lt (by omega) (by omega))) fun y hy => h y (.tail _ hy)
theorem xS_bit : ∀ (T : List (Nat × Nat)) (x c : Nat), (∀ s ∈ T, s.1 < s.2) → (T.foldl xS x).testBit c = (x.testBit c ^^ decide (dg T c % 2 = 1))
  | [], x, c, _ => by simp [dg]
  | s :: T, x, c, h => by
    have h1 := h s (.head _)
    rw [List.foldl_cons, xS_bit T _ c fun y hy => h y (.tail _ hy), dg]
    unfold xS
    rw [Nat.testBit_xor, bt_bit]
    by_cases e : c = s.1 ∨ c = s.2
    · have eb : (decide (s.1 = c) || decide (s.2 = c)) = true := by
        rcases e with q | q
        · rw [decide_eq_true q.symm]; rfl
        · rw [decide_eq_true q.symm, Bool.or_true]
      rw [if_pos e, eb]
      by_cases q : dg T c % 2 = 1
      · rw [decide_eq_true q, decide_eq_false (show ¬ (1 + dg T c) % 2 = 1 by omega)]; simp
      · rw [decide_eq_false q, decide_eq_true (show (1 + dg T c) % 2 = 1 by omega)]; simp
    · rw [if_neg e, show (decide (s.1 = c) || decide (s.2 = c)) = false by
        simp only [Bool.or_eq_false_iff, decide_eq_false_iff_not]
        exact ⟨fun q => e (.inl q.symm), fun q => e (.inr q.symm)⟩, Nat.zero_add]
      simp
theorem m62L0 (N k : Nat) (hk : k ≤ 5) (p : PV) (S : List (Nat × Nat)) (hS : ∀ s ∈ S, s.1 < s.2 ∧ s.2 < k) : ∀ (T : List (Nat × Nat)) (i fuel x : Nat), S.drop i = T → T.length < fuel → i + T.length ≤ 100 → x < 2 ^ k →
    m62_L0 N p S.length (nL (List.range S.length)) fuel (x : Int) (i : Int) (.lst false S.length (fl S)) = some ((T.foldl xS x : Nat) : Int)
  | [], i, fu + 1, x, h, _, _, _ => by
    have := drop_end h
    rw [m62_L0, brn_df (by omega)]
    rfl
  | [], i, 0, x, h, hf, _, _ => by simp at hf
  | s :: T, i, 0, x, h, hf, _, _ => by simp at hf
  | s :: T, i, fu + 1, x, h, hf, hi, hx => by
    have hl := drop_lt h
    have lf := fl_len S
    obtain ⟨h1, h2⟩ := hS s (drop_mem h)
    have p5 := pow32 hk
    have hb := bt_lt (s := s) (k := k) (by omega) h2
    simp only [List.length_cons] at hf hi
    have ln : (nL (List.range S.length)).length = S.length := by rw [nL_len, List.length_range]
    have en : nn (List.range S.length) i = i := by simp [nn, List.getD, hl]
    rw [m62_L0, brn_dt (by omega), grd_t ⟨by omega, by omega⟩, grd_t (by rw [List.length_drop, ln, toNatN]; omega), gN_n (by rw [List.length_range]; omega), en, getL_t, grd_t ⟨by omega, by omega⟩, grd_t (by rw [List.length_drop, lf, toNatN]; omega), fl_two h, getA2_t, m40_ok N (by omega) (by omega), bnd_t, getI_t, xor_ok (by omega) (by omega), wrapN (by omega)]
    exact m62L0 N k hk p S hS T (i + 1) fu (x ^^^ bt s) (drop_next h) (by omega) (by omega) (Nat.xor_lt_two_pow hx hb)
def odds (S : List (Nat × Nat)) (k : Nat) : List Nat := (List.range k).filter fun c => decide (dg S c % 2 = 1)
theorem odd_ok (k : Nat) (hk : k ≤ 5) (hk2 : 2 ≤ k) (S : List (Nat × Nat)) (g : Gm k S) : m9 2000 (.agg [.int .i64 (k : Int), .lst false S.length (fl S)]) = some (.tup [.lst false (odds S k).length (nL (odds S k)), .int .i64 0]) := by
  have hl := g.len
  have k4 : 4 ≤ 2 ^ k := Nat.pow_le_pow_right (n := 2) (by omega) hk2
  have e := m62L0 2000 k hk (.int .i64 (k : Int)) S g.ok S 0 2000 0 rfl (by omega) (by omega) (by omega)
  have lt := xS_lt S 0 (show 0 < 2 ^ k by omega) g.ok
  have u : ups k (S.foldl xS 0) = odds S k := by
    unfold ups odds
    refine List.filter_congr fun c _ => ?_
    rw [xS_bit S 0 c fun s hs => (g.ok s hs).1]
    simp
  have m := members_ok hk lt
  rw [u] at m
  rw [m9, getA2_t, check_ok 2000 (by omega) k hk hk2 S g, bnd_t, getI_t, brn_nf rfl, m32, getA2_t, getL_t, grd_t (by omega), full_ok hl, m62, getA2_t, streets_ok hl, bnd_t, getL_t]
  rw [show m62_L0 2000 (.int .i64 (k : Int)) S.length (nL (List.range S.length)) 2000 0 0 (.lst false S.length (fl S)) = _ from e, bnd_t, bnd_t, getI_t, bnd_t, getI_t, m, bnd_t, getL_t]
theorem m3L1 (N k : Nat) (hk : k ≤ 5) (S : List (Nat × Nat)) (hl : S.length ≤ 9) (n1 : Nat) (c1 : List PV) : ∀ (r c fuel : Nat), k - c = r → c ≤ k → r < fuel →
    m3_L1 N k (nL (tF (dg S) k)) k (nL ((tF (dg S) k).map (60 * ·))) n1 c1 fuel (odds S c).length (c : Int) (nL (odds S c)) = some (.inr ((odds S k).length, nL (odds S k)))
  | r, c, 0, _, _, h => by omega
  | r, c, fu + 1, hr, h1, hf => by
    rw [m3_L1, toNatN]
    by_cases h : c < k
    · have d9 := dg_le S c
      have l1 : (nL (tF (dg S) k)).length = k := by rw [nL_len, tF_len]
      have l2 : (nL ((tF (dg S) k).map (60 * ·))).length = k := by rw [nL_len, List.length_map, tF_len]
      have e2 : nn ((tF (dg S) k).map (60 * ·)) c = 60 * dg S c := by simp [nn, tF, List.getD, h]
      have lo : (odds S c).length ≤ c := by
        unfold odds
        refine Nat.le_trans (List.length_filter_le _ _) ?_
        rw [List.length_range]; omega
      have os : odds S (c + 1) = odds S c ++ (if dg S c % 2 = 1 then [c] else []) := by
        unfold odds
        rw [List.range_succ, List.filter_append]
        congr 1
        by_cases q : dg S c % 2 = 1 <;> simp [q]
      have ih := m3L1 N k hk S hl n1 c1 (r - 1) (c + 1) fu (by omega) (by omega) (by omega)
      rw [brn_dt (by omega), grd_t ⟨by omega, by omega⟩, grd_t (by rw [List.length_drop, l1, toNatN]; omega), gN_n (by rw [tF_len]; omega), nn_tF h, grd_t (by omega), grd_t (by rw [List.length_drop, l2, toNatN]; omega), gN_n (by rw [List.length_map, tF_len]; omega), e2, wrap64 (n := 60 * ((dg S c : Nat) : Int)) (by omega) (by omega), brn_nf (by omega), grd_t (by omega), show Int.tmod ((dg S c : Nat) : Int) 2 = ((dg S c % 2 : Nat) : Int) from rfl, wrapN (by omega), nL_app]
      by_cases q : dg S c % 2 = 1
      · rw [brn_et (by omega), grd_t (by omega), grd_t (nL_len _)]
        rw [os, if_pos q, List.length_append] at ih
        exact ih
      · rw [brn_ef (by omega)]
        rw [os, if_neg q, List.append_nil] at ih
        exact ih
    · rw [brn_df (by omega), show c = k by omega]
theorem same_L (N : Nat) (X : List Nat) (hX : X.length ≤ 1000) : ∀ (r i fuel : Nat), X.length - i = r → r < fuel → m10_L0 N X.length (nL X) X.length (nL X) fuel (i : Int) = some (.inr ())
  | r, i, 0, _, h => by omega
  | r, i, f + 1, h1, h2 => by
    have lX := nL_len X
    rw [m10_L0]
    by_cases h : i < X.length
    · rw [brn_dt (by omega), grd_t ⟨by omega, by omega⟩, grd_t (by rw [List.length_drop, lX, toNatN]; omega), gN_n h, grd_t (by omega), grd_t (by rw [List.length_drop, lX, toNatN]; omega), gN_n h, brn_nf rfl, wrapN (by omega)]
      exact same_L N X hX (r - 1) (i + 1) f (by omega) (by omega)
    · rw [brn_df (by omega)]
theorem same_ok (N : Nat) (hN : 2000 ≤ N) (X : List Nat) (hX : X.length ≤ 1000) : m10 N (.lst false X.length (nL X)) (.lst false X.length (nL X)) = some (.bool true) := by
  rw [m10, getL_t, getL_t, brn_nf rfl, show m10_L0 N X.length (nL X) X.length (nL X) N 0 = _ from same_L N X hX X.length 0 N rfl (by omega)]
  rfl
def one (a c : Nat) : Nat := if c = a then 1 else 0
theorem tF_sum (d : Nat → Nat) : ∀ k, (tF d (k + 1)).sum = (tF d k).sum + d k := fun k => by
  unfold tF; rw [List.range_succ, List.map_append, List.sum_append]; simp
theorem one_sum {a : Nat} : ∀ k, (tF (one a) k).sum = if a < k then 1 else 0
  | 0 => rfl
  | k + 1 => by
    rw [tF_sum, one_sum k]
    unfold one
    by_cases h : k = a
    · rw [if_pos h, if_neg (by omega), if_pos (by omega)]
    · rw [if_neg h]
      by_cases g : a < k
      · rw [if_pos g, if_pos (by omega)]
      · rw [if_neg g, if_neg (by omega)]
theorem sum_add (d e : Nat → Nat) : ∀ k, (tF (fun c => d c + e c) k).sum = (tF d k).sum + (tF e k).sum
  | 0 => rfl
  | k + 1 => by rw [tF_sum, tF_sum, tF_sum, sum_add d e k]; omega
theorem dg_sum (k : Nat) : ∀ (S : List (Nat × Nat)), (∀ s ∈ S, s.1 < s.2 ∧ s.2 < k) → (tF (dg S) k).sum = 2 * S.length
  | [], _ => by
    have : ∀ k, (tF (dg []) k).sum = 0 := fun k => by
      induction k with
      | zero => rfl
      | succ k ih => rw [tF_sum, ih]; rfl
    rw [this]; rfl
  | s :: S, h => by
    have h1 := h s (.head _)
    have ih := dg_sum k S fun y hy => h y (.tail _ hy)
    have e : tF (dg (s :: S)) k = tF (fun c => (one s.1 c + one s.2 c) + dg S c) k := tF_congr fun c _ => by
      rw [dg]
      unfold one
      by_cases e1 : c = s.1
      · rw [if_pos (.inl e1), if_pos e1, if_neg (by omega)]
      · by_cases e2 : c = s.2
        · rw [if_pos (.inr e2), if_neg e1, if_pos e2]
        · rw [if_neg (fun q => q.elim e1 e2), if_neg e1, if_neg e2]
    rw [e, sum_add, sum_add, one_sum, one_sum, if_pos (by omega), if_pos (by omega), ih, List.length_cons]; omega
theorem dg_all {k : Nat} {S : List (Nat × Nat)} (g : Gm k S) (hk2 : 2 ≤ k) : ∀ x ∈ tF (dg S) k, 1 ≤ x ∧ x ≤ 9 := fun x hx => by
  obtain ⟨c, hc, rfl⟩ := List.mem_map.1 hx
  have hc' := List.mem_range.1 hc
  have := dg_le S c
  have := g.len
  refine ⟨?_, by omega⟩
  by_cases h : c = 0
  · subst h
    obtain ⟨p, hp, e⟩ := g.tree 1 (by omega) (by omega)
    exact dg_pos (List.mem_of_getElem? e) (.inl (by show 0 = p; omega))
  · obtain ⟨p, hp, e⟩ := g.tree c (by omega) hc'
    exact dg_pos (List.mem_of_getElem? e) (.inr rfl)
theorem law3 (a st f0 f1 f2 f3 f4 f5 f6 f7 : Nat) (G : List Nat) (ha : a < 256) (hst : st < 256) (hF : ∀ i, nn [f0, f1, f2, f3, f4, f5, f6, f7] i < 256) (hG : G.length = 16) (hGb : ∀ i, nn G i < 256) :
    m3 2000 (a : Int) (st : Int) (.agg [.int .u8 (f0 : Int), .int .u8 (f1 : Int), .int .u8 (f2 : Int), .int .u8 (f3 : Int), .int .u8 (f4 : Int), .int .u8 (f5 : Int), .int .u8 (f6 : Int), .int .u8 (f7 : Int)]) (.agg (uL G)) = some (.bool true) := by
  have lu := uL_len G
  have a4 : a % 4 < 4 := Nat.mod_lt _ (by omega)
  have ek : IntKind.i64.wrap (2 + Int.tmod (IntKind.i64.wrap (a : Int)) 4) = ((2 + a % 4 : Nat) : Int) := by
    rw [wrapI (by omega), show Int.tmod (a : Int) 4 = ((a % 4 : Nat) : Int) from rfl, wrap64 (by omega) (by omega)]; omega
  have et : List.take 16 (uL G) = uL G := by rw [← hG, ← lu]; simp
  obtain ⟨S, e7, g⟩ := mapped_ok 2000 (2 + a % 4) f0 f1 f2 f3 f4 f5 f6 f7 G (by omega) (by omega) (by omega) hF hG hGb st
  have hl := g.len
  generalize hkk : 2 + a % 4 = k at ek e7 g
  have e0 := m3L0 2000 k S g.ok S 0 2000 (fun _ => 0) rfl (by omega) (by omega) hl (fun c => by omega)
  have ez : List.replicate k (PV.int .i64 0) = nL (tF (fun _ => 0) k) := by
    unfold nL tF
    rw [List.map_map]
    apply List.ext_getElem
    · simp
    · intro n h1 h2; simp
  have ed : tF (fun c => 0 + dg S c) k = tF (dg S) k := tF_congr fun c _ => Nat.zero_add _
  rw [ed] at e0
  have lD := tF_len (dg S) k
  have e8 := divide_ok (tF (dg S) k) S.length (by omega) (by omega) (dg_all g (by omega)) hl (dg_sum k S g.ok)
  have e9 := odd_ok k (by omega) (by omega) S g
  have e1 := m3L1 2000 k (by omega) S hl (odds S k).length (nL (odds S k)) k 0 2000 rfl (by omega) (by omega)
  have lo : (odds S k).length ≤ k := by
    unfold odds
    refine Nat.le_trans (List.length_filter_le _ _) ?_
    rw [List.length_range]; omega
  have e10 := same_ok 2000 (by omega) (odds S k) (by omega)
  rw [lD] at e8
  rw [m3, getA8_t, getA_t, grd_t (by omega), grd_t (by omega), ek, et, wrapI (n := st) (by omega), e7, bnd_t, getA2_t, getI_t, grd_t ⟨by omega, by omega, by omega⟩, getL_t, toNatN, ez]
  rw [show m3_L0 2000 k S.length (fl S) 2000 0 (nL (tF (fun _ => 0) k)) = _ from e0, bnd_t, grd_t (by rw [nL_len, lD]), e8, bnd_t, getT2_t, getL_t, getI_t, e9, bnd_t, getT2_t, getL_t, getI_t, brn_nf rfl, brn_nf rfl, brn_nf rfl]
  rw [show m3_L1 2000 k (nL (tF (dg S) k)) k (nL ((tF (dg S) k).map (60 * ·))) (odds S k).length (nL (odds S k)) 2000 0 0 [] = _ from e1, bnd_t]
  show grd _ _ = _
  rw [grd_t (nL_len _), e10, bnd_t, getB_t, brn_t rfl]
  rfl
theorem oct_of {x : List PV} (h : PT tab 5 x) : ∃ n : Nat, n < 256 ∧ x = [.int .u8 (n : Int)] := by
  obtain ⟨a, e, h1, h2⟩ := h.int' tl5 rfl
  have h1' : (0 : Int) ≤ a := h1
  have h2' : a ≤ 255 := h2
  exact ⟨a.toNat, by omega, by rw [e]; congr 2; omega⟩
theorem octs_of : ∀ (xs : List (List PV)), (∀ x ∈ xs, PT tab 5 x) → ∃ G : List Nat, xs.flatten = uL G ∧ G.length = xs.length ∧ ∀ y ∈ G, y < 256
  | [], _ => ⟨[], rfl, rfl, by simp⟩
  | x :: xs, h => by
    obtain ⟨n, hn, rfl⟩ := oct_of (h _ (.head _))
    obtain ⟨G, e, l, b⟩ := octs_of xs fun y hy => h y (.tail _ hy)
    exact ⟨n :: G, by rw [List.flatten_cons, e]; rfl, by simp [l], fun y hy => by
      rcases List.mem_cons.1 hy with rfl | hy
      · exact hn
      · exact b y hy⟩
theorem pairs_of : ∀ (xs : List (List PV)), (∀ x ∈ xs, PT tab 23 x) → ∃ G : List Nat, xs.flatten = uL G ∧ G.length = 2 * xs.length ∧ ∀ y ∈ G, y < 256
  | [], _ => ⟨[], rfl, rfl, by simp⟩
  | x :: xs, h => by
    obtain ⟨ys, rfl, hl, hys⟩ := (h x (.head _)).arr' tl23 rfl
    obtain ⟨A, e1, l1, b1⟩ := octs_of ys hys
    obtain ⟨G, e, l, b⟩ := pairs_of xs fun y hy => h y (.tail _ hy)
    exact ⟨A ++ G, by rw [List.flatten_cons, e, e1]; simp [uL], by simp [l, l1, hl]; omega, fun y hy => by
      rcases List.mem_append.1 hy with hy | hy
      · exact b1 y hy
      · exact b y hy⟩
theorem nn_lt {G : List Nat} (h : ∀ y ∈ G, y < 256) (i : Nat) : nn G i < 256 := by
  unfold nn
  by_cases g : i < G.length
  · rw [List.getD_eq_getElem?_getD, List.getElem?_eq_getElem g]
    exact h _ (List.getElem_mem g)
  · rw [List.getD_eq_getElem?_getD, List.getElem?_eq_none (by omega)]
    show 0 < 256
    omega
theorem con3 (x0 : PV) (h0 : PT tab 5 [x0]) (x1 : PV) (h1 : PT tab 5 [x1]) (x2 : List PV) (h2 : PT tab 22 x2) (x3 : List PV) (h3 : PT tab 24 x3) : FnP Tryd.prog 3 [x0, x1, .agg x2, .agg x3] (.bool true) := by
  obtain ⟨a, ha, e⟩ := oct_of h0
  cases e
  obtain ⟨st, hst, e⟩ := oct_of h1
  cases e
  obtain ⟨xs, rfl, hl, hxs⟩ := h2.arr' tl22 rfl
  obtain ⟨F, eF, lF, bF⟩ := octs_of xs hxs
  obtain ⟨ys, rfl, hl2, hys⟩ := h3.arr' tl24 rfl
  obtain ⟨G, eG, lG, bG⟩ := pairs_of ys hys
  rw [eF, eG]
  rw [hl] at lF
  match F, lF, bF with
  | [f0, f1, f2, f3, f4, f5, f6, f7], _, bF =>
    exact FnP_le (c3 2000 _ _ _ _ _ (law3 a st f0 f1 f2 f3 f4 f5 f6 f7 G ha hst (nn_lt bF) (by omega) (nn_lt bG))) (.cons _ _ _ _ (.refl _) (.cons _ _ _ _ (.refl _) (.cons _ _ _ _ (.refl _) (.cons _ _ _ _ (.refl _) .nil)))) (.refl _)
end Go.Proofs.YtdnfffmppppoeaaDoor
namespace Go.Proofs.YtdnfffmppppoeaaDoor.topTolls
open Go.ChangeShapes Go.WideShapes Go.ChangeAt Go.RowKit Go.V
theorem own : ownKnob Tryd.prog.godebug = none := by kernel_rfl
theorem laid : laidOutB Tryd.prog = true := by kernel_rfl
set_option maxRecDepth 100000 in
theorem lifted (os : Os) (started : os.Started) (H : Type) (enc : TypeId × Value → H) :
    ReturnsInHanded {} Tryd.checked os 3 .any (fun w args => (Rows.topTollsSpec.pre enc Tryd.prog Tryd.f3 [] false w args ∧ laidMetH Tryd.prog [("math/bits.deBruijn32tab", Rows.laid_math_bits_deBruijn32tab), ("math/bits.deBruijn64tab", Rows.laid_math_bits_deBruijn64tab)] w) ∧ sizedMet enc Tryd.prog Tryd.f3 (OpenSpec.ofChange Rows.topTollsSpec) false w args)
      (Rows.topTollsSpec.post enc Tryd.prog Tryd.f3 false true false false) := by
  refine returnsInHanded_of_change_and (C := Tryd.checked) (X := fun w _ => laidMetH Tryd.prog [("math/bits.deBruijn32tab", Rows.laid_math_bits_deBruijn32tab), ("math/bits.deBruijn64tab", Rows.laid_math_bits_deBruijn64tab)] w) (fun _ _ _ hh h => h.of_heap hh) own started (by kernel_rfl) Tryd.func3
    (ChangeSpec.witness_shaped (enc := enc) (C := Tryd.checked) (os := os) (X := fun w _ => laidMetH Tryd.prog [("math/bits.deBruijn32tab", Rows.laid_math_bits_deBruijn32tab), ("math/bits.deBruijn64tab", Rows.laid_math_bits_deBruijn64tab)] w) false (World.laidAll Tryd.prog os [("math/bits.deBruijn32tab", Rows.laid_math_bits_deBruijn32tab), ("math/bits.deBruijn64tab", Rows.laid_math_bits_deBruijn64tab)]) #[.int .u8 0, .int .u8 0, .agg #[.int .u8 0, .int .u8 0, .int .u8 0, .int .u8 0, .int .u8 0, .int .u8 0, .int .u8 0, .int .u8 0], .agg #[.int .u8 0, .int .u8 0, .int .u8 0, .int .u8 0, .int .u8 0, .int .u8 0, .int .u8 0, .int .u8 0, .int .u8 0, .int .u8 0, .int .u8 0, .int .u8 0, .int .u8 0, .int .u8 0, .int .u8 0, .int .u8 0]] 8 (World.laidAll_os _ _ _)
      (World.shaped_of_ZipB (by kernel_rfl) (by kernel_rfl)) (by kernel_rfl) (by kernel_rfl) (by kernel_rfl)
      (by rw [MakeChecks.laidMetH_plain _ _ _ (by kernel_rfl)]; exact laidMet_laidAll _ (by kernel_rfl) (by kernel_rfl))) ?_
  intro W base args ds gs before hval0 hW _ _ hL _
  have hW' := hW
  obtain ⟨p, q, hA0, hV, rfl, hfz, hnd⟩ := hW
  have hA : DataW.TrodAll enc Tryd.prog W 0 (fun _ => true) true Tryd.f3.params.toList args.toList ds p := hA0
  rw [Tryd.params3] at hA
  obtain ⟨v0, vs0, d0, ds0, p0, q0, e0, rfl, rfl, h0, hr0⟩ := trodAll_cons hA
  obtain ⟨v1, vs1, d1, ds1, p1, q1, e1, rfl, rfl, h1, hr1⟩ := trodAll_cons hr0
  obtain ⟨v2, vs2, d2, ds2, p2, q2, e2, rfl, rfl, h2, hr2⟩ := trodAll_cons hr1
  obtain ⟨v3, vs3, d3, ds3, p3, q3, e3, rfl, rfl, h3, hr3⟩ := trodAll_cons hr2
  obtain ⟨rfl, rfl, rfl⟩ := trodAll_nil hr3
  subst e3
  subst e2
  subst e1
  obtain rfl : args = #[v0, v1, v2, v3] := by cases args; simp_all
  obtain ⟨x0, k0, t0⟩ := arg_one (n := 8) tab_ok (hval0 0 5 v0 rfl rfl) h0 (by kernel_rfl) (by kernel_rfl)
  obtain ⟨x1, k1, t1⟩ := arg_one (n := 8) tab_ok (hval0 1 5 v1 rfl rfl) h1 (by kernel_rfl) (by kernel_rfl)
  obtain ⟨x2, k2, t2⟩ := arg_agg (n := 8) tab_ok (hval0 2 22 v2 rfl rfl) h2 (by kernel_rfl) (by kernel_rfl)
  obtain ⟨x3, k3, t3⟩ := arg_agg (n := 8) tab_ok (hval0 3 24 v3 rfl rfl) h3 (by kernel_rfl) (by kernel_rfl)
  obtain ⟨rfl, rfl⟩ := trodVars_none hV
  clear hA0 hval0
  simp only [List.append_nil] at hW'
  refine (FnP.calls (W := W) (vals := #[v0, v1, v2, v3]) (con3 x0 t0 x1 t1 x2 t2 x3 t3) (.cons _ _ _ _ k0 (.cons _ _ _ _ k1 (.cons _ _ _ _ k2 (.cons _ _ _ _ k3 .nil)))) (laidG hL)).mono fun e W' ⟨he, hg⟩ => ?_
  subst he
  exact ⟨_, rfl, post_of_kept (pv := []) hW' (fun _ _ _ => trodAll_cons_mk (shut_bool Tryd.underlying4 _) trodAll_mk0) (fun sp hsp => trodAll_cons_mk (Kept.trod hg laid (by kernel_rfl) (of_decide_eq_true (by kernel_rfl)) h0 (fun y hy => hsp y (by simp [hy]))) (trodAll_cons_mk (Kept.trod hg laid (by kernel_rfl) (of_decide_eq_true (by kernel_rfl)) h1 (fun y hy => hsp y (by simp [hy]))) (trodAll_cons_mk (Kept.trod hg laid (by kernel_rfl) (of_decide_eq_true (by kernel_rfl)) h2 (fun y hy => hsp y (by simp [hy]))) (trodAll_cons_mk (Kept.trod hg laid (by kernel_rfl) (of_decide_eq_true (by kernel_rfl)) h3 (fun y hy => hsp y (by simp [hy]))) (trodAll_mk0))))) (fun _ _ => rfl) (by simp)
    hg (ok_one (by kernel_rfl) rfl (okWide_bool_mk Tryd.underlying4 _))⟩
theorem over : Rows.topTollsRow.holds Tryd.pinned (OpenSpec.ofChange Rows.topTollsSpec) :=
  OpenClaim.holds_of_wide 3 Tryd.f3 rfl rfl rfl rfl rfl rfl rfl ⟨rfl, rfl, rfl, rfl, rfl⟩ rfl rfl rfl rfl rfl (by kernel_rfl) Tryd.func3 (by kernel_rfl)
    (of_decide_eq_true (by kernel_rfl)) (by unfold Func.isWrapper; first | (rw [if_pos (by decide +kernel)]; kernel_rfl) | (rw [if_neg (by decide +kernel)]; exact ⟨rfl, rfl⟩))
    (fun os started H enc _ => lifted os started H enc)
theorem card : Rows.TopTollsCardSaid :=
  Claim7.holds_tied_plain_at .later [] [.data, .data] true (true, "74d6534c5cd14ce05393ad6e0b0caf667d98135bfeabaf6e69757e8e097b9ae7") false (over) (fun _ h => by cases h) (by kernel_rfl) (fun _ h => by cases h) topTolls_row_tie rfl ⟨rfl, rfl⟩ (by kernel_rfl) rfl
    (fun f fn hf hfn => by
      obtain rfl : f = 3 := Option.some.inj ((show Tryd.prog.funcNamed "breeze/breezetop.TopTolls" = some 3 by kernel_rfl).symm.trans hf) |>.symm
      obtain rfl : fn = Tryd.f3 := (Option.some.inj (Tryd.func3.symm.trans hfn)).symm
      exact ⟨by kernel_rfl, fun j t ht => by
        rw [Tryd.params3] at ht
        rcases j with _ | _ | _ | _ | j
        · obtain rfl : t = 5 := by simpa using ht.symm
          exact (show Tryd.prog.wantsStandIn 5 = false by kernel_rfl)
        · obtain rfl : t = 5 := by simpa using ht.symm
          exact (show Tryd.prog.wantsStandIn 5 = false by kernel_rfl)
        · obtain rfl : t = 22 := by simpa using ht.symm
          exact (show Tryd.prog.wantsStandIn 22 = false by kernel_rfl)
        · obtain rfl : t = 24 := by simpa using ht.symm
          exact (show Tryd.prog.wantsStandIn 24 = false by kernel_rfl)
        · simp at ht⟩)
    (by kernel_rfl)
end Go.Proofs.YtdnfffmppppoeaaDoor.topTolls
namespace Go.Proofs.YtdnfffmppppoeaaDoor
/-- the statement -/
theorem topTolls_holds : Rows.TopTollsCardSaid := topTolls.card
#print axioms topTolls_holds
end Go.Proofs.YtdnfffmppppoeaaDoor
