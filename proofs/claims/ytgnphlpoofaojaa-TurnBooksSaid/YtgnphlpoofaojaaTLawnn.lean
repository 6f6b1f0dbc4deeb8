/-
  TurnNeeds: the law.
-/
import Derived.Test.YtgnphlpoofaojaaTLawn
import Derived.Test.YtgnphlpoofaojaaTCon
namespace Go.Proofs.Ytgnphlpoofaojaa
open Go.V

def mxL (q : Int × Int) : List (Int × Int) → Int
  | [] => 0
  | p :: l => mx (Wt q.1 q.2 p) (l.map (Wt q.1 q.2))
theorem mx_sp : ∀ (X : List Int) (m : Int), m ≤ mx m X ∧ (∀ x ∈ X, x ≤ mx m X) ∧ (mx m X = m ∨ mx m X ∈ X)
  | [], m => by simp [mx]
  | x :: X, m => by
    obtain ⟨h1, h2, h3⟩ := mx_sp X (maxI m x)
    have e : mx m (x :: X) = mx (maxI m x) X := rfl
    have h4 : m ≤ maxI m x ∧ x ≤ maxI m x ∧ (maxI m x = m ∨ maxI m x = x) := by unfold maxI; split <;> omega
    rw [e]
    refine ⟨by omega, fun y hy => ?_, ?_⟩
    · rcases List.mem_cons.1 hy with rfl | hy
      · omega
      · exact h2 y hy
    · rcases h3 with h3 | h3
      · rw [h3]
        rcases h4.2.2 with h | h
        · left; exact h
        · right; simp [h]
      · right; simp [h3]
theorem mxL_is {q : Int × Int} (hq : bdP q) : ∀ {L : List (Int × Int)}, L ≠ [] → (∀ c ∈ L, bdC c) → IsMx L q (mxL q L)
  | [], h, _ => absurd rfl h
  | p :: l, _, hb => by
    obtain ⟨h1, h2, h3⟩ := mx_sp (l.map (Wt q.1 q.2)) (Wt q.1 q.2 p)
    have hw : ∀ c ∈ p :: l, Wt q.1 q.2 c = CtP q c := fun c hc => Wt_P hq (hb c hc)
    constructor
    · rcases h3 with h3 | h3
      · exact ⟨p, by simp, by rw [← hw p (by simp)]; exact h3.symm⟩
      · obtain ⟨c, hc, e⟩ := List.mem_map.1 h3
        exact ⟨c, by simp [hc], by rw [← hw c (by simp [hc])]; exact e⟩
    · intro c hc
      rw [← hw c hc]
      rcases List.mem_cons.1 hc with rfl | hc
      · exact h1
      · exact h2 _ (List.mem_map.2 ⟨c, hc, rfl⟩)
theorem mostQ_ok (N : Nat) (hN : 4000 ≤ N) (L : List (Int × Int)) (h1 : 1 ≤ L.length) (hL : L.length ≤ 40) (q : Int × Int) : m61 N (.lst false L.length (cellsC L)) (.agg [.int .i64 q.1, .int .i64 q.2]) = some (.int .i64 (mxL q L)) := by
  cases L with
  | nil => simp at h1
  | cons p l => exact most_ok N p l hL (by omega) q.1 q.2
theorem pairs8 : ∀ n, n ≤ 8 → pairsN 0 n ≤ 1990 := by decide
end Go.Proofs.Ytgnphlpoofaojaa
