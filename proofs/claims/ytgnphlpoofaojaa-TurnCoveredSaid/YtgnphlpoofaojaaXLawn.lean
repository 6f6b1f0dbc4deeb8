/-
  TurnNeeds: what the functions compute answers as the law says.
-/
import Derived.Test.YtgnphlpoofaojaaXLawh
namespace Go.Proofs.Ytgnphlpoofaojaa
open Go.V

theorem hull_lenle (L : List (Int × Int)) : (hullF L).length ≤ L.length := by
  have h : ∀ (f : Nat → Int × Int) (S T : List Nat), (S.foldl (pushI f) T).length ≤ T.length + S.length := by
    intro f S
    induction S with
    | nil => intro T; simp
    | cons k S ih =>
      intro T
      have h1 := ih (pushI f T k)
      have h2 : (pushI f T k).length ≤ T.length + 1 := by
        unfold pushI
        split
        · simp
        · split
          · omega
          · have := popI_len f k (‹Nat› :: ‹List Nat›)
            simp only [List.length_cons] at this ⊢
            omega
      simp only [List.foldl_cons, List.length_cons]; omega
  have := h (ctL L) (srtF (ctL L) L.length).reverse []
  simp only [hullF, List.length_reverse, List.length_nil, Nat.zero_add, srt_len] at this ⊢
  exact this
theorem eqC {a b : Int × Int} : ((a.1 == b.1) && (a.2 == b.2)) = (a == b) := rfl
end Go.Proofs.Ytgnphlpoofaojaa
