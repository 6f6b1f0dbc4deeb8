/-
  TurnCovers: what the functions compute answers as the law says, at every argument of its types.
-/
import Derived.Test.YtgnphlpoofaojaaLawcov
import Derived.Test.YtgnphlpoofaojaaCon
namespace Go.Proofs.Ytgnphlpoofaojaa
open Go.V

theorem con5 (x0 : PV) (h0 : PT tab 22 [x0]) (x1 : PV) (h1 : PT tab 3 [x1]) (x2 : PV) (h2 : PT tab 3 [x2]) (x3 : PV) (h3 : PT tab 3 [x3]) : FnP Try.prog 5 [x0, x1, x2, x3] (.bool true) := by
  obtain ⟨L, hL⟩ := contracts_of h0
  obtain ⟨a, e1, _⟩ := h1.int' tl3 rfl
  obtain ⟨b, e2, _⟩ := h2.int' tl3 rfl
  obtain ⟨c, e3, _⟩ := h3.int' tl3 rfl
  cases e1; cases e2; cases e3
  exact FnP_le (c5 4000 _ _ _ _ _ (law_covers L a b c)) (.cons _ _ _ _ hL (PLes.refl _)) (.refl _)
end Go.Proofs.Ytgnphlpoofaojaa
