/-
  TurnWorths: what the functions compute answers as the law says, at every argument of its types.
-/
import Derived.Test.YtgnphlpoofaojaaTLaw
import Derived.Test.YtgnphlpoofaojaaV32
namespace Go.Proofs.Ytgnphlpoofaojaa
open Go.V

theorem pair_of {qs : List PV} (h : PTs tab [(0, 3), (1, 3)] qs) : ∃ p : Int × Int, qs = [.int .i64 p.1, .int .i64 p.2] := by
  obtain ⟨x, rs, rfl, hx, h⟩ := h.cons'
  obtain ⟨y, rs, rfl, hy, h⟩ := h.cons'
  obtain rfl := h.nil'
  obtain ⟨a, rfl, _⟩ := hx.int' tl3 rfl
  obtain ⟨b, rfl, _⟩ := hy.int' tl3 rfl
  exact ⟨(a, b), rfl⟩
theorem contracts_of {x : PV} (h : PT tab 22 [x]) : ∃ L : List (Int × Int), PLe x (.lst false L.length (cellsC L)) := by
  rcases h.slice' tl22 rfl with h | ⟨xs, h, hx⟩
  · cases h; exact ⟨[], .nl false⟩
  · cases h
    obtain ⟨L, h1, h2, _⟩ := opened (fun p : Int × Int => [.int .i64 p.1, .int .i64 p.2]) (fun x => PT tab 65 x) (fun _ => True)
      (fun x hx => by obtain ⟨p, hp⟩ := pair_of (hx.structs tl65 rfl); exact ⟨p, hp, trivial⟩) xs hx
    refine ⟨L, ?_⟩
    rw [h2, h1]
    exact .refl _
end Go.Proofs.Ytgnphlpoofaojaa
