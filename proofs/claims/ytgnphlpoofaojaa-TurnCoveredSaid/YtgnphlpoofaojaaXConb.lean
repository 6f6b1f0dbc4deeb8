/-
  TurnBest: what the functions compute answers as the law says, at every argument of its types.
-/
import Derived.Test.YtgnphlpoofaojaaXLawbest
import Derived.Test.YtgnphlpoofaojaaV32
namespace Go.Proofs.Ytgnphlpoofaojaa
open Go.V

theorem bytes_of {qs : List PV} (h : PT tab 68 qs) : ∃ X : List Int, X.length = 8 ∧ qs = X.map (PV.int .i8) ∧ ∀ x ∈ X, -128 ≤ x ∧ x ≤ 127 := by
  obtain ⟨xs, rfl, hl, hx⟩ := h.arr' tl68 rfl
  obtain ⟨X, h1, h2, h3⟩ := opened (fun x : Int => [PV.int .i8 x]) (fun x => PT tab 67 x) (fun x => -128 ≤ x ∧ x ≤ 127)
    (fun x hx => by
      obtain ⟨n, e, b1, b2⟩ := hx.int' tl67 rfl
      exact ⟨n, e, by simpa [IntKind.min, IntKind.max, IntKind.signed, IntKind.bits] using And.intro b1 b2⟩) xs hx
  refine ⟨X, by omega, ?_, h3⟩
  rw [h2]
  clear h1 h2 h3
  induction X with
  | nil => rfl
  | cons a X ih => simpa using ih
theorem zip_of : ∀ {X Y : List Int}, X.length = Y.length → ∃ Z : List (Int × Int), Z.length = X.length ∧ X = Z.map Prod.fst ∧ Y = Z.map Prod.snd
  | [], [], _ => ⟨[], rfl, rfl, rfl⟩
  | x :: X, y :: Y, h => by
    obtain ⟨Z, h1, h2, h3⟩ := zip_of (X := X) (Y := Y) (by simpa using h)
    exact ⟨(x, y) :: Z, by simp [h1], by simp [← h2], by simp [← h3]⟩
  | [], _ :: _, h => by simp at h
  | _ :: _, [], h => by simp at h
theorem desk_of {qs : List PV} (h : PT tab 70 qs) : ∃ (many : Int) (Z : List (Int × Int)), qs = deskC many Z ∧ byteZ Z ∧ 0 ≤ many ∧ many ≤ 255 := by
  obtain ⟨x, rs, rfl, hx, h⟩ := (h.structs tl70 rfl).cons'
  obtain ⟨y, rs, rfl, hy, h⟩ := h.cons'
  obtain ⟨z, rs, rfl, hz, h⟩ := h.cons'
  obtain rfl := h.nil'
  obtain ⟨m, rfl, b1, b2⟩ := hx.int' tl5 rfl
  obtain ⟨X, x1, rfl, x3⟩ := bytes_of hy
  obtain ⟨Y, y1, rfl, y3⟩ := bytes_of hz
  obtain ⟨Z, z1, rfl, rfl⟩ := zip_of (x1.trans y1.symm)
  refine ⟨m, Z, by simp [deskC]; rfl, ⟨by omega, fun z hz => ?_⟩, by simpa [IntKind.min, IntKind.signed] using b1, by simpa [IntKind.max, IntKind.signed, IntKind.bits] using b2⟩
  have h1 := x3 z.1 (List.mem_map.2 ⟨z, hz, rfl⟩)
  have h2 := y3 z.2 (List.mem_map.2 ⟨z, hz, rfl⟩)
  omega
end Go.Proofs.Ytgnphlpoofaojaa
