/-
  DERIVED. GIVEN WITH THE SEED: THE CARDS: each row of YtdnfffmppppoeaaDoorRows.lean that lists a variable, with what it lists TIED to the program's text (the seventh form; the later family's looks); each row that meets fmt, with fmt's text TOLD by the authors' own Lean function (tested against real Go, not proved from fmt's source: count such statements apart). THE CARD IS WHAT COUNTS. Prove the row's statement (the work); the ties are given (YtdnfffmppppoeaaDoorTie.lean); close each card by the builder's one call (the guide's Derived/Test/ToyasCard.lean, 'card_holds'). Laid BY PROGRAM, IN A SANDBOX (cutbox-door.mjs). By AI agents, Wed Nov 11 2026. No macro, syntax, notation, axiom, sorry.
-/
import Derived.Test.YtdnfffmppppoeaaDoorRows
import GoSem.ClaimSeven
namespace Go.Proofs.YtdnfffmppppoeaaDoor
namespace Rows

/-- THE TIED CARD OF 'breezetop.TopTolls'. -/
def topTollsCard : Claim7 := { stood := { row := topTollsRow, standIns := [], harness := (true, "74d6534c5cd14ce05393ad6e0b0caf667d98135bfeabaf6e69757e8e097b9ae7"), looks := false }, kinds := [], alts := [], laidByText := true, laidKinds := [.data, .data], laidTests := true, laidLooks := .later }
def TopTollsCardSaid : Prop := Claim7.holds Tryd.pinned (.plain (OpenSpec.ofChange topTollsSpec)) topTollsCard

/-- THE TIED CARD OF 'breezetop.TopPassed'. -/
def topPassedCard : Claim7 := { stood := { row := topPassedRow, standIns := [], harness := (true, "74d6534c5cd14ce05393ad6e0b0caf667d98135bfeabaf6e69757e8e097b9ae7"), looks := false }, kinds := [], alts := [], laidByText := true, laidKinds := [.data, .data], laidTests := true, laidLooks := .later }
def TopPassedCardSaid : Prop := Claim7.holds Tryd.pinned (.plain (OpenSpec.ofChange topPassedSpec)) topPassedCard

/-- THE TIED CARD OF 'breezetop.TopReached'. -/
def topReachedCard : Claim7 := { stood := { row := topReachedRow, standIns := [], harness := (true, "74d6534c5cd14ce05393ad6e0b0caf667d98135bfeabaf6e69757e8e097b9ae7"), looks := false }, kinds := [], alts := [], laidByText := true, laidKinds := [.data, .data], laidTests := true, laidLooks := .later }
def TopReachedCardSaid : Prop := Claim7.holds Tryd.pinned (.plain (OpenSpec.ofChange topReachedSpec)) topReachedCard

/-- THE TIED CARD OF 'breezetop.TopPreorder'. -/
def topPreorderCard : Claim7 := { stood := { row := topPreorderRow, standIns := [], harness := (true, "74d6534c5cd14ce05393ad6e0b0caf667d98135bfeabaf6e69757e8e097b9ae7"), looks := false }, kinds := [], alts := [], laidByText := true, laidKinds := [.data, .data], laidTests := true, laidLooks := .later }
def TopPreorderCardSaid : Prop := Claim7.holds Tryd.pinned (.plain (OpenSpec.ofChange topPreorderSpec)) topPreorderCard

/-- THE SECOND FORM's CARD OF 'breezetop.TopTolls'. -/
def topTollsUptoCard : Claim7 := { stood := { row := topTollsUptoRow, standIns := [], harness := (true, "74d6534c5cd14ce05393ad6e0b0caf667d98135bfeabaf6e69757e8e097b9ae7"), looks := false }, kinds := [], alts := [], laidByText := true, laidKinds := [.data, .data], laidTests := true, laidLooks := .later }
def TopTollsUptoCardSaid : Prop := Claim7.holds Tryd.pinned (.plain (OpenSpec.upto topTollsSpec)) topTollsUptoCard

/-- THE SECOND FORM's CARD OF 'breezetop.TopPassed'. -/
def topPassedUptoCard : Claim7 := { stood := { row := topPassedUptoRow, standIns := [], harness := (true, "74d6534c5cd14ce05393ad6e0b0caf667d98135bfeabaf6e69757e8e097b9ae7"), looks := false }, kinds := [], alts := [], laidByText := true, laidKinds := [.data, .data], laidTests := true, laidLooks := .later }
def TopPassedUptoCardSaid : Prop := Claim7.holds Tryd.pinned (.plain (OpenSpec.upto topPassedSpec)) topPassedUptoCard

/-- THE SECOND FORM's CARD OF 'breezetop.TopReached'. -/
def topReachedUptoCard : Claim7 := { stood := { row := topReachedUptoRow, standIns := [], harness := (true, "74d6534c5cd14ce05393ad6e0b0caf667d98135bfeabaf6e69757e8e097b9ae7"), looks := false }, kinds := [], alts := [], laidByText := true, laidKinds := [.data, .data], laidTests := true, laidLooks := .later }
def TopReachedUptoCardSaid : Prop := Claim7.holds Tryd.pinned (.plain (OpenSpec.upto topReachedSpec)) topReachedUptoCard

/-- THE SECOND FORM's CARD OF 'breezetop.TopPreorder'. -/
def topPreorderUptoCard : Claim7 := { stood := { row := topPreorderUptoRow, standIns := [], harness := (true, "74d6534c5cd14ce05393ad6e0b0caf667d98135bfeabaf6e69757e8e097b9ae7"), looks := false }, kinds := [], alts := [], laidByText := true, laidKinds := [.data, .data], laidTests := true, laidLooks := .later }
def TopPreorderUptoCardSaid : Prop := Claim7.holds Tryd.pinned (.plain (OpenSpec.upto topPreorderSpec)) topPreorderUptoCard
end Rows
end Go.Proofs.YtdnfffmppppoeaaDoor
