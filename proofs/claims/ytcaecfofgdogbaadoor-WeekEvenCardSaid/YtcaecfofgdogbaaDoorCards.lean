/-
  DERIVED. GIVEN WITH THE SEED: THE CARDS: each row of YtcaecfofgdogbaaDoorRows.lean that lists a variable, with what it lists TIED to the program's text (the seventh form; the later family's looks); each row that meets fmt, with fmt's text TOLD by the authors' own Lean function (tested against real Go, not proved from fmt's source: count such statements apart). THE CARD IS WHAT COUNTS. Prove the row's statement (the work); the ties are given (YtcaecfofgdogbaaDoorTie.lean); close each card by the builder's one call (the guide's Derived/Test/ToyasCard.lean, 'card_holds'). Laid BY PROGRAM, IN A SANDBOX (cutbox-door.mjs). By AI agents, Wed Nov 11 2026. No macro, syntax, notation, axiom, sorry.
-/
import Derived.Test.YtcaecfofgdogbaaDoorRows
import GoSem.ClaimSeven
namespace Go.Proofs.YtcaecfofgdogbaaDoor
namespace Rows

/-- THE TIED CARD OF 'breezelaw03.WeekRows'. -/
def weekRowsCard : Claim7 := { stood := { row := weekRowsRow, standIns := [], harness := (true, "b10945a5c0c6bbe518806a5b2982a3effa3ad2c65afd0553d66b8bf8a483c2f3"), looks := true }, kinds := [], alts := [], laidByText := true, laidKinds := [.data, .data], laidTests := true, laidLooks := .later }
def WeekRowsCardSaid : Prop := Claim7.holds Tryd.pinned (.plain (OpenSpec.ofChange weekRowsSpec)) weekRowsCard

/-- THE TIED CARD OF 'breezelaw03.WeekFulls'. -/
def weekFullsCard : Claim7 := { stood := { row := weekFullsRow, standIns := [], harness := (true, "b10945a5c0c6bbe518806a5b2982a3effa3ad2c65afd0553d66b8bf8a483c2f3"), looks := true }, kinds := [], alts := [], laidByText := true, laidKinds := [.data, .data], laidTests := true, laidLooks := .later }
def WeekFullsCardSaid : Prop := Claim7.holds Tryd.pinned (.plain (OpenSpec.ofChange weekFullsSpec)) weekFullsCard

/-- THE TIED CARD OF 'breezelaw03.WeekHall'. -/
def weekHallCard : Claim7 := { stood := { row := weekHallRow, standIns := [], harness := (true, "b10945a5c0c6bbe518806a5b2982a3effa3ad2c65afd0553d66b8bf8a483c2f3"), looks := true }, kinds := [], alts := [], laidByText := true, laidKinds := [.data, .data], laidTests := true, laidLooks := .later }
def WeekHallCardSaid : Prop := Claim7.holds Tryd.pinned (.plain (OpenSpec.ofChange weekHallSpec)) weekHallCard

/-- THE TIED CARD OF 'breezelaw03.WeekFilled'. -/
def weekFilledCard : Claim7 := { stood := { row := weekFilledRow, standIns := [], harness := (true, "b10945a5c0c6bbe518806a5b2982a3effa3ad2c65afd0553d66b8bf8a483c2f3"), looks := true }, kinds := [], alts := [], laidByText := true, laidKinds := [.data, .data], laidTests := true, laidLooks := .later }
def WeekFilledCardSaid : Prop := Claim7.holds Tryd.pinned (.plain (OpenSpec.ofChange weekFilledSpec)) weekFilledCard

/-- THE TIED CARD OF 'breezelaw03.WeekTurned'. -/
def weekTurnedCard : Claim7 := { stood := { row := weekTurnedRow, standIns := [], harness := (true, "b10945a5c0c6bbe518806a5b2982a3effa3ad2c65afd0553d66b8bf8a483c2f3"), looks := true }, kinds := [], alts := [], laidByText := true, laidKinds := [.data, .data], laidTests := true, laidLooks := .later }
def WeekTurnedCardSaid : Prop := Claim7.holds Tryd.pinned (.plain (OpenSpec.ofChange weekTurnedSpec)) weekTurnedCard

/-- THE TIED CARD OF 'breezelaw03.WeekCrossed'. -/
def weekCrossedCard : Claim7 := { stood := { row := weekCrossedRow, standIns := [], harness := (true, "b10945a5c0c6bbe518806a5b2982a3effa3ad2c65afd0553d66b8bf8a483c2f3"), looks := true }, kinds := [], alts := [], laidByText := true, laidKinds := [.data, .data], laidTests := true, laidLooks := .later }
def WeekCrossedCardSaid : Prop := Claim7.holds Tryd.pinned (.plain (OpenSpec.ofChange weekCrossedSpec)) weekCrossedCard

/-- THE TIED CARD OF 'breezelaw03.WeekEven'. -/
def weekEvenCard : Claim7 := { stood := { row := weekEvenRow, standIns := [], harness := (true, "b10945a5c0c6bbe518806a5b2982a3effa3ad2c65afd0553d66b8bf8a483c2f3"), looks := true }, kinds := [], alts := [], laidByText := true, laidKinds := [.data, .data], laidTests := true, laidLooks := .later }
def WeekEvenCardSaid : Prop := Claim7.holds Tryd.pinned (.plain (OpenSpec.ofChange weekEvenSpec)) weekEvenCard

/-- THE TIED CARD OF 'breezelaw03.WeekAll'. -/
def weekAllCard : Claim7 := { stood := { row := weekAllRow, standIns := [], harness := (true, "b10945a5c0c6bbe518806a5b2982a3effa3ad2c65afd0553d66b8bf8a483c2f3"), looks := true }, kinds := [], alts := [], laidByText := true, laidKinds := [.data, .data], laidTests := true, laidLooks := .later }
def WeekAllCardSaid : Prop := Claim7.holds Tryd.pinned (.plain (OpenSpec.ofChange weekAllSpec)) weekAllCard

/-- THE TIED CARD OF 'breezelaw03.WeekCorners'. -/
def weekCornersCard : Claim7 := { stood := { row := weekCornersRow, standIns := [], harness := (true, "b10945a5c0c6bbe518806a5b2982a3effa3ad2c65afd0553d66b8bf8a483c2f3"), looks := true }, kinds := [], alts := [], laidByText := true, laidKinds := [.data, .data], laidTests := true, laidLooks := .later }
def WeekCornersCardSaid : Prop := Claim7.holds Tryd.pinned (.plain (OpenSpec.ofChange weekCornersSpec)) weekCornersCard

/-- THE TIED CARD OF 'breezelaw03.WeekKnown'. -/
def weekKnownCard : Claim7 := { stood := { row := weekKnownRow, standIns := [], harness := (true, "b10945a5c0c6bbe518806a5b2982a3effa3ad2c65afd0553d66b8bf8a483c2f3"), looks := true }, kinds := [], alts := [], laidByText := true, laidKinds := [.data, .data], laidTests := true, laidLooks := .later }
def WeekKnownCardSaid : Prop := Claim7.holds Tryd.pinned (.plain (OpenSpec.ofChange weekKnownSpec)) weekKnownCard

/-- THE TIED CARD OF 'breezelaw03.WeekNamed'. -/
def weekNamedCard : Claim7 := { stood := { row := weekNamedRow, standIns := [], harness := (true, "b10945a5c0c6bbe518806a5b2982a3effa3ad2c65afd0553d66b8bf8a483c2f3"), looks := true }, kinds := [], alts := [], laidByText := true, laidKinds := [.data, .data], laidTests := true, laidLooks := .later }
def WeekNamedCardSaid : Prop := Claim7.holds Tryd.pinned (.plain (OpenSpec.ofChange weekNamedSpec)) weekNamedCard

/-- THE TIED CARD OF 'breezelaw03.WeekRyser'. -/
def weekRyserCard : Claim7 := { stood := { row := weekRyserRow, standIns := [], harness := (true, "b10945a5c0c6bbe518806a5b2982a3effa3ad2c65afd0553d66b8bf8a483c2f3"), looks := true }, kinds := [], alts := [], laidByText := true, laidKinds := [.data, .data], laidTests := true, laidLooks := .later }
def WeekRyserCardSaid : Prop := Claim7.holds Tryd.pinned (.plain (OpenSpec.ofChange weekRyserSpec)) weekRyserCard

/-- THE SECOND FORM's CARD OF 'breezelaw03.WeekRows'. -/
def weekRowsUptoCard : Claim7 := { stood := { row := weekRowsUptoRow, standIns := [], harness := (true, "b10945a5c0c6bbe518806a5b2982a3effa3ad2c65afd0553d66b8bf8a483c2f3"), looks := true }, kinds := [], alts := [], laidByText := true, laidKinds := [.data, .data], laidTests := true, laidLooks := .later }
def WeekRowsUptoCardSaid : Prop := Claim7.holds Tryd.pinned (.plain (OpenSpec.upto weekRowsSpec)) weekRowsUptoCard

/-- THE SECOND FORM's CARD OF 'breezelaw03.WeekFulls'. -/
def weekFullsUptoCard : Claim7 := { stood := { row := weekFullsUptoRow, standIns := [], harness := (true, "b10945a5c0c6bbe518806a5b2982a3effa3ad2c65afd0553d66b8bf8a483c2f3"), looks := true }, kinds := [], alts := [], laidByText := true, laidKinds := [.data, .data], laidTests := true, laidLooks := .later }
def WeekFullsUptoCardSaid : Prop := Claim7.holds Tryd.pinned (.plain (OpenSpec.upto weekFullsSpec)) weekFullsUptoCard

/-- THE SECOND FORM's CARD OF 'breezelaw03.WeekHall'. -/
def weekHallUptoCard : Claim7 := { stood := { row := weekHallUptoRow, standIns := [], harness := (true, "b10945a5c0c6bbe518806a5b2982a3effa3ad2c65afd0553d66b8bf8a483c2f3"), looks := true }, kinds := [], alts := [], laidByText := true, laidKinds := [.data, .data], laidTests := true, laidLooks := .later }
def WeekHallUptoCardSaid : Prop := Claim7.holds Tryd.pinned (.plain (OpenSpec.upto weekHallSpec)) weekHallUptoCard

/-- THE SECOND FORM's CARD OF 'breezelaw03.WeekFilled'. -/
def weekFilledUptoCard : Claim7 := { stood := { row := weekFilledUptoRow, standIns := [], harness := (true, "b10945a5c0c6bbe518806a5b2982a3effa3ad2c65afd0553d66b8bf8a483c2f3"), looks := true }, kinds := [], alts := [], laidByText := true, laidKinds := [.data, .data], laidTests := true, laidLooks := .later }
def WeekFilledUptoCardSaid : Prop := Claim7.holds Tryd.pinned (.plain (OpenSpec.upto weekFilledSpec)) weekFilledUptoCard

/-- THE SECOND FORM's CARD OF 'breezelaw03.WeekTurned'. -/
def weekTurnedUptoCard : Claim7 := { stood := { row := weekTurnedUptoRow, standIns := [], harness := (true, "b10945a5c0c6bbe518806a5b2982a3effa3ad2c65afd0553d66b8bf8a483c2f3"), looks := true }, kinds := [], alts := [], laidByText := true, laidKinds := [.data, .data], laidTests := true, laidLooks := .later }
def WeekTurnedUptoCardSaid : Prop := Claim7.holds Tryd.pinned (.plain (OpenSpec.upto weekTurnedSpec)) weekTurnedUptoCard

/-- THE SECOND FORM's CARD OF 'breezelaw03.WeekCrossed'. -/
def weekCrossedUptoCard : Claim7 := { stood := { row := weekCrossedUptoRow, standIns := [], harness := (true, "b10945a5c0c6bbe518806a5b2982a3effa3ad2c65afd0553d66b8bf8a483c2f3"), looks := true }, kinds := [], alts := [], laidByText := true, laidKinds := [.data, .data], laidTests := true, laidLooks := .later }
def WeekCrossedUptoCardSaid : Prop := Claim7.holds Tryd.pinned (.plain (OpenSpec.upto weekCrossedSpec)) weekCrossedUptoCard

/-- THE SECOND FORM's CARD OF 'breezelaw03.WeekEven'. -/
def weekEvenUptoCard : Claim7 := { stood := { row := weekEvenUptoRow, standIns := [], harness := (true, "b10945a5c0c6bbe518806a5b2982a3effa3ad2c65afd0553d66b8bf8a483c2f3"), looks := true }, kinds := [], alts := [], laidByText := true, laidKinds := [.data, .data], laidTests := true, laidLooks := .later }
def WeekEvenUptoCardSaid : Prop := Claim7.holds Tryd.pinned (.plain (OpenSpec.upto weekEvenSpec)) weekEvenUptoCard

/-- THE SECOND FORM's CARD OF 'breezelaw03.WeekAll'. -/
def weekAllUptoCard : Claim7 := { stood := { row := weekAllUptoRow, standIns := [], harness := (true, "b10945a5c0c6bbe518806a5b2982a3effa3ad2c65afd0553d66b8bf8a483c2f3"), looks := true }, kinds := [], alts := [], laidByText := true, laidKinds := [.data, .data], laidTests := true, laidLooks := .later }
def WeekAllUptoCardSaid : Prop := Claim7.holds Tryd.pinned (.plain (OpenSpec.upto weekAllSpec)) weekAllUptoCard

/-- THE SECOND FORM's CARD OF 'breezelaw03.WeekCorners'. -/
def weekCornersUptoCard : Claim7 := { stood := { row := weekCornersUptoRow, standIns := [], harness := (true, "b10945a5c0c6bbe518806a5b2982a3effa3ad2c65afd0553d66b8bf8a483c2f3"), looks := true }, kinds := [], alts := [], laidByText := true, laidKinds := [.data, .data], laidTests := true, laidLooks := .later }
def WeekCornersUptoCardSaid : Prop := Claim7.holds Tryd.pinned (.plain (OpenSpec.upto weekCornersSpec)) weekCornersUptoCard

/-- THE SECOND FORM's CARD OF 'breezelaw03.WeekKnown'. -/
def weekKnownUptoCard : Claim7 := { stood := { row := weekKnownUptoRow, standIns := [], harness := (true, "b10945a5c0c6bbe518806a5b2982a3effa3ad2c65afd0553d66b8bf8a483c2f3"), looks := true }, kinds := [], alts := [], laidByText := true, laidKinds := [.data, .data], laidTests := true, laidLooks := .later }
def WeekKnownUptoCardSaid : Prop := Claim7.holds Tryd.pinned (.plain (OpenSpec.upto weekKnownSpec)) weekKnownUptoCard

/-- THE SECOND FORM's CARD OF 'breezelaw03.WeekNamed'. -/
def weekNamedUptoCard : Claim7 := { stood := { row := weekNamedUptoRow, standIns := [], harness := (true, "b10945a5c0c6bbe518806a5b2982a3effa3ad2c65afd0553d66b8bf8a483c2f3"), looks := true }, kinds := [], alts := [], laidByText := true, laidKinds := [.data, .data], laidTests := true, laidLooks := .later }
def WeekNamedUptoCardSaid : Prop := Claim7.holds Tryd.pinned (.plain (OpenSpec.upto weekNamedSpec)) weekNamedUptoCard

/-- THE SECOND FORM's CARD OF 'breezelaw03.WeekRyser'. -/
def weekRyserUptoCard : Claim7 := { stood := { row := weekRyserUptoRow, standIns := [], harness := (true, "b10945a5c0c6bbe518806a5b2982a3effa3ad2c65afd0553d66b8bf8a483c2f3"), looks := true }, kinds := [], alts := [], laidByText := true, laidKinds := [.data, .data], laidTests := true, laidLooks := .later }
def WeekRyserUptoCardSaid : Prop := Claim7.holds Tryd.pinned (.plain (OpenSpec.upto weekRyserSpec)) weekRyserUptoCard
end Rows
end Go.Proofs.YtcaecfofgdogbaaDoor
