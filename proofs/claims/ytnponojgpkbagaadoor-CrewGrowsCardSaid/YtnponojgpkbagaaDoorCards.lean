/-
  DERIVED. GIVEN WITH THE SEED: THE CARDS: each row of YtnponojgpkbagaaDoorRows.lean that lists a variable, with what it lists TIED to the program's text (the seventh form; the later family's looks); each row that meets fmt, with fmt's text TOLD by the authors' own Lean function (tested against real Go, not proved from fmt's source: count such statements apart). THE CARD IS WHAT COUNTS. Prove the row's statement (the work); the ties are given (YtnponojgpkbagaaDoorTie.lean); close each card by the builder's one call (the guide's Derived/Test/ToyasCard.lean, 'card_holds'). Laid BY PROGRAM, IN A SANDBOX (cutbox-door.mjs). By AI agents, Wed Nov 11 2026. No macro, syntax, notation, axiom, sorry.
-/
import Derived.Test.YtnponojgpkbagaaDoorRows
import GoSem.ClaimSeven
namespace Go.Proofs.YtnponojgpkbagaaDoor
namespace Rows

/-- THE TIED CARD OF 'breezelaw10.CrewChecks'. -/
def crewChecksCard : Claim7 := { stood := { row := crewChecksRow, standIns := [], harness := (true, "36f3adb999a13030bb38168af2e88bed1a560d200de820ff25b5e377fa9c04d7"), looks := true }, kinds := [], alts := [], laidByText := true, laidKinds := [.data, .data], laidTests := true, laidLooks := .later }
def CrewChecksCardSaid : Prop := Claim7.holds Tryd.pinned (.plain (OpenSpec.ofChange crewChecksSpec)) crewChecksCard

/-- THE TIED CARD OF 'breezelaw10.CrewFinds'. -/
def crewFindsCard : Claim7 := { stood := { row := crewFindsRow, standIns := [], harness := (true, "36f3adb999a13030bb38168af2e88bed1a560d200de820ff25b5e377fa9c04d7"), looks := true }, kinds := [], alts := [], laidByText := true, laidKinds := [.data, .data], laidTests := true, laidLooks := .later }
def CrewFindsCardSaid : Prop := Claim7.holds Tryd.pinned (.plain (OpenSpec.ofChange crewFindsSpec)) crewFindsCard

/-- THE TIED CARD OF 'breezelaw10.CrewJoins'. -/
def crewJoinsCard : Claim7 := { stood := { row := crewJoinsRow, standIns := [], harness := (true, "36f3adb999a13030bb38168af2e88bed1a560d200de820ff25b5e377fa9c04d7"), looks := true }, kinds := [], alts := [], laidByText := true, laidKinds := [.data, .data], laidTests := true, laidLooks := .later }
def CrewJoinsCardSaid : Prop := Claim7.holds Tryd.pinned (.plain (OpenSpec.ofChange crewJoinsSpec)) crewJoinsCard

/-- THE TIED CARD OF 'breezelaw10.CrewWhys'. -/
def crewWhysCard : Claim7 := { stood := { row := crewWhysRow, standIns := [], harness := (true, "36f3adb999a13030bb38168af2e88bed1a560d200de820ff25b5e377fa9c04d7"), looks := true }, kinds := [], alts := [], laidByText := true, laidKinds := [.data, .data], laidTests := true, laidLooks := .later }
def CrewWhysCardSaid : Prop := Claim7.holds Tryd.pinned (.plain (OpenSpec.ofChange crewWhysSpec)) crewWhysCard

/-- THE TIED CARD OF 'breezelaw10.CrewRado'. -/
def crewRadoCard : Claim7 := { stood := { row := crewRadoRow, standIns := [], harness := (true, "36f3adb999a13030bb38168af2e88bed1a560d200de820ff25b5e377fa9c04d7"), looks := true }, kinds := [], alts := [], laidByText := true, laidKinds := [.data, .data], laidTests := true, laidLooks := .later }
def CrewRadoCardSaid : Prop := Claim7.holds Tryd.pinned (.plain (OpenSpec.ofChange crewRadoSpec)) crewRadoCard

/-- THE TIED CARD OF 'breezelaw10.CrewMore'. -/
def crewMoreCard : Claim7 := { stood := { row := crewMoreRow, standIns := [], harness := (true, "36f3adb999a13030bb38168af2e88bed1a560d200de820ff25b5e377fa9c04d7"), looks := true }, kinds := [], alts := [], laidByText := true, laidKinds := [.data, .data], laidTests := true, laidLooks := .later }
def CrewMoreCardSaid : Prop := Claim7.holds Tryd.pinned (.plain (OpenSpec.ofChange crewMoreSpec)) crewMoreCard

/-- THE TIED CARD OF 'breezelaw10.CrewRings'. -/
def crewRingsCard : Claim7 := { stood := { row := crewRingsRow, standIns := [], harness := (true, "36f3adb999a13030bb38168af2e88bed1a560d200de820ff25b5e377fa9c04d7"), looks := true }, kinds := [], alts := [], laidByText := true, laidKinds := [.data, .data], laidTests := true, laidLooks := .later }
def CrewRingsCardSaid : Prop := Claim7.holds Tryd.pinned (.plain (OpenSpec.ofChange crewRingsSpec)) crewRingsCard

/-- THE TIED CARD OF 'breezelaw10.CrewRanks'. -/
def crewRanksCard : Claim7 := { stood := { row := crewRanksRow, standIns := [], harness := (true, "36f3adb999a13030bb38168af2e88bed1a560d200de820ff25b5e377fa9c04d7"), looks := true }, kinds := [], alts := [], laidByText := true, laidKinds := [.data, .data], laidTests := true, laidLooks := .later }
def CrewRanksCardSaid : Prop := Claim7.holds Tryd.pinned (.plain (OpenSpec.ofChange crewRanksSpec)) crewRanksCard

/-- THE TIED CARD OF 'breezelaw10.CrewGrows'. -/
def crewGrowsCard : Claim7 := { stood := { row := crewGrowsRow, standIns := [], harness := (true, "36f3adb999a13030bb38168af2e88bed1a560d200de820ff25b5e377fa9c04d7"), looks := true }, kinds := [], alts := [], laidByText := true, laidKinds := [.data, .data], laidTests := true, laidLooks := .later }
def CrewGrowsCardSaid : Prop := Claim7.holds Tryd.pinned (.plain (OpenSpec.ofChange crewGrowsSpec)) crewGrowsCard

/-- THE TIED CARD OF 'breezelaw10.CrewKnown'. -/
def crewKnownCard : Claim7 := { stood := { row := crewKnownRow, standIns := [], harness := (true, "36f3adb999a13030bb38168af2e88bed1a560d200de820ff25b5e377fa9c04d7"), looks := true }, kinds := [], alts := [], laidByText := true, laidKinds := [.data, .data], laidTests := true, laidLooks := .later }
def CrewKnownCardSaid : Prop := Claim7.holds Tryd.pinned (.plain (OpenSpec.ofChange crewKnownSpec)) crewKnownCard

/-- THE TIED CARD OF 'breezelaw10.CrewNamed'. -/
def crewNamedCard : Claim7 := { stood := { row := crewNamedRow, standIns := [], harness := (true, "36f3adb999a13030bb38168af2e88bed1a560d200de820ff25b5e377fa9c04d7"), looks := true }, kinds := [], alts := [], laidByText := true, laidKinds := [.data, .data], laidTests := true, laidLooks := .later }
def CrewNamedCardSaid : Prop := Claim7.holds Tryd.pinned (.plain (OpenSpec.ofChange crewNamedSpec)) crewNamedCard

/-- THE TIED CARD OF 'breezelaw10.CrewTrees'. -/
def crewTreesCard : Claim7 := { stood := { row := crewTreesRow, standIns := [], harness := (true, "36f3adb999a13030bb38168af2e88bed1a560d200de820ff25b5e377fa9c04d7"), looks := true }, kinds := [], alts := [], laidByText := true, laidKinds := [.data, .data], laidTests := true, laidLooks := .later }
def CrewTreesCardSaid : Prop := Claim7.holds Tryd.pinned (.plain (OpenSpec.ofChange crewTreesSpec)) crewTreesCard

/-- THE SECOND FORM's CARD OF 'breezelaw10.CrewChecks'. -/
def crewChecksUptoCard : Claim7 := { stood := { row := crewChecksUptoRow, standIns := [], harness := (true, "36f3adb999a13030bb38168af2e88bed1a560d200de820ff25b5e377fa9c04d7"), looks := true }, kinds := [], alts := [], laidByText := true, laidKinds := [.data, .data], laidTests := true, laidLooks := .later }
def CrewChecksUptoCardSaid : Prop := Claim7.holds Tryd.pinned (.plain (OpenSpec.upto crewChecksSpec)) crewChecksUptoCard

/-- THE SECOND FORM's CARD OF 'breezelaw10.CrewFinds'. -/
def crewFindsUptoCard : Claim7 := { stood := { row := crewFindsUptoRow, standIns := [], harness := (true, "36f3adb999a13030bb38168af2e88bed1a560d200de820ff25b5e377fa9c04d7"), looks := true }, kinds := [], alts := [], laidByText := true, laidKinds := [.data, .data], laidTests := true, laidLooks := .later }
def CrewFindsUptoCardSaid : Prop := Claim7.holds Tryd.pinned (.plain (OpenSpec.upto crewFindsSpec)) crewFindsUptoCard

/-- THE SECOND FORM's CARD OF 'breezelaw10.CrewJoins'. -/
def crewJoinsUptoCard : Claim7 := { stood := { row := crewJoinsUptoRow, standIns := [], harness := (true, "36f3adb999a13030bb38168af2e88bed1a560d200de820ff25b5e377fa9c04d7"), looks := true }, kinds := [], alts := [], laidByText := true, laidKinds := [.data, .data], laidTests := true, laidLooks := .later }
def CrewJoinsUptoCardSaid : Prop := Claim7.holds Tryd.pinned (.plain (OpenSpec.upto crewJoinsSpec)) crewJoinsUptoCard

/-- THE SECOND FORM's CARD OF 'breezelaw10.CrewWhys'. -/
def crewWhysUptoCard : Claim7 := { stood := { row := crewWhysUptoRow, standIns := [], harness := (true, "36f3adb999a13030bb38168af2e88bed1a560d200de820ff25b5e377fa9c04d7"), looks := true }, kinds := [], alts := [], laidByText := true, laidKinds := [.data, .data], laidTests := true, laidLooks := .later }
def CrewWhysUptoCardSaid : Prop := Claim7.holds Tryd.pinned (.plain (OpenSpec.upto crewWhysSpec)) crewWhysUptoCard

/-- THE SECOND FORM's CARD OF 'breezelaw10.CrewRado'. -/
def crewRadoUptoCard : Claim7 := { stood := { row := crewRadoUptoRow, standIns := [], harness := (true, "36f3adb999a13030bb38168af2e88bed1a560d200de820ff25b5e377fa9c04d7"), looks := true }, kinds := [], alts := [], laidByText := true, laidKinds := [.data, .data], laidTests := true, laidLooks := .later }
def CrewRadoUptoCardSaid : Prop := Claim7.holds Tryd.pinned (.plain (OpenSpec.upto crewRadoSpec)) crewRadoUptoCard

/-- THE SECOND FORM's CARD OF 'breezelaw10.CrewMore'. -/
def crewMoreUptoCard : Claim7 := { stood := { row := crewMoreUptoRow, standIns := [], harness := (true, "36f3adb999a13030bb38168af2e88bed1a560d200de820ff25b5e377fa9c04d7"), looks := true }, kinds := [], alts := [], laidByText := true, laidKinds := [.data, .data], laidTests := true, laidLooks := .later }
def CrewMoreUptoCardSaid : Prop := Claim7.holds Tryd.pinned (.plain (OpenSpec.upto crewMoreSpec)) crewMoreUptoCard

/-- THE SECOND FORM's CARD OF 'breezelaw10.CrewRings'. -/
def crewRingsUptoCard : Claim7 := { stood := { row := crewRingsUptoRow, standIns := [], harness := (true, "36f3adb999a13030bb38168af2e88bed1a560d200de820ff25b5e377fa9c04d7"), looks := true }, kinds := [], alts := [], laidByText := true, laidKinds := [.data, .data], laidTests := true, laidLooks := .later }
def CrewRingsUptoCardSaid : Prop := Claim7.holds Tryd.pinned (.plain (OpenSpec.upto crewRingsSpec)) crewRingsUptoCard

/-- THE SECOND FORM's CARD OF 'breezelaw10.CrewRanks'. -/
def crewRanksUptoCard : Claim7 := { stood := { row := crewRanksUptoRow, standIns := [], harness := (true, "36f3adb999a13030bb38168af2e88bed1a560d200de820ff25b5e377fa9c04d7"), looks := true }, kinds := [], alts := [], laidByText := true, laidKinds := [.data, .data], laidTests := true, laidLooks := .later }
def CrewRanksUptoCardSaid : Prop := Claim7.holds Tryd.pinned (.plain (OpenSpec.upto crewRanksSpec)) crewRanksUptoCard

/-- THE SECOND FORM's CARD OF 'breezelaw10.CrewGrows'. -/
def crewGrowsUptoCard : Claim7 := { stood := { row := crewGrowsUptoRow, standIns := [], harness := (true, "36f3adb999a13030bb38168af2e88bed1a560d200de820ff25b5e377fa9c04d7"), looks := true }, kinds := [], alts := [], laidByText := true, laidKinds := [.data, .data], laidTests := true, laidLooks := .later }
def CrewGrowsUptoCardSaid : Prop := Claim7.holds Tryd.pinned (.plain (OpenSpec.upto crewGrowsSpec)) crewGrowsUptoCard

/-- THE SECOND FORM's CARD OF 'breezelaw10.CrewKnown'. -/
def crewKnownUptoCard : Claim7 := { stood := { row := crewKnownUptoRow, standIns := [], harness := (true, "36f3adb999a13030bb38168af2e88bed1a560d200de820ff25b5e377fa9c04d7"), looks := true }, kinds := [], alts := [], laidByText := true, laidKinds := [.data, .data], laidTests := true, laidLooks := .later }
def CrewKnownUptoCardSaid : Prop := Claim7.holds Tryd.pinned (.plain (OpenSpec.upto crewKnownSpec)) crewKnownUptoCard

/-- THE SECOND FORM's CARD OF 'breezelaw10.CrewNamed'. -/
def crewNamedUptoCard : Claim7 := { stood := { row := crewNamedUptoRow, standIns := [], harness := (true, "36f3adb999a13030bb38168af2e88bed1a560d200de820ff25b5e377fa9c04d7"), looks := true }, kinds := [], alts := [], laidByText := true, laidKinds := [.data, .data], laidTests := true, laidLooks := .later }
def CrewNamedUptoCardSaid : Prop := Claim7.holds Tryd.pinned (.plain (OpenSpec.upto crewNamedSpec)) crewNamedUptoCard

/-- THE SECOND FORM's CARD OF 'breezelaw10.CrewTrees'. -/
def crewTreesUptoCard : Claim7 := { stood := { row := crewTreesUptoRow, standIns := [], harness := (true, "36f3adb999a13030bb38168af2e88bed1a560d200de820ff25b5e377fa9c04d7"), looks := true }, kinds := [], alts := [], laidByText := true, laidKinds := [.data, .data], laidTests := true, laidLooks := .later }
def CrewTreesUptoCardSaid : Prop := Claim7.holds Tryd.pinned (.plain (OpenSpec.upto crewTreesSpec)) crewTreesUptoCard
end Rows
end Go.Proofs.YtnponojgpkbagaaDoor
