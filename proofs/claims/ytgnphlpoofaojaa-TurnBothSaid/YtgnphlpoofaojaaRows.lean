/-
  No cell of these rows narrows 'for every input' (looked for: loops, veiled, ifaces, maps, wideKeys, modest, calm, conditions, laid).
  DERIVED. THE GIVEN ROWS OF THIS SEAT. 12 by the template 'for every input the law returns true; each argument reads behind the call as it read before'; 0 by the template 'total and deterministic' (their statements: YtgnphlpoofaojaaTotals.lean).
  GIVEN WITH THE SEED: the statements are not yours to turn. If you find one false, say at which input.
  Laid BY PROGRAM, IN A SANDBOX (cutbox-rows.mjs): the forced cells as the released guide's own fill.sh prints them over the translation 33704b327a696f60… (all of the seat's roots in one cut). By AI agents, Wed Nov 11 2026. No macro, syntax, notation, axiom, sorry.
-/
import Derived.Test.YtgnphlpoofaojaaChecked
import GoSem.Claim
import GoSem.ClaimJoined
import GoSem.ClaimMapViews
import Derived.JoinedTies
import Derived.KernelRfl
namespace Go.Proofs.Ytgnphlpoofaojaa
/- THE CELL 'sum', in the pinned program and in every row, IS THE sha256 OF THE DUMP (.gsa) THAT YtgnphlpoofaojaaProg.lean LOADS. Nothing in Lean hashes anything: it is a label: what it is worth is what the hold of that sum in a sandbox is worth. -/
noncomputable def Try.pinned : Pinned := { name := "ytgnphlpoofaojaa", sum := "33704b327a696f60818691adbcf3b4fea37424281d1870f5df1495c00584ba20", checked := Try.checked }
namespace Rows
def none {H : Type} : Left H := { results := [], args := [] }

/-- 'breezelaw12.TurnWorths': WHATEVER THE INPUT: true; the input reads as it did. -/
def turnWorthsSpec : ChangeSpec := { name := "turnWorths", fn := fun _ => fun
  | [d1, d2] => { results := [.lit (.bool true)], args := [d1, d2] }
  | _ => none }
def turnWorthsRow : OpenClaim := { program := "ytgnphlpoofaojaa", sum := "33704b327a696f60818691adbcf3b4fea37424281d1870f5df1495c00584ba20", func := "breeze/breezelaw12.TurnWorths", spec := "turnWorths", unfollowed := true, recurses := true, apart := false }
def TurnWorthsSaid : Prop := turnWorthsRow.holds Try.pinned (OpenSpec.ofChange turnWorthsSpec)

/-- ITS FALSE NEIGHBOUR: 'it returns false'. Refute it at one input. -/
def turnWorthsWrong : ChangeSpec := { name := "turnWorths", fn := fun _ => fun
  | [d1, d2] => { results := [.lit (.bool false)], args := [d1, d2] }
  | _ => none }
def TurnWorthsWrongFalsely : Prop := turnWorthsRow.holds Try.pinned (OpenSpec.ofChange turnWorthsWrong)

/-- 'breezelaw12.TurnNeeds': WHATEVER THE INPUT: true; the input reads as it did. -/
def turnNeedsSpec : ChangeSpec := { name := "turnNeeds", fn := fun _ => fun
  | [d] => { results := [.lit (.bool true)], args := [d] }
  | _ => none }
def turnNeedsRow : OpenClaim := { program := "ytgnphlpoofaojaa", sum := "33704b327a696f60818691adbcf3b4fea37424281d1870f5df1495c00584ba20", func := "breeze/breezelaw12.TurnNeeds", spec := "turnNeeds", unfollowed := true, recurses := true, apart := false }
def TurnNeedsSaid : Prop := turnNeedsRow.holds Try.pinned (OpenSpec.ofChange turnNeedsSpec)

/-- ITS FALSE NEIGHBOUR: 'it returns false'. Refute it at one input. -/
def turnNeedsWrong : ChangeSpec := { name := "turnNeeds", fn := fun _ => fun
  | [d] => { results := [.lit (.bool false)], args := [d] }
  | _ => none }
def TurnNeedsWrongFalsely : Prop := turnNeedsRow.holds Try.pinned (OpenSpec.ofChange turnNeedsWrong)

/-- 'breezelaw12.TurnCovers': WHATEVER THE INPUT: true; the input reads as it did. -/
def turnCoversSpec : ChangeSpec := { name := "turnCovers", fn := fun _ => fun
  | [d1, d2, d3, d4] => { results := [.lit (.bool true)], args := [d1, d2, d3, d4] }
  | _ => none }
def turnCoversRow : OpenClaim := { program := "ytgnphlpoofaojaa", sum := "33704b327a696f60818691adbcf3b4fea37424281d1870f5df1495c00584ba20", func := "breeze/breezelaw12.TurnCovers", spec := "turnCovers", unfollowed := true, recurses := true, apart := false }
def TurnCoversSaid : Prop := turnCoversRow.holds Try.pinned (OpenSpec.ofChange turnCoversSpec)

/-- ITS FALSE NEIGHBOUR: 'it returns false'. Refute it at one input. -/
def turnCoversWrong : ChangeSpec := { name := "turnCovers", fn := fun _ => fun
  | [d1, d2, d3, d4] => { results := [.lit (.bool false)], args := [d1, d2, d3, d4] }
  | _ => none }
def TurnCoversWrongFalsely : Prop := turnCoversRow.holds Try.pinned (OpenSpec.ofChange turnCoversWrong)

/-- 'breezelaw12.TurnBooks': WHATEVER THE INPUT: true; the input reads as it did. -/
def turnBooksSpec : ChangeSpec := { name := "turnBooks", fn := fun _ => fun
  | [d1, d2, d3] => { results := [.lit (.bool true)], args := [d1, d2, d3] }
  | _ => none }
def turnBooksRow : OpenClaim := { program := "ytgnphlpoofaojaa", sum := "33704b327a696f60818691adbcf3b4fea37424281d1870f5df1495c00584ba20", func := "breeze/breezelaw12.TurnBooks", spec := "turnBooks", unfollowed := true, recurses := true, apart := false }
def TurnBooksSaid : Prop := turnBooksRow.holds Try.pinned (OpenSpec.ofChange turnBooksSpec)

/-- ITS FALSE NEIGHBOUR: 'it returns false'. Refute it at one input. -/
def turnBooksWrong : ChangeSpec := { name := "turnBooks", fn := fun _ => fun
  | [d1, d2, d3] => { results := [.lit (.bool false)], args := [d1, d2, d3] }
  | _ => none }
def TurnBooksWrongFalsely : Prop := turnBooksRow.holds Try.pinned (OpenSpec.ofChange turnBooksWrong)

/-- 'breezelaw12.TurnLegendre': WHATEVER THE INPUT: true; the input reads as it did. -/
def turnLegendreSpec : ChangeSpec := { name := "turnLegendre", fn := fun _ => fun
  | [d] => { results := [.lit (.bool true)], args := [d] }
  | _ => none }
def turnLegendreRow : OpenClaim := { program := "ytgnphlpoofaojaa", sum := "33704b327a696f60818691adbcf3b4fea37424281d1870f5df1495c00584ba20", func := "breeze/breezelaw12.TurnLegendre", spec := "turnLegendre", unfollowed := true, recurses := true, apart := false }
def TurnLegendreSaid : Prop := turnLegendreRow.holds Try.pinned (OpenSpec.ofChange turnLegendreSpec)

/-- ITS FALSE NEIGHBOUR: 'it returns false'. Refute it at one input. -/
def turnLegendreWrong : ChangeSpec := { name := "turnLegendre", fn := fun _ => fun
  | [d] => { results := [.lit (.bool false)], args := [d] }
  | _ => none }
def TurnLegendreWrongFalsely : Prop := turnLegendreRow.holds Try.pinned (OpenSpec.ofChange turnLegendreWrong)

/-- 'breezelaw12.TurnBest': WHATEVER THE INPUT: true; the input reads as it did. -/
def turnBestSpec : ChangeSpec := { name := "turnBest", fn := fun _ => fun
  | [d1, d2, d3, d4] => { results := [.lit (.bool true)], args := [d1, d2, d3, d4] }
  | _ => none }
def turnBestRow : OpenClaim := { program := "ytgnphlpoofaojaa", sum := "33704b327a696f60818691adbcf3b4fea37424281d1870f5df1495c00584ba20", func := "breeze/breezelaw12.TurnBest", spec := "turnBest", unfollowed := true, recurses := true, apart := false }
def TurnBestSaid : Prop := turnBestRow.holds Try.pinned (OpenSpec.ofChange turnBestSpec)

/-- ITS FALSE NEIGHBOUR: 'it returns false'. Refute it at one input. -/
def turnBestWrong : ChangeSpec := { name := "turnBest", fn := fun _ => fun
  | [d1, d2, d3, d4] => { results := [.lit (.bool false)], args := [d1, d2, d3, d4] }
  | _ => none }
def TurnBestWrongFalsely : Prop := turnBestRow.holds Try.pinned (OpenSpec.ofChange turnBestWrong)

/-- 'breezelaw12.TurnKnown': WHATEVER THE INPUT: true; the input reads as it did. -/
def turnKnownSpec : ChangeSpec := { name := "turnKnown", fn := fun _ => fun
  | [] => { results := [.lit (.bool true)], args := [] }
  | _ => none }
def turnKnownRow : OpenClaim := { program := "ytgnphlpoofaojaa", sum := "33704b327a696f60818691adbcf3b4fea37424281d1870f5df1495c00584ba20", func := "breeze/breezelaw12.TurnKnown", spec := "turnKnown", unfollowed := true, recurses := true, apart := false }
def TurnKnownSaid : Prop := turnKnownRow.holds Try.pinned (OpenSpec.ofChange turnKnownSpec)

/-- ITS FALSE NEIGHBOUR: 'it returns false'. Refute it at one input. -/
def turnKnownWrong : ChangeSpec := { name := "turnKnown", fn := fun _ => fun
  | [] => { results := [.lit (.bool false)], args := [] }
  | _ => none }
def TurnKnownWrongFalsely : Prop := turnKnownRow.holds Try.pinned (OpenSpec.ofChange turnKnownWrong)

/-- 'breezelaw12.TurnShifted': WHATEVER THE INPUT: true; the input reads as it did. -/
def turnShiftedSpec : ChangeSpec := { name := "turnShifted", fn := fun _ => fun
  | [d1, d2, d3, d4] => { results := [.lit (.bool true)], args := [d1, d2, d3, d4] }
  | _ => none }
def turnShiftedRow : OpenClaim := { program := "ytgnphlpoofaojaa", sum := "33704b327a696f60818691adbcf3b4fea37424281d1870f5df1495c00584ba20", func := "breeze/breezelaw12.TurnShifted", spec := "turnShifted", unfollowed := true, recurses := true, apart := false }
def TurnShiftedSaid : Prop := turnShiftedRow.holds Try.pinned (OpenSpec.ofChange turnShiftedSpec)

/-- ITS FALSE NEIGHBOUR: 'it returns false'. Refute it at one input. -/
def turnShiftedWrong : ChangeSpec := { name := "turnShifted", fn := fun _ => fun
  | [d1, d2, d3, d4] => { results := [.lit (.bool false)], args := [d1, d2, d3, d4] }
  | _ => none }
def TurnShiftedWrongFalsely : Prop := turnShiftedRow.holds Try.pinned (OpenSpec.ofChange turnShiftedWrong)

/-- 'breezelaw12.TurnFair': WHATEVER THE INPUT: true; the input reads as it did. -/
def turnFairSpec : ChangeSpec := { name := "turnFair", fn := fun _ => fun
  | [d1, d2, d3, d4] => { results := [.lit (.bool true)], args := [d1, d2, d3, d4] }
  | _ => none }
def turnFairRow : OpenClaim := { program := "ytgnphlpoofaojaa", sum := "33704b327a696f60818691adbcf3b4fea37424281d1870f5df1495c00584ba20", func := "breeze/breezelaw12.TurnFair", spec := "turnFair", unfollowed := true, recurses := true, apart := false }
def TurnFairSaid : Prop := turnFairRow.holds Try.pinned (OpenSpec.ofChange turnFairSpec)

/-- ITS FALSE NEIGHBOUR: 'it returns false'. Refute it at one input. -/
def turnFairWrong : ChangeSpec := { name := "turnFair", fn := fun _ => fun
  | [d1, d2, d3, d4] => { results := [.lit (.bool false)], args := [d1, d2, d3, d4] }
  | _ => none }
def TurnFairWrongFalsely : Prop := turnFairRow.holds Try.pinned (OpenSpec.ofChange turnFairWrong)

/-- 'breezelaw12.TurnNeeded': WHATEVER THE INPUT: true; the input reads as it did. -/
def turnNeededSpec : ChangeSpec := { name := "turnNeeded", fn := fun _ => fun
  | [d] => { results := [.lit (.bool true)], args := [d] }
  | _ => none }
def turnNeededRow : OpenClaim := { program := "ytgnphlpoofaojaa", sum := "33704b327a696f60818691adbcf3b4fea37424281d1870f5df1495c00584ba20", func := "breeze/breezelaw12.TurnNeeded", spec := "turnNeeded", unfollowed := true, recurses := true, apart := false }
def TurnNeededSaid : Prop := turnNeededRow.holds Try.pinned (OpenSpec.ofChange turnNeededSpec)

/-- ITS FALSE NEIGHBOUR: 'it returns false'. Refute it at one input. -/
def turnNeededWrong : ChangeSpec := { name := "turnNeeded", fn := fun _ => fun
  | [d] => { results := [.lit (.bool false)], args := [d] }
  | _ => none }
def TurnNeededWrongFalsely : Prop := turnNeededRow.holds Try.pinned (OpenSpec.ofChange turnNeededWrong)

/-- 'breezelaw12.TurnCovered': WHATEVER THE INPUT: true; the input reads as it did. -/
def turnCoveredSpec : ChangeSpec := { name := "turnCovered", fn := fun _ => fun
  | [d] => { results := [.lit (.bool true)], args := [d] }
  | _ => none }
def turnCoveredRow : OpenClaim := { program := "ytgnphlpoofaojaa", sum := "33704b327a696f60818691adbcf3b4fea37424281d1870f5df1495c00584ba20", func := "breeze/breezelaw12.TurnCovered", spec := "turnCovered", unfollowed := true, recurses := true, apart := false }
def TurnCoveredSaid : Prop := turnCoveredRow.holds Try.pinned (OpenSpec.ofChange turnCoveredSpec)

/-- ITS FALSE NEIGHBOUR: 'it returns false'. Refute it at one input. -/
def turnCoveredWrong : ChangeSpec := { name := "turnCovered", fn := fun _ => fun
  | [d] => { results := [.lit (.bool false)], args := [d] }
  | _ => none }
def TurnCoveredWrongFalsely : Prop := turnCoveredRow.holds Try.pinned (OpenSpec.ofChange turnCoveredWrong)

/-- 'breezelaw12.TurnBoth': WHATEVER THE INPUT: true; the input reads as it did. -/
def turnBothSpec : ChangeSpec := { name := "turnBoth", fn := fun _ => fun
  | [d1, d2] => { results := [.lit (.bool true)], args := [d1, d2] }
  | _ => none }
def turnBothRow : OpenClaim := { program := "ytgnphlpoofaojaa", sum := "33704b327a696f60818691adbcf3b4fea37424281d1870f5df1495c00584ba20", func := "breeze/breezelaw12.TurnBoth", spec := "turnBoth", unfollowed := true, recurses := true, apart := false }
def TurnBothSaid : Prop := turnBothRow.holds Try.pinned (OpenSpec.ofChange turnBothSpec)

/-- ITS FALSE NEIGHBOUR: 'it returns false'. Refute it at one input. -/
def turnBothWrong : ChangeSpec := { name := "turnBoth", fn := fun _ => fun
  | [d1, d2] => { results := [.lit (.bool false)], args := [d1, d2] }
  | _ => none }
def TurnBothWrongFalsely : Prop := turnBothRow.holds Try.pinned (OpenSpec.ofChange turnBothWrong)

/- THE SECOND FORM. 'bulk': how many values and letters a reading holds, each counted each time it is reached (what is shared counts as often as it is met; a slice's spare places count too). A statement '..UptoSaid' is the law's where the arguments, and the package variables that the reading takes, are together of bulk at most 1048576: NARROWER than '..Said'. Prove '..Said' where nothing that the law and all that it calls make is longer than what came in: it says more and counts as full. Else prove '..UptoSaid'. A law counts once. -/
mutual
def uptoBulk {H : Type} : DataW H → Nat
  | .lit (.string bytes) => bytes.length + 1
  | .lit _ => 1
  | .nil => 1
  | .ptr d => uptoBulk d + 1
  | .slice elems spare => uptoBulkAll elems + uptoBulkAll spare + 1
  | .agg parts => uptoBulkAll parts + 1
  | .iface _ d => uptoBulk d + 1
  | .map entries => uptoBulkEntries entries + 1
  | .held _ => 1
def uptoBulkAll {H : Type} : List (DataW H) → Nat
  | [] => 0
  | d :: r => uptoBulk d + uptoBulkAll r
def uptoBulkEntries {H : Type} : List (Lit × DataW H) → Nat
  | [] => 0
  | x :: r => uptoBulkEntry x + uptoBulkEntries r
def uptoBulkEntry {H : Type} : Lit × DataW H → Nat
  | (.string bytes, d) => bytes.length + uptoBulk d + 1
  | (_, d) => uptoBulk d + 1
 end
def uptoSmall : (H : Type) → List (DataW H) → Bool := fun _ ds => decide (uptoBulkAll ds ≤ 1048576)
def OpenSpec.upto (s : _root_.Go.ChangeSpec) : _root_.Go.OpenSpec := { _root_.Go.OpenSpec.ofChange s with cond := some uptoSmall }

/-- 'breezelaw12.TurnWorths', WHERE WHAT IT READS IS OF BULK AT MOST 1048576: true; the input reads as it did. -/
def turnWorthsUptoRow : OpenClaim := { program := "ytgnphlpoofaojaa", sum := "33704b327a696f60818691adbcf3b4fea37424281d1870f5df1495c00584ba20", func := "breeze/breezelaw12.TurnWorths", spec := "turnWorths", unfollowed := true, recurses := true, apart := false, narrowed := true }
def TurnWorthsUptoSaid : Prop := turnWorthsUptoRow.holds Try.pinned (OpenSpec.upto turnWorthsSpec)

/-- 'breezelaw12.TurnNeeds', WHERE WHAT IT READS IS OF BULK AT MOST 1048576: true; the input reads as it did. -/
def turnNeedsUptoRow : OpenClaim := { program := "ytgnphlpoofaojaa", sum := "33704b327a696f60818691adbcf3b4fea37424281d1870f5df1495c00584ba20", func := "breeze/breezelaw12.TurnNeeds", spec := "turnNeeds", unfollowed := true, recurses := true, apart := false, narrowed := true }
def TurnNeedsUptoSaid : Prop := turnNeedsUptoRow.holds Try.pinned (OpenSpec.upto turnNeedsSpec)

/-- 'breezelaw12.TurnCovers', WHERE WHAT IT READS IS OF BULK AT MOST 1048576: true; the input reads as it did. -/
def turnCoversUptoRow : OpenClaim := { program := "ytgnphlpoofaojaa", sum := "33704b327a696f60818691adbcf3b4fea37424281d1870f5df1495c00584ba20", func := "breeze/breezelaw12.TurnCovers", spec := "turnCovers", unfollowed := true, recurses := true, apart := false, narrowed := true }
def TurnCoversUptoSaid : Prop := turnCoversUptoRow.holds Try.pinned (OpenSpec.upto turnCoversSpec)

/-- 'breezelaw12.TurnBooks', WHERE WHAT IT READS IS OF BULK AT MOST 1048576: true; the input reads as it did. -/
def turnBooksUptoRow : OpenClaim := { program := "ytgnphlpoofaojaa", sum := "33704b327a696f60818691adbcf3b4fea37424281d1870f5df1495c00584ba20", func := "breeze/breezelaw12.TurnBooks", spec := "turnBooks", unfollowed := true, recurses := true, apart := false, narrowed := true }
def TurnBooksUptoSaid : Prop := turnBooksUptoRow.holds Try.pinned (OpenSpec.upto turnBooksSpec)

/-- 'breezelaw12.TurnLegendre', WHERE WHAT IT READS IS OF BULK AT MOST 1048576: true; the input reads as it did. -/
def turnLegendreUptoRow : OpenClaim := { program := "ytgnphlpoofaojaa", sum := "33704b327a696f60818691adbcf3b4fea37424281d1870f5df1495c00584ba20", func := "breeze/breezelaw12.TurnLegendre", spec := "turnLegendre", unfollowed := true, recurses := true, apart := false, narrowed := true }
def TurnLegendreUptoSaid : Prop := turnLegendreUptoRow.holds Try.pinned (OpenSpec.upto turnLegendreSpec)

/-- 'breezelaw12.TurnBest', WHERE WHAT IT READS IS OF BULK AT MOST 1048576: true; the input reads as it did. -/
def turnBestUptoRow : OpenClaim := { program := "ytgnphlpoofaojaa", sum := "33704b327a696f60818691adbcf3b4fea37424281d1870f5df1495c00584ba20", func := "breeze/breezelaw12.TurnBest", spec := "turnBest", unfollowed := true, recurses := true, apart := false, narrowed := true }
def TurnBestUptoSaid : Prop := turnBestUptoRow.holds Try.pinned (OpenSpec.upto turnBestSpec)

/-- 'breezelaw12.TurnKnown', WHERE WHAT IT READS IS OF BULK AT MOST 1048576: true; the input reads as it did. -/
def turnKnownUptoRow : OpenClaim := { program := "ytgnphlpoofaojaa", sum := "33704b327a696f60818691adbcf3b4fea37424281d1870f5df1495c00584ba20", func := "breeze/breezelaw12.TurnKnown", spec := "turnKnown", unfollowed := true, recurses := true, apart := false, narrowed := true }
def TurnKnownUptoSaid : Prop := turnKnownUptoRow.holds Try.pinned (OpenSpec.upto turnKnownSpec)

/-- 'breezelaw12.TurnShifted', WHERE WHAT IT READS IS OF BULK AT MOST 1048576: true; the input reads as it did. -/
def turnShiftedUptoRow : OpenClaim := { program := "ytgnphlpoofaojaa", sum := "33704b327a696f60818691adbcf3b4fea37424281d1870f5df1495c00584ba20", func := "breeze/breezelaw12.TurnShifted", spec := "turnShifted", unfollowed := true, recurses := true, apart := false, narrowed := true }
def TurnShiftedUptoSaid : Prop := turnShiftedUptoRow.holds Try.pinned (OpenSpec.upto turnShiftedSpec)

/-- 'breezelaw12.TurnFair', WHERE WHAT IT READS IS OF BULK AT MOST 1048576: true; the input reads as it did. -/
def turnFairUptoRow : OpenClaim := { program := "ytgnphlpoofaojaa", sum := "33704b327a696f60818691adbcf3b4fea37424281d1870f5df1495c00584ba20", func := "breeze/breezelaw12.TurnFair", spec := "turnFair", unfollowed := true, recurses := true, apart := false, narrowed := true }
def TurnFairUptoSaid : Prop := turnFairUptoRow.holds Try.pinned (OpenSpec.upto turnFairSpec)

/-- 'breezelaw12.TurnNeeded', WHERE WHAT IT READS IS OF BULK AT MOST 1048576: true; the input reads as it did. -/
def turnNeededUptoRow : OpenClaim := { program := "ytgnphlpoofaojaa", sum := "33704b327a696f60818691adbcf3b4fea37424281d1870f5df1495c00584ba20", func := "breeze/breezelaw12.TurnNeeded", spec := "turnNeeded", unfollowed := true, recurses := true, apart := false, narrowed := true }
def TurnNeededUptoSaid : Prop := turnNeededUptoRow.holds Try.pinned (OpenSpec.upto turnNeededSpec)

/-- 'breezelaw12.TurnCovered', WHERE WHAT IT READS IS OF BULK AT MOST 1048576: true; the input reads as it did. -/
def turnCoveredUptoRow : OpenClaim := { program := "ytgnphlpoofaojaa", sum := "33704b327a696f60818691adbcf3b4fea37424281d1870f5df1495c00584ba20", func := "breeze/breezelaw12.TurnCovered", spec := "turnCovered", unfollowed := true, recurses := true, apart := false, narrowed := true }
def TurnCoveredUptoSaid : Prop := turnCoveredUptoRow.holds Try.pinned (OpenSpec.upto turnCoveredSpec)

/-- 'breezelaw12.TurnBoth', WHERE WHAT IT READS IS OF BULK AT MOST 1048576: true; the input reads as it did. -/
def turnBothUptoRow : OpenClaim := { program := "ytgnphlpoofaojaa", sum := "33704b327a696f60818691adbcf3b4fea37424281d1870f5df1495c00584ba20", func := "breeze/breezelaw12.TurnBoth", spec := "turnBoth", unfollowed := true, recurses := true, apart := false, narrowed := true }
def TurnBothUptoSaid : Prop := turnBothUptoRow.holds Try.pinned (OpenSpec.upto turnBothSpec)

end Rows
end Go.Proofs.Ytgnphlpoofaojaa
