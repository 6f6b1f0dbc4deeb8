/-
  NARROWER THAN 'FOR EVERY INPUT', by the rows' own cells (each row's printed sentence says how): CrewChecks: laid · CrewFinds: laid · CrewJoins: laid · CrewWhys: laid · CrewRado: laid · CrewMore: laid · CrewRings: laid · CrewRanks: laid · CrewGrows: laid · CrewKnown: laid · CrewNamed: laid · CrewTrees: laid.
  DERIVED. THE GIVEN ROWS OF THIS SEAT. 12 by the template 'for every input the law returns true; each argument reads behind the call as it read before'; 0 by the template 'total and deterministic' (their statements: YtnponojgpkbagaaDoorTotals.lean).
  GIVEN WITH THE SEED: the statements are not yours to turn. If you find one false, say at which input.
  Laid BY PROGRAM, IN A SANDBOX (cutbox-rows.mjs): the forced cells as the released guide's own fill.sh prints them over the translation 037f9156080b4bdb… (all of the seat's roots in one cut). By AI agents, Wed Nov 11 2026. No macro, syntax, notation, axiom, sorry.
-/
import Derived.Test.YtnponojgpkbagaaDoorChecked
import GoSem.Claim
import GoSem.ClaimJoined
import GoSem.ClaimMapViews
import Derived.JoinedTies
import Derived.KernelRfl
namespace Go.Proofs.YtnponojgpkbagaaDoor
/- THE CELL 'sum', in the pinned program and in every row, IS THE sha256 OF THE DUMP (.gsa) THAT YtnponojgpkbagaaDoorProg.lean LOADS. Nothing in Lean hashes anything: it is a label: what it is worth is what the hold of that sum in a sandbox is worth. -/
noncomputable def Tryd.pinned : Pinned := { name := "ytnponojgpkbagaadoor", sum := "037f9156080b4bdb9435bf34f73650f84cf03211a0895d6690c60d14d195fe42", checked := Tryd.checked }
namespace Rows
def none {H : Type} : Left H := { results := [], args := [] }

/- WHAT THE LISTED PACKAGE-LEVEL VARIABLES READ AS WHEN THE CALL BEGINS. Each datum BY PROGRAM (the guide's laid-datum.mjs) off the statement by which the dump's own 'gosem.cut.vars' lays the variable. In a bare row this is a premise. The card (YtnponojgpkbagaaDoorCards.lean) ties it to the program's text. -/
def laid_math_bits_deBruijn32tab {H : Type} : DataW H := .agg [.lit (.int .u8 0), .lit (.int .u8 1), .lit (.int .u8 28), .lit (.int .u8 2), .lit (.int .u8 29), .lit (.int .u8 14), .lit (.int .u8 24), .lit (.int .u8 3), .lit (.int .u8 30), .lit (.int .u8 22), .lit (.int .u8 20), .lit (.int .u8 15), .lit (.int .u8 25), .lit (.int .u8 17), .lit (.int .u8 4), .lit (.int .u8 8), .lit (.int .u8 31), .lit (.int .u8 27), .lit (.int .u8 13), .lit (.int .u8 23), .lit (.int .u8 21), .lit (.int .u8 19), .lit (.int .u8 16), .lit (.int .u8 7), .lit (.int .u8 26), .lit (.int .u8 12), .lit (.int .u8 18), .lit (.int .u8 6), .lit (.int .u8 11), .lit (.int .u8 5), .lit (.int .u8 10), .lit (.int .u8 9)]
def laid_math_bits_deBruijn64tab {H : Type} : DataW H := .agg [.lit (.int .u8 0), .lit (.int .u8 1), .lit (.int .u8 56), .lit (.int .u8 2), .lit (.int .u8 57), .lit (.int .u8 49), .lit (.int .u8 28), .lit (.int .u8 3), .lit (.int .u8 61), .lit (.int .u8 58), .lit (.int .u8 42), .lit (.int .u8 50), .lit (.int .u8 38), .lit (.int .u8 29), .lit (.int .u8 17), .lit (.int .u8 4), .lit (.int .u8 62), .lit (.int .u8 47), .lit (.int .u8 59), .lit (.int .u8 36), .lit (.int .u8 45), .lit (.int .u8 43), .lit (.int .u8 51), .lit (.int .u8 22), .lit (.int .u8 53), .lit (.int .u8 39), .lit (.int .u8 33), .lit (.int .u8 30), .lit (.int .u8 24), .lit (.int .u8 18), .lit (.int .u8 12), .lit (.int .u8 5), .lit (.int .u8 63), .lit (.int .u8 55), .lit (.int .u8 48), .lit (.int .u8 27), .lit (.int .u8 60), .lit (.int .u8 41), .lit (.int .u8 37), .lit (.int .u8 16), .lit (.int .u8 46), .lit (.int .u8 35), .lit (.int .u8 44), .lit (.int .u8 21), .lit (.int .u8 52), .lit (.int .u8 32), .lit (.int .u8 23), .lit (.int .u8 11), .lit (.int .u8 54), .lit (.int .u8 26), .lit (.int .u8 40), .lit (.int .u8 15), .lit (.int .u8 34), .lit (.int .u8 20), .lit (.int .u8 31), .lit (.int .u8 10), .lit (.int .u8 25), .lit (.int .u8 14), .lit (.int .u8 19), .lit (.int .u8 9), .lit (.int .u8 13), .lit (.int .u8 8), .lit (.int .u8 7), .lit (.int .u8 6)]

/-- 'breezelaw10.CrewChecks': WHATEVER THE INPUT: true; the input reads as it did. -/
def crewChecksSpec : ChangeSpec := { name := "crewChecks", fn := fun _ => fun
  | [d1, d2, d3] => { results := [.lit (.bool true)], args := [d1, d2, d3] }
  | _ => none }
def crewChecksRow : OpenClaim := { program := "ytnponojgpkbagaadoor", sum := "037f9156080b4bdb9435bf34f73650f84cf03211a0895d6690c60d14d195fe42", func := "breeze/breezelaw10.CrewChecks", spec := "crewChecks", unfollowed := true, recurses := true, named := ["math/bits.deBruijn32tab", "math/bits.deBruijn64tab"], apart := false, laid := [("math/bits.deBruijn32tab", laid_math_bits_deBruijn32tab), ("math/bits.deBruijn64tab", laid_math_bits_deBruijn64tab)] }
def CrewChecksSaid : Prop := crewChecksRow.holds Tryd.pinned (OpenSpec.ofChange crewChecksSpec)

/-- ITS FALSE NEIGHBOUR: 'it returns false'. Refute it at one input. -/
def crewChecksWrong : ChangeSpec := { name := "crewChecks", fn := fun _ => fun
  | [d1, d2, d3] => { results := [.lit (.bool false)], args := [d1, d2, d3] }
  | _ => none }
def CrewChecksWrongFalsely : Prop := crewChecksRow.holds Tryd.pinned (OpenSpec.ofChange crewChecksWrong)

/-- 'breezelaw10.CrewFinds': WHATEVER THE INPUT: true; the input reads as it did. -/
def crewFindsSpec : ChangeSpec := { name := "crewFinds", fn := fun _ => fun
  | [d] => { results := [.lit (.bool true)], args := [d] }
  | _ => none }
def crewFindsRow : OpenClaim := { program := "ytnponojgpkbagaadoor", sum := "037f9156080b4bdb9435bf34f73650f84cf03211a0895d6690c60d14d195fe42", func := "breeze/breezelaw10.CrewFinds", spec := "crewFinds", unfollowed := true, recurses := true, named := ["math/bits.deBruijn32tab", "math/bits.deBruijn64tab"], apart := false, laid := [("math/bits.deBruijn32tab", laid_math_bits_deBruijn32tab), ("math/bits.deBruijn64tab", laid_math_bits_deBruijn64tab)] }
def CrewFindsSaid : Prop := crewFindsRow.holds Tryd.pinned (OpenSpec.ofChange crewFindsSpec)

/-- ITS FALSE NEIGHBOUR: 'it returns false'. Refute it at one input. -/
def crewFindsWrong : ChangeSpec := { name := "crewFinds", fn := fun _ => fun
  | [d] => { results := [.lit (.bool false)], args := [d] }
  | _ => none }
def CrewFindsWrongFalsely : Prop := crewFindsRow.holds Tryd.pinned (OpenSpec.ofChange crewFindsWrong)

/-- 'breezelaw10.CrewJoins': WHATEVER THE INPUT: true; the input reads as it did. -/
def crewJoinsSpec : ChangeSpec := { name := "crewJoins", fn := fun _ => fun
  | [d1, d2, d3] => { results := [.lit (.bool true)], args := [d1, d2, d3] }
  | _ => none }
def crewJoinsRow : OpenClaim := { program := "ytnponojgpkbagaadoor", sum := "037f9156080b4bdb9435bf34f73650f84cf03211a0895d6690c60d14d195fe42", func := "breeze/breezelaw10.CrewJoins", spec := "crewJoins", unfollowed := true, recurses := true, named := ["math/bits.deBruijn32tab", "math/bits.deBruijn64tab"], apart := false, laid := [("math/bits.deBruijn32tab", laid_math_bits_deBruijn32tab), ("math/bits.deBruijn64tab", laid_math_bits_deBruijn64tab)] }
def CrewJoinsSaid : Prop := crewJoinsRow.holds Tryd.pinned (OpenSpec.ofChange crewJoinsSpec)

/-- ITS FALSE NEIGHBOUR: 'it returns false'. Refute it at one input. -/
def crewJoinsWrong : ChangeSpec := { name := "crewJoins", fn := fun _ => fun
  | [d1, d2, d3] => { results := [.lit (.bool false)], args := [d1, d2, d3] }
  | _ => none }
def CrewJoinsWrongFalsely : Prop := crewJoinsRow.holds Tryd.pinned (OpenSpec.ofChange crewJoinsWrong)

/-- 'breezelaw10.CrewWhys': WHATEVER THE INPUT: true; the input reads as it did. -/
def crewWhysSpec : ChangeSpec := { name := "crewWhys", fn := fun _ => fun
  | [d1, d2] => { results := [.lit (.bool true)], args := [d1, d2] }
  | _ => none }
def crewWhysRow : OpenClaim := { program := "ytnponojgpkbagaadoor", sum := "037f9156080b4bdb9435bf34f73650f84cf03211a0895d6690c60d14d195fe42", func := "breeze/breezelaw10.CrewWhys", spec := "crewWhys", unfollowed := true, recurses := true, named := ["math/bits.deBruijn32tab", "math/bits.deBruijn64tab"], apart := false, laid := [("math/bits.deBruijn32tab", laid_math_bits_deBruijn32tab), ("math/bits.deBruijn64tab", laid_math_bits_deBruijn64tab)] }
def CrewWhysSaid : Prop := crewWhysRow.holds Tryd.pinned (OpenSpec.ofChange crewWhysSpec)

/-- ITS FALSE NEIGHBOUR: 'it returns false'. Refute it at one input. -/
def crewWhysWrong : ChangeSpec := { name := "crewWhys", fn := fun _ => fun
  | [d1, d2] => { results := [.lit (.bool false)], args := [d1, d2] }
  | _ => none }
def CrewWhysWrongFalsely : Prop := crewWhysRow.holds Tryd.pinned (OpenSpec.ofChange crewWhysWrong)

/-- 'breezelaw10.CrewRado': WHATEVER THE INPUT: true; the input reads as it did. -/
def crewRadoSpec : ChangeSpec := { name := "crewRado", fn := fun _ => fun
  | [d] => { results := [.lit (.bool true)], args := [d] }
  | _ => none }
def crewRadoRow : OpenClaim := { program := "ytnponojgpkbagaadoor", sum := "037f9156080b4bdb9435bf34f73650f84cf03211a0895d6690c60d14d195fe42", func := "breeze/breezelaw10.CrewRado", spec := "crewRado", unfollowed := true, recurses := true, named := ["math/bits.deBruijn32tab", "math/bits.deBruijn64tab"], apart := false, laid := [("math/bits.deBruijn32tab", laid_math_bits_deBruijn32tab), ("math/bits.deBruijn64tab", laid_math_bits_deBruijn64tab)] }
def CrewRadoSaid : Prop := crewRadoRow.holds Tryd.pinned (OpenSpec.ofChange crewRadoSpec)

/-- ITS FALSE NEIGHBOUR: 'it returns false'. Refute it at one input. -/
def crewRadoWrong : ChangeSpec := { name := "crewRado", fn := fun _ => fun
  | [d] => { results := [.lit (.bool false)], args := [d] }
  | _ => none }
def CrewRadoWrongFalsely : Prop := crewRadoRow.holds Tryd.pinned (OpenSpec.ofChange crewRadoWrong)

/-- 'breezelaw10.CrewMore': WHATEVER THE INPUT: true; the input reads as it did. -/
def crewMoreSpec : ChangeSpec := { name := "crewMore", fn := fun _ => fun
  | [d1, d2] => { results := [.lit (.bool true)], args := [d1, d2] }
  | _ => none }
def crewMoreRow : OpenClaim := { program := "ytnponojgpkbagaadoor", sum := "037f9156080b4bdb9435bf34f73650f84cf03211a0895d6690c60d14d195fe42", func := "breeze/breezelaw10.CrewMore", spec := "crewMore", unfollowed := true, recurses := true, named := ["math/bits.deBruijn32tab", "math/bits.deBruijn64tab"], apart := false, laid := [("math/bits.deBruijn32tab", laid_math_bits_deBruijn32tab), ("math/bits.deBruijn64tab", laid_math_bits_deBruijn64tab)] }
def CrewMoreSaid : Prop := crewMoreRow.holds Tryd.pinned (OpenSpec.ofChange crewMoreSpec)

/-- ITS FALSE NEIGHBOUR: 'it returns false'. Refute it at one input. -/
def crewMoreWrong : ChangeSpec := { name := "crewMore", fn := fun _ => fun
  | [d1, d2] => { results := [.lit (.bool false)], args := [d1, d2] }
  | _ => none }
def CrewMoreWrongFalsely : Prop := crewMoreRow.holds Tryd.pinned (OpenSpec.ofChange crewMoreWrong)

/-- 'breezelaw10.CrewRings': WHATEVER THE INPUT: true; the input reads as it did. -/
def crewRingsSpec : ChangeSpec := { name := "crewRings", fn := fun _ => fun
  | [d1, d2] => { results := [.lit (.bool true)], args := [d1, d2] }
  | _ => none }
def crewRingsRow : OpenClaim := { program := "ytnponojgpkbagaadoor", sum := "037f9156080b4bdb9435bf34f73650f84cf03211a0895d6690c60d14d195fe42", func := "breeze/breezelaw10.CrewRings", spec := "crewRings", unfollowed := true, recurses := true, named := ["math/bits.deBruijn32tab", "math/bits.deBruijn64tab"], apart := false, laid := [("math/bits.deBruijn32tab", laid_math_bits_deBruijn32tab), ("math/bits.deBruijn64tab", laid_math_bits_deBruijn64tab)] }
def CrewRingsSaid : Prop := crewRingsRow.holds Tryd.pinned (OpenSpec.ofChange crewRingsSpec)

/-- ITS FALSE NEIGHBOUR: 'it returns false'. Refute it at one input. -/
def crewRingsWrong : ChangeSpec := { name := "crewRings", fn := fun _ => fun
  | [d1, d2] => { results := [.lit (.bool false)], args := [d1, d2] }
  | _ => none }
def CrewRingsWrongFalsely : Prop := crewRingsRow.holds Tryd.pinned (OpenSpec.ofChange crewRingsWrong)

/-- 'breezelaw10.CrewRanks': WHATEVER THE INPUT: true; the input reads as it did. -/
def crewRanksSpec : ChangeSpec := { name := "crewRanks", fn := fun _ => fun
  | [d1, d2, d3] => { results := [.lit (.bool true)], args := [d1, d2, d3] }
  | _ => none }
def crewRanksRow : OpenClaim := { program := "ytnponojgpkbagaadoor", sum := "037f9156080b4bdb9435bf34f73650f84cf03211a0895d6690c60d14d195fe42", func := "breeze/breezelaw10.CrewRanks", spec := "crewRanks", unfollowed := true, recurses := true, named := ["math/bits.deBruijn32tab", "math/bits.deBruijn64tab"], apart := false, laid := [("math/bits.deBruijn32tab", laid_math_bits_deBruijn32tab), ("math/bits.deBruijn64tab", laid_math_bits_deBruijn64tab)] }
def CrewRanksSaid : Prop := crewRanksRow.holds Tryd.pinned (OpenSpec.ofChange crewRanksSpec)

/-- ITS FALSE NEIGHBOUR: 'it returns false'. Refute it at one input. -/
def crewRanksWrong : ChangeSpec := { name := "crewRanks", fn := fun _ => fun
  | [d1, d2, d3] => { results := [.lit (.bool false)], args := [d1, d2, d3] }
  | _ => none }
def CrewRanksWrongFalsely : Prop := crewRanksRow.holds Tryd.pinned (OpenSpec.ofChange crewRanksWrong)

/-- 'breezelaw10.CrewGrows': WHATEVER THE INPUT: true; the input reads as it did. -/
def crewGrowsSpec : ChangeSpec := { name := "crewGrows", fn := fun _ => fun
  | [d1, d2, d3] => { results := [.lit (.bool true)], args := [d1, d2, d3] }
  | _ => none }
def crewGrowsRow : OpenClaim := { program := "ytnponojgpkbagaadoor", sum := "037f9156080b4bdb9435bf34f73650f84cf03211a0895d6690c60d14d195fe42", func := "breeze/breezelaw10.CrewGrows", spec := "crewGrows", unfollowed := true, recurses := true, named := ["math/bits.deBruijn32tab", "math/bits.deBruijn64tab"], apart := false, laid := [("math/bits.deBruijn32tab", laid_math_bits_deBruijn32tab), ("math/bits.deBruijn64tab", laid_math_bits_deBruijn64tab)] }
def CrewGrowsSaid : Prop := crewGrowsRow.holds Tryd.pinned (OpenSpec.ofChange crewGrowsSpec)

/-- ITS FALSE NEIGHBOUR: 'it returns false'. Refute it at one input. -/
def crewGrowsWrong : ChangeSpec := { name := "crewGrows", fn := fun _ => fun
  | [d1, d2, d3] => { results := [.lit (.bool false)], args := [d1, d2, d3] }
  | _ => none }
def CrewGrowsWrongFalsely : Prop := crewGrowsRow.holds Tryd.pinned (OpenSpec.ofChange crewGrowsWrong)

/-- 'breezelaw10.CrewKnown': WHATEVER THE INPUT: true; the input reads as it did. -/
def crewKnownSpec : ChangeSpec := { name := "crewKnown", fn := fun _ => fun
  | [] => { results := [.lit (.bool true)], args := [] }
  | _ => none }
def crewKnownRow : OpenClaim := { program := "ytnponojgpkbagaadoor", sum := "037f9156080b4bdb9435bf34f73650f84cf03211a0895d6690c60d14d195fe42", func := "breeze/breezelaw10.CrewKnown", spec := "crewKnown", unfollowed := true, recurses := true, named := ["math/bits.deBruijn32tab", "math/bits.deBruijn64tab"], apart := false, laid := [("math/bits.deBruijn32tab", laid_math_bits_deBruijn32tab), ("math/bits.deBruijn64tab", laid_math_bits_deBruijn64tab)] }
def CrewKnownSaid : Prop := crewKnownRow.holds Tryd.pinned (OpenSpec.ofChange crewKnownSpec)

/-- ITS FALSE NEIGHBOUR: 'it returns false'. Refute it at one input. -/
def crewKnownWrong : ChangeSpec := { name := "crewKnown", fn := fun _ => fun
  | [] => { results := [.lit (.bool false)], args := [] }
  | _ => none }
def CrewKnownWrongFalsely : Prop := crewKnownRow.holds Tryd.pinned (OpenSpec.ofChange crewKnownWrong)

/-- 'breezelaw10.CrewNamed': WHATEVER THE INPUT: true; the input reads as it did. -/
def crewNamedSpec : ChangeSpec := { name := "crewNamed", fn := fun _ => fun
  | [d1, d2, d3] => { results := [.lit (.bool true)], args := [d1, d2, d3] }
  | _ => none }
def crewNamedRow : OpenClaim := { program := "ytnponojgpkbagaadoor", sum := "037f9156080b4bdb9435bf34f73650f84cf03211a0895d6690c60d14d195fe42", func := "breeze/breezelaw10.CrewNamed", spec := "crewNamed", unfollowed := true, recurses := true, named := ["math/bits.deBruijn32tab", "math/bits.deBruijn64tab"], apart := false, laid := [("math/bits.deBruijn32tab", laid_math_bits_deBruijn32tab), ("math/bits.deBruijn64tab", laid_math_bits_deBruijn64tab)] }
def CrewNamedSaid : Prop := crewNamedRow.holds Tryd.pinned (OpenSpec.ofChange crewNamedSpec)

/-- ITS FALSE NEIGHBOUR: 'it returns false'. Refute it at one input. -/
def crewNamedWrong : ChangeSpec := { name := "crewNamed", fn := fun _ => fun
  | [d1, d2, d3] => { results := [.lit (.bool false)], args := [d1, d2, d3] }
  | _ => none }
def CrewNamedWrongFalsely : Prop := crewNamedRow.holds Tryd.pinned (OpenSpec.ofChange crewNamedWrong)

/-- 'breezelaw10.CrewTrees': WHATEVER THE INPUT: true; the input reads as it did. -/
def crewTreesSpec : ChangeSpec := { name := "crewTrees", fn := fun _ => fun
  | [d1, d2] => { results := [.lit (.bool true)], args := [d1, d2] }
  | _ => none }
def crewTreesRow : OpenClaim := { program := "ytnponojgpkbagaadoor", sum := "037f9156080b4bdb9435bf34f73650f84cf03211a0895d6690c60d14d195fe42", func := "breeze/breezelaw10.CrewTrees", spec := "crewTrees", unfollowed := true, recurses := true, named := ["math/bits.deBruijn32tab", "math/bits.deBruijn64tab"], apart := false, laid := [("math/bits.deBruijn32tab", laid_math_bits_deBruijn32tab), ("math/bits.deBruijn64tab", laid_math_bits_deBruijn64tab)] }
def CrewTreesSaid : Prop := crewTreesRow.holds Tryd.pinned (OpenSpec.ofChange crewTreesSpec)

/-- ITS FALSE NEIGHBOUR: 'it returns false'. Refute it at one input. -/
def crewTreesWrong : ChangeSpec := { name := "crewTrees", fn := fun _ => fun
  | [d1, d2] => { results := [.lit (.bool false)], args := [d1, d2] }
  | _ => none }
def CrewTreesWrongFalsely : Prop := crewTreesRow.holds Tryd.pinned (OpenSpec.ofChange crewTreesWrong)

/- THE SECOND FORM. 'bulk': how many values and letters a reading holds, each counted each time it is reached (what is shared counts as often as it is met; a slice's spare places count too). A statement '..UptoSaid' is the law's where the arguments, and the package variables that the reading takes, are together of bulk at most 1048576: NARROWER than '..Said'. Prove '..Said' where nothing that the law and all that it calls make is longer than what came in: it says more and counts as full. Else prove '..UptoSaid'. A law counts once. -/
mutual
def uptoBulk {H : Type} : DataW H → Nat
  | .lit (.string bytes) => bytes.length + 1
  | .lit _ => 1
  | .nil => 1
  | .ptr d => uptoBulk d + 1
  | .slice elems spare => uptoBulkAll elems + uptoBulkAll spare + 1
  | .agg parts => uptoBulkAll parts + 1
  | .iface _ d => uptoBulk d + 1
  | .map entries => uptoBulkEntries entries + 1
  | .held _ => 1
def uptoBulkAll {H : Type} : List (DataW H) → Nat
  | [] => 0
  | d :: r => uptoBulk d + uptoBulkAll r
def uptoBulkEntries {H : Type} : List (Lit × DataW H) → Nat
  | [] => 0
  | x :: r => uptoBulkEntry x + uptoBulkEntries r
def uptoBulkEntry {H : Type} : Lit × DataW H → Nat
  | (.string bytes, d) => bytes.length + uptoBulk d + 1
  | (_, d) => uptoBulk d + 1
 end
def uptoSmall : (H : Type) → List (DataW H) → Bool := fun _ ds => decide (uptoBulkAll ds ≤ 1048576)
def OpenSpec.upto (s : _root_.Go.ChangeSpec) : _root_.Go.OpenSpec := { _root_.Go.OpenSpec.ofChange s with cond := some uptoSmall }

/-- 'breezelaw10.CrewChecks', WHERE WHAT IT READS IS OF BULK AT MOST 1048576: true; the input reads as it did. -/
def crewChecksUptoRow : OpenClaim := { program := "ytnponojgpkbagaadoor", sum := "037f9156080b4bdb9435bf34f73650f84cf03211a0895d6690c60d14d195fe42", func := "breeze/breezelaw10.CrewChecks", spec := "crewChecks", unfollowed := true, recurses := true, named := ["math/bits.deBruijn32tab", "math/bits.deBruijn64tab"], apart := false, laid := [("math/bits.deBruijn32tab", laid_math_bits_deBruijn32tab), ("math/bits.deBruijn64tab", laid_math_bits_deBruijn64tab)], narrowed := true }
def CrewChecksUptoSaid : Prop := crewChecksUptoRow.holds Tryd.pinned (OpenSpec.upto crewChecksSpec)

/-- 'breezelaw10.CrewFinds', WHERE WHAT IT READS IS OF BULK AT MOST 1048576: true; the input reads as it did. -/
def crewFindsUptoRow : OpenClaim := { program := "ytnponojgpkbagaadoor", sum := "037f9156080b4bdb9435bf34f73650f84cf03211a0895d6690c60d14d195fe42", func := "breeze/breezelaw10.CrewFinds", spec := "crewFinds", unfollowed := true, recurses := true, named := ["math/bits.deBruijn32tab", "math/bits.deBruijn64tab"], apart := false, laid := [("math/bits.deBruijn32tab", laid_math_bits_deBruijn32tab), ("math/bits.deBruijn64tab", laid_math_bits_deBruijn64tab)], narrowed := true }
def CrewFindsUptoSaid : Prop := crewFindsUptoRow.holds Tryd.pinned (OpenSpec.upto crewFindsSpec)

/-- 'breezelaw10.CrewJoins', WHERE WHAT IT READS IS OF BULK AT MOST 1048576: true; the input reads as it did. -/
def crewJoinsUptoRow : OpenClaim := { program := "ytnponojgpkbagaadoor", sum := "037f9156080b4bdb9435bf34f73650f84cf03211a0895d6690c60d14d195fe42", func := "breeze/breezelaw10.CrewJoins", spec := "crewJoins", unfollowed := true, recurses := true, named := ["math/bits.deBruijn32tab", "math/bits.deBruijn64tab"], apart := false, laid := [("math/bits.deBruijn32tab", laid_math_bits_deBruijn32tab), ("math/bits.deBruijn64tab", laid_math_bits_deBruijn64tab)], narrowed := true }
def CrewJoinsUptoSaid : Prop := crewJoinsUptoRow.holds Tryd.pinned (OpenSpec.upto crewJoinsSpec)

/-- 'breezelaw10.CrewWhys', WHERE WHAT IT READS IS OF BULK AT MOST 1048576: true; the input reads as it did. -/
def crewWhysUptoRow : OpenClaim := { program := "ytnponojgpkbagaadoor", sum := "037f9156080b4bdb9435bf34f73650f84cf03211a0895d6690c60d14d195fe42", func := "breeze/breezelaw10.CrewWhys", spec := "crewWhys", unfollowed := true, recurses := true, named := ["math/bits.deBruijn32tab", "math/bits.deBruijn64tab"], apart := false, laid := [("math/bits.deBruijn32tab", laid_math_bits_deBruijn32tab), ("math/bits.deBruijn64tab", laid_math_bits_deBruijn64tab)], narrowed := true }
def CrewWhysUptoSaid : Prop := crewWhysUptoRow.holds Tryd.pinned (OpenSpec.upto crewWhysSpec)

/-- 'breezelaw10.CrewRado', WHERE WHAT IT READS IS OF BULK AT MOST 1048576: true; the input reads as it did. -/
def crewRadoUptoRow : OpenClaim := { program := "ytnponojgpkbagaadoor", sum := "037f9156080b4bdb9435bf34f73650f84cf03211a0895d6690c60d14d195fe42", func := "breeze/breezelaw10.CrewRado", spec := "crewRado", unfollowed := true, recurses := true, named := ["math/bits.deBruijn32tab", "math/bits.deBruijn64tab"], apart := false, laid := [("math/bits.deBruijn32tab", laid_math_bits_deBruijn32tab), ("math/bits.deBruijn64tab", laid_math_bits_deBruijn64tab)], narrowed := true }
def CrewRadoUptoSaid : Prop := crewRadoUptoRow.holds Tryd.pinned (OpenSpec.upto crewRadoSpec)

/-- 'breezelaw10.CrewMore', WHERE WHAT IT READS IS OF BULK AT MOST 1048576: true; the input reads as it did. -/
def crewMoreUptoRow : OpenClaim := { program := "ytnponojgpkbagaadoor", sum := "037f9156080b4bdb9435bf34f73650f84cf03211a0895d6690c60d14d195fe42", func := "breeze/breezelaw10.CrewMore", spec := "crewMore", unfollowed := true, recurses := true, named := ["math/bits.deBruijn32tab", "math/bits.deBruijn64tab"], apart := false, laid := [("math/bits.deBruijn32tab", laid_math_bits_deBruijn32tab), ("math/bits.deBruijn64tab", laid_math_bits_deBruijn64tab)], narrowed := true }
def CrewMoreUptoSaid : Prop := crewMoreUptoRow.holds Tryd.pinned (OpenSpec.upto crewMoreSpec)

/-- 'breezelaw10.CrewRings', WHERE WHAT IT READS IS OF BULK AT MOST 1048576: true; the input reads as it did. -/
def crewRingsUptoRow : OpenClaim := { program := "ytnponojgpkbagaadoor", sum := "037f9156080b4bdb9435bf34f73650f84cf03211a0895d6690c60d14d195fe42", func := "breeze/breezelaw10.CrewRings", spec := "crewRings", unfollowed := true, recurses := true, named := ["math/bits.deBruijn32tab", "math/bits.deBruijn64tab"], apart := false, laid := [("math/bits.deBruijn32tab", laid_math_bits_deBruijn32tab), ("math/bits.deBruijn64tab", laid_math_bits_deBruijn64tab)], narrowed := true }
def CrewRingsUptoSaid : Prop := crewRingsUptoRow.holds Tryd.pinned (OpenSpec.upto crewRingsSpec)

/-- 'breezelaw10.CrewRanks', WHERE WHAT IT READS IS OF BULK AT MOST 1048576: true; the input reads as it did. -/
def crewRanksUptoRow : OpenClaim := { program := "ytnponojgpkbagaadoor", sum := "037f9156080b4bdb9435bf34f73650f84cf03211a0895d6690c60d14d195fe42", func := "breeze/breezelaw10.CrewRanks", spec := "crewRanks", unfollowed := true, recurses := true, named := ["math/bits.deBruijn32tab", "math/bits.deBruijn64tab"], apart := false, laid := [("math/bits.deBruijn32tab", laid_math_bits_deBruijn32tab), ("math/bits.deBruijn64tab", laid_math_bits_deBruijn64tab)], narrowed := true }
def CrewRanksUptoSaid : Prop := crewRanksUptoRow.holds Tryd.pinned (OpenSpec.upto crewRanksSpec)

/-- 'breezelaw10.CrewGrows', WHERE WHAT IT READS IS OF BULK AT MOST 1048576: true; the input reads as it did. -/
def crewGrowsUptoRow : OpenClaim := { program := "ytnponojgpkbagaadoor", sum := "037f9156080b4bdb9435bf34f73650f84cf03211a0895d6690c60d14d195fe42", func := "breeze/breezelaw10.CrewGrows", spec := "crewGrows", unfollowed := true, recurses := true, named := ["math/bits.deBruijn32tab", "math/bits.deBruijn64tab"], apart := false, laid := [("math/bits.deBruijn32tab", laid_math_bits_deBruijn32tab), ("math/bits.deBruijn64tab", laid_math_bits_deBruijn64tab)], narrowed := true }
def CrewGrowsUptoSaid : Prop := crewGrowsUptoRow.holds Tryd.pinned (OpenSpec.upto crewGrowsSpec)

/-- 'breezelaw10.CrewKnown', WHERE WHAT IT READS IS OF BULK AT MOST 1048576: true; the input reads as it did. -/
def crewKnownUptoRow : OpenClaim := { program := "ytnponojgpkbagaadoor", sum := "037f9156080b4bdb9435bf34f73650f84cf03211a0895d6690c60d14d195fe42", func := "breeze/breezelaw10.CrewKnown", spec := "crewKnown", unfollowed := true, recurses := true, named := ["math/bits.deBruijn32tab", "math/bits.deBruijn64tab"], apart := false, laid := [("math/bits.deBruijn32tab", laid_math_bits_deBruijn32tab), ("math/bits.deBruijn64tab", laid_math_bits_deBruijn64tab)], narrowed := true }
def CrewKnownUptoSaid : Prop := crewKnownUptoRow.holds Tryd.pinned (OpenSpec.upto crewKnownSpec)

/-- 'breezelaw10.CrewNamed', WHERE WHAT IT READS IS OF BULK AT MOST 1048576: true; the input reads as it did. -/
def crewNamedUptoRow : OpenClaim := { program := "ytnponojgpkbagaadoor", sum := "037f9156080b4bdb9435bf34f73650f84cf03211a0895d6690c60d14d195fe42", func := "breeze/breezelaw10.CrewNamed", spec := "crewNamed", unfollowed := true, recurses := true, named := ["math/bits.deBruijn32tab", "math/bits.deBruijn64tab"], apart := false, laid := [("math/bits.deBruijn32tab", laid_math_bits_deBruijn32tab), ("math/bits.deBruijn64tab", laid_math_bits_deBruijn64tab)], narrowed := true }
def CrewNamedUptoSaid : Prop := crewNamedUptoRow.holds Tryd.pinned (OpenSpec.upto crewNamedSpec)

/-- 'breezelaw10.CrewTrees', WHERE WHAT IT READS IS OF BULK AT MOST 1048576: true; the input reads as it did. -/
def crewTreesUptoRow : OpenClaim := { program := "ytnponojgpkbagaadoor", sum := "037f9156080b4bdb9435bf34f73650f84cf03211a0895d6690c60d14d195fe42", func := "breeze/breezelaw10.CrewTrees", spec := "crewTrees", unfollowed := true, recurses := true, named := ["math/bits.deBruijn32tab", "math/bits.deBruijn64tab"], apart := false, laid := [("math/bits.deBruijn32tab", laid_math_bits_deBruijn32tab), ("math/bits.deBruijn64tab", laid_math_bits_deBruijn64tab)], narrowed := true }
def CrewTreesUptoSaid : Prop := crewTreesUptoRow.holds Tryd.pinned (OpenSpec.upto crewTreesSpec)

end Rows
end Go.Proofs.YtnponojgpkbagaaDoor
