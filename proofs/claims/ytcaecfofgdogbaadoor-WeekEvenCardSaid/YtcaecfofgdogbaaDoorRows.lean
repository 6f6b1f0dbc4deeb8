/-
  NARROWER THAN 'FOR EVERY INPUT', by the rows' own cells (each row's printed sentence says how): WeekRows: laid · WeekFulls: laid · WeekHall: laid · WeekFilled: laid · WeekTurned: laid · WeekCrossed: laid · WeekEven: laid · WeekAll: laid · WeekCorners: laid · WeekKnown: laid · WeekNamed: laid · WeekRyser: laid.
  DERIVED. THE GIVEN ROWS OF THIS SEAT. 12 by the template 'for every input the law returns true; each argument reads behind the call as it read before'; 0 by the template 'total and deterministic' (their statements: YtcaecfofgdogbaaDoorTotals.lean).
  GIVEN WITH THE SEED: the statements are not yours to turn. If you find one false, say at which input.
  Laid BY PROGRAM, IN A SANDBOX (cutbox-rows.mjs): the forced cells as the released guide's own fill.sh prints them over the translation b506e96c313e4101… (all of the seat's roots in one cut). By AI agents, Wed Nov 11 2026. No macro, syntax, notation, axiom, sorry.
-/
import Derived.Test.YtcaecfofgdogbaaDoorChecked
import GoSem.Claim
import GoSem.ClaimJoined
import GoSem.ClaimMapViews
import Derived.JoinedTies
import Derived.KernelRfl
namespace Go.Proofs.YtcaecfofgdogbaaDoor
/- THE CELL 'sum', in the pinned program and in every row, IS THE sha256 OF THE DUMP (.gsa) THAT YtcaecfofgdogbaaDoorProg.lean LOADS. Nothing in Lean hashes anything: it is a label: what it is worth is what the hold of that sum in a sandbox is worth. -/
noncomputable def Tryd.pinned : Pinned := { name := "ytcaecfofgdogbaadoor", sum := "b506e96c313e4101bec415b31d6ef6be89d40df921f83eee5407471dd6c45354", checked := Tryd.checked }
namespace Rows
def none {H : Type} : Left H := { results := [], args := [] }

/- WHAT THE LISTED PACKAGE-LEVEL VARIABLES READ AS WHEN THE CALL BEGINS. Each datum BY PROGRAM (the guide's laid-datum.mjs) off the statement by which the dump's own 'gosem.cut.vars' lays the variable. In a bare row this is a premise. The card (YtcaecfofgdogbaaDoorCards.lean) ties it to the program's text. -/
def laid_math_bits_deBruijn32tab {H : Type} : DataW H := .agg [.lit (.int .u8 0), .lit (.int .u8 1), .lit (.int .u8 28), .lit (.int .u8 2), .lit (.int .u8 29), .lit (.int .u8 14), .lit (.int .u8 24), .lit (.int .u8 3), .lit (.int .u8 30), .lit (.int .u8 22), .lit (.int .u8 20), .lit (.int .u8 15), .lit (.int .u8 25), .lit (.int .u8 17), .lit (.int .u8 4), .lit (.int .u8 8), .lit (.int .u8 31), .lit (.int .u8 27), .lit (.int .u8 13), .lit (.int .u8 23), .lit (.int .u8 21), .lit (.int .u8 19), .lit (.int .u8 16), .lit (.int .u8 7), .lit (.int .u8 26), .lit (.int .u8 12), .lit (.int .u8 18), .lit (.int .u8 6), .lit (.int .u8 11), .lit (.int .u8 5), .lit (.int .u8 10), .lit (.int .u8 9)]
def laid_math_bits_deBruijn64tab {H : Type} : DataW H := .agg [.lit (.int .u8 0), .lit (.int .u8 1), .lit (.int .u8 56), .lit (.int .u8 2), .lit (.int .u8 57), .lit (.int .u8 49), .lit (.int .u8 28), .lit (.int .u8 3), .lit (.int .u8 61), .lit (.int .u8 58), .lit (.int .u8 42), .lit (.int .u8 50), .lit (.int .u8 38), .lit (.int .u8 29), .lit (.int .u8 17), .lit (.int .u8 4), .lit (.int .u8 62), .lit (.int .u8 47), .lit (.int .u8 59), .lit (.int .u8 36), .lit (.int .u8 45), .lit (.int .u8 43), .lit (.int .u8 51), .lit (.int .u8 22), .lit (.int .u8 53), .lit (.int .u8 39), .lit (.int .u8 33), .lit (.int .u8 30), .lit (.int .u8 24), .lit (.int .u8 18), .lit (.int .u8 12), .lit (.int .u8 5), .lit (.int .u8 63), .lit (.int .u8 55), .lit (.int .u8 48), .lit (.int .u8 27), .lit (.int .u8 60), .lit (.int .u8 41), .lit (.int .u8 37), .lit (.int .u8 16), .lit (.int .u8 46), .lit (.int .u8 35), .lit (.int .u8 44), .lit (.int .u8 21), .lit (.int .u8 52), .lit (.int .u8 32), .lit (.int .u8 23), .lit (.int .u8 11), .lit (.int .u8 54), .lit (.int .u8 26), .lit (.int .u8 40), .lit (.int .u8 15), .lit (.int .u8 34), .lit (.int .u8 20), .lit (.int .u8 31), .lit (.int .u8 10), .lit (.int .u8 25), .lit (.int .u8 14), .lit (.int .u8 19), .lit (.int .u8 9), .lit (.int .u8 13), .lit (.int .u8 8), .lit (.int .u8 7), .lit (.int .u8 6)]

/-- 'breezelaw03.WeekRows': WHATEVER THE INPUT: true; the input reads as it did. -/
def weekRowsSpec : ChangeSpec := { name := "weekRows", fn := fun _ => fun
  | [d1, d2] => { results := [.lit (.bool true)], args := [d1, d2] }
  | _ => none }
def weekRowsRow : OpenClaim := { program := "ytcaecfofgdogbaadoor", sum := "b506e96c313e4101bec415b31d6ef6be89d40df921f83eee5407471dd6c45354", func := "breeze/breezelaw03.WeekRows", spec := "weekRows", unfollowed := true, recurses := true, named := ["math/bits.deBruijn32tab", "math/bits.deBruijn64tab"], apart := false, laid := [("math/bits.deBruijn32tab", laid_math_bits_deBruijn32tab), ("math/bits.deBruijn64tab", laid_math_bits_deBruijn64tab)] }
def WeekRowsSaid : Prop := weekRowsRow.holds Tryd.pinned (OpenSpec.ofChange weekRowsSpec)

/-- ITS FALSE NEIGHBOUR: 'it returns false'. Refute it at one input. -/
def weekRowsWrong : ChangeSpec := { name := "weekRows", fn := fun _ => fun
  | [d1, d2] => { results := [.lit (.bool false)], args := [d1, d2] }
  | _ => none }
def WeekRowsWrongFalsely : Prop := weekRowsRow.holds Tryd.pinned (OpenSpec.ofChange weekRowsWrong)

/-- 'breezelaw03.WeekFulls': WHATEVER THE INPUT: true; the input reads as it did. -/
def weekFullsSpec : ChangeSpec := { name := "weekFulls", fn := fun _ => fun
  | [d1, d2] => { results := [.lit (.bool true)], args := [d1, d2] }
  | _ => none }
def weekFullsRow : OpenClaim := { program := "ytcaecfofgdogbaadoor", sum := "b506e96c313e4101bec415b31d6ef6be89d40df921f83eee5407471dd6c45354", func := "breeze/breezelaw03.WeekFulls", spec := "weekFulls", unfollowed := true, recurses := true, named := ["math/bits.deBruijn32tab", "math/bits.deBruijn64tab"], apart := false, laid := [("math/bits.deBruijn32tab", laid_math_bits_deBruijn32tab), ("math/bits.deBruijn64tab", laid_math_bits_deBruijn64tab)] }
def WeekFullsSaid : Prop := weekFullsRow.holds Tryd.pinned (OpenSpec.ofChange weekFullsSpec)

/-- ITS FALSE NEIGHBOUR: 'it returns false'. Refute it at one input. -/
def weekFullsWrong : ChangeSpec := { name := "weekFulls", fn := fun _ => fun
  | [d1, d2] => { results := [.lit (.bool false)], args := [d1, d2] }
  | _ => none }
def WeekFullsWrongFalsely : Prop := weekFullsRow.holds Tryd.pinned (OpenSpec.ofChange weekFullsWrong)

/-- 'breezelaw03.WeekHall': WHATEVER THE INPUT: true; the input reads as it did. -/
def weekHallSpec : ChangeSpec := { name := "weekHall", fn := fun _ => fun
  | [d] => { results := [.lit (.bool true)], args := [d] }
  | _ => none }
def weekHallRow : OpenClaim := { program := "ytcaecfofgdogbaadoor", sum := "b506e96c313e4101bec415b31d6ef6be89d40df921f83eee5407471dd6c45354", func := "breeze/breezelaw03.WeekHall", spec := "weekHall", unfollowed := true, recurses := true, named := ["math/bits.deBruijn32tab", "math/bits.deBruijn64tab"], apart := false, laid := [("math/bits.deBruijn32tab", laid_math_bits_deBruijn32tab), ("math/bits.deBruijn64tab", laid_math_bits_deBruijn64tab)] }
def WeekHallSaid : Prop := weekHallRow.holds Tryd.pinned (OpenSpec.ofChange weekHallSpec)

/-- ITS FALSE NEIGHBOUR: 'it returns false'. Refute it at one input. -/
def weekHallWrong : ChangeSpec := { name := "weekHall", fn := fun _ => fun
  | [d] => { results := [.lit (.bool false)], args := [d] }
  | _ => none }
def WeekHallWrongFalsely : Prop := weekHallRow.holds Tryd.pinned (OpenSpec.ofChange weekHallWrong)

/-- 'breezelaw03.WeekFilled': WHATEVER THE INPUT: true; the input reads as it did. -/
def weekFilledSpec : ChangeSpec := { name := "weekFilled", fn := fun _ => fun
  | [d] => { results := [.lit (.bool true)], args := [d] }
  | _ => none }
def weekFilledRow : OpenClaim := { program := "ytcaecfofgdogbaadoor", sum := "b506e96c313e4101bec415b31d6ef6be89d40df921f83eee5407471dd6c45354", func := "breeze/breezelaw03.WeekFilled", spec := "weekFilled", unfollowed := true, recurses := true, named := ["math/bits.deBruijn32tab", "math/bits.deBruijn64tab"], apart := false, laid := [("math/bits.deBruijn32tab", laid_math_bits_deBruijn32tab), ("math/bits.deBruijn64tab", laid_math_bits_deBruijn64tab)] }
def WeekFilledSaid : Prop := weekFilledRow.holds Tryd.pinned (OpenSpec.ofChange weekFilledSpec)

/-- ITS FALSE NEIGHBOUR: 'it returns false'. Refute it at one input. -/
def weekFilledWrong : ChangeSpec := { name := "weekFilled", fn := fun _ => fun
  | [d] => { results := [.lit (.bool false)], args := [d] }
  | _ => none }
def WeekFilledWrongFalsely : Prop := weekFilledRow.holds Tryd.pinned (OpenSpec.ofChange weekFilledWrong)

/-- 'breezelaw03.WeekTurned': WHATEVER THE INPUT: true; the input reads as it did. -/
def weekTurnedSpec : ChangeSpec := { name := "weekTurned", fn := fun _ => fun
  | [d] => { results := [.lit (.bool true)], args := [d] }
  | _ => none }
def weekTurnedRow : OpenClaim := { program := "ytcaecfofgdogbaadoor", sum := "b506e96c313e4101bec415b31d6ef6be89d40df921f83eee5407471dd6c45354", func := "breeze/breezelaw03.WeekTurned", spec := "weekTurned", unfollowed := true, recurses := true, named := ["math/bits.deBruijn32tab", "math/bits.deBruijn64tab"], apart := false, laid := [("math/bits.deBruijn32tab", laid_math_bits_deBruijn32tab), ("math/bits.deBruijn64tab", laid_math_bits_deBruijn64tab)] }
def WeekTurnedSaid : Prop := weekTurnedRow.holds Tryd.pinned (OpenSpec.ofChange weekTurnedSpec)

/-- ITS FALSE NEIGHBOUR: 'it returns false'. Refute it at one input. -/
def weekTurnedWrong : ChangeSpec := { name := "weekTurned", fn := fun _ => fun
  | [d] => { results := [.lit (.bool false)], args := [d] }
  | _ => none }
def WeekTurnedWrongFalsely : Prop := weekTurnedRow.holds Tryd.pinned (OpenSpec.ofChange weekTurnedWrong)

/-- 'breezelaw03.WeekCrossed': WHATEVER THE INPUT: true; the input reads as it did. -/
def weekCrossedSpec : ChangeSpec := { name := "weekCrossed", fn := fun _ => fun
  | [d] => { results := [.lit (.bool true)], args := [d] }
  | _ => none }
def weekCrossedRow : OpenClaim := { program := "ytcaecfofgdogbaadoor", sum := "b506e96c313e4101bec415b31d6ef6be89d40df921f83eee5407471dd6c45354", func := "breeze/breezelaw03.WeekCrossed", spec := "weekCrossed", unfollowed := true, recurses := true, named := ["math/bits.deBruijn32tab", "math/bits.deBruijn64tab"], apart := false, laid := [("math/bits.deBruijn32tab", laid_math_bits_deBruijn32tab), ("math/bits.deBruijn64tab", laid_math_bits_deBruijn64tab)] }
def WeekCrossedSaid : Prop := weekCrossedRow.holds Tryd.pinned (OpenSpec.ofChange weekCrossedSpec)

/-- ITS FALSE NEIGHBOUR: 'it returns false'. Refute it at one input. -/
def weekCrossedWrong : ChangeSpec := { name := "weekCrossed", fn := fun _ => fun
  | [d] => { results := [.lit (.bool false)], args := [d] }
  | _ => none }
def WeekCrossedWrongFalsely : Prop := weekCrossedRow.holds Tryd.pinned (OpenSpec.ofChange weekCrossedWrong)

/-- 'breezelaw03.WeekEven': WHATEVER THE INPUT: true; the input reads as it did. -/
def weekEvenSpec : ChangeSpec := { name := "weekEven", fn := fun _ => fun
  | [d1, d2, d3] => { results := [.lit (.bool true)], args := [d1, d2, d3] }
  | _ => none }
def weekEvenRow : OpenClaim := { program := "ytcaecfofgdogbaadoor", sum := "b506e96c313e4101bec415b31d6ef6be89d40df921f83eee5407471dd6c45354", func := "breeze/breezelaw03.WeekEven", spec := "weekEven", unfollowed := true, recurses := true, named := ["math/bits.deBruijn32tab", "math/bits.deBruijn64tab"], apart := false, laid := [("math/bits.deBruijn32tab", laid_math_bits_deBruijn32tab), ("math/bits.deBruijn64tab", laid_math_bits_deBruijn64tab)] }
def WeekEvenSaid : Prop := weekEvenRow.holds Tryd.pinned (OpenSpec.ofChange weekEvenSpec)

/-- ITS FALSE NEIGHBOUR: 'it returns false'. Refute it at one input. -/
def weekEvenWrong : ChangeSpec := { name := "weekEven", fn := fun _ => fun
  | [d1, d2, d3] => { results := [.lit (.bool false)], args := [d1, d2, d3] }
  | _ => none }
def WeekEvenWrongFalsely : Prop := weekEvenRow.holds Tryd.pinned (OpenSpec.ofChange weekEvenWrong)

/-- 'breezelaw03.WeekAll': WHATEVER THE INPUT: true; the input reads as it did. -/
def weekAllSpec : ChangeSpec := { name := "weekAll", fn := fun _ => fun
  | [d] => { results := [.lit (.bool true)], args := [d] }
  | _ => none }
def weekAllRow : OpenClaim := { program := "ytcaecfofgdogbaadoor", sum := "b506e96c313e4101bec415b31d6ef6be89d40df921f83eee5407471dd6c45354", func := "breeze/breezelaw03.WeekAll", spec := "weekAll", unfollowed := true, recurses := true, named := ["math/bits.deBruijn32tab", "math/bits.deBruijn64tab"], apart := false, laid := [("math/bits.deBruijn32tab", laid_math_bits_deBruijn32tab), ("math/bits.deBruijn64tab", laid_math_bits_deBruijn64tab)] }
def WeekAllSaid : Prop := weekAllRow.holds Tryd.pinned (OpenSpec.ofChange weekAllSpec)

/-- ITS FALSE NEIGHBOUR: 'it returns false'. Refute it at one input. -/
def weekAllWrong : ChangeSpec := { name := "weekAll", fn := fun _ => fun
  | [d] => { results := [.lit (.bool false)], args := [d] }
  | _ => none }
def WeekAllWrongFalsely : Prop := weekAllRow.holds Tryd.pinned (OpenSpec.ofChange weekAllWrong)

/-- 'breezelaw03.WeekCorners': WHATEVER THE INPUT: true; the input reads as it did. -/
def weekCornersSpec : ChangeSpec := { name := "weekCorners", fn := fun _ => fun
  | [d1, d2, d3] => { results := [.lit (.bool true)], args := [d1, d2, d3] }
  | _ => none }
def weekCornersRow : OpenClaim := { program := "ytcaecfofgdogbaadoor", sum := "b506e96c313e4101bec415b31d6ef6be89d40df921f83eee5407471dd6c45354", func := "breeze/breezelaw03.WeekCorners", spec := "weekCorners", unfollowed := true, recurses := true, named := ["math/bits.deBruijn32tab", "math/bits.deBruijn64tab"], apart := false, laid := [("math/bits.deBruijn32tab", laid_math_bits_deBruijn32tab), ("math/bits.deBruijn64tab", laid_math_bits_deBruijn64tab)] }
def WeekCornersSaid : Prop := weekCornersRow.holds Tryd.pinned (OpenSpec.ofChange weekCornersSpec)

/-- ITS FALSE NEIGHBOUR: 'it returns false'. Refute it at one input. -/
def weekCornersWrong : ChangeSpec := { name := "weekCorners", fn := fun _ => fun
  | [d1, d2, d3] => { results := [.lit (.bool false)], args := [d1, d2, d3] }
  | _ => none }
def WeekCornersWrongFalsely : Prop := weekCornersRow.holds Tryd.pinned (OpenSpec.ofChange weekCornersWrong)

/-- 'breezelaw03.WeekKnown': WHATEVER THE INPUT: true; the input reads as it did. -/
def weekKnownSpec : ChangeSpec := { name := "weekKnown", fn := fun _ => fun
  | [] => { results := [.lit (.bool true)], args := [] }
  | _ => none }
def weekKnownRow : OpenClaim := { program := "ytcaecfofgdogbaadoor", sum := "b506e96c313e4101bec415b31d6ef6be89d40df921f83eee5407471dd6c45354", func := "breeze/breezelaw03.WeekKnown", spec := "weekKnown", unfollowed := true, recurses := true, named := ["math/bits.deBruijn32tab", "math/bits.deBruijn64tab"], apart := false, laid := [("math/bits.deBruijn32tab", laid_math_bits_deBruijn32tab), ("math/bits.deBruijn64tab", laid_math_bits_deBruijn64tab)] }
def WeekKnownSaid : Prop := weekKnownRow.holds Tryd.pinned (OpenSpec.ofChange weekKnownSpec)

/-- ITS FALSE NEIGHBOUR: 'it returns false'. Refute it at one input. -/
def weekKnownWrong : ChangeSpec := { name := "weekKnown", fn := fun _ => fun
  | [] => { results := [.lit (.bool false)], args := [] }
  | _ => none }
def WeekKnownWrongFalsely : Prop := weekKnownRow.holds Tryd.pinned (OpenSpec.ofChange weekKnownWrong)

/-- 'breezelaw03.WeekNamed': WHATEVER THE INPUT: true; the input reads as it did. -/
def weekNamedSpec : ChangeSpec := { name := "weekNamed", fn := fun _ => fun
  | [d1, d2, d3, d4] => { results := [.lit (.bool true)], args := [d1, d2, d3, d4] }
  | _ => none }
def weekNamedRow : OpenClaim := { program := "ytcaecfofgdogbaadoor", sum := "b506e96c313e4101bec415b31d6ef6be89d40df921f83eee5407471dd6c45354", func := "breeze/breezelaw03.WeekNamed", spec := "weekNamed", unfollowed := true, recurses := true, named := ["math/bits.deBruijn32tab", "math/bits.deBruijn64tab"], apart := false, laid := [("math/bits.deBruijn32tab", laid_math_bits_deBruijn32tab), ("math/bits.deBruijn64tab", laid_math_bits_deBruijn64tab)] }
def WeekNamedSaid : Prop := weekNamedRow.holds Tryd.pinned (OpenSpec.ofChange weekNamedSpec)

/-- ITS FALSE NEIGHBOUR: 'it returns false'. Refute it at one input. -/
def weekNamedWrong : ChangeSpec := { name := "weekNamed", fn := fun _ => fun
  | [d1, d2, d3, d4] => { results := [.lit (.bool false)], args := [d1, d2, d3, d4] }
  | _ => none }
def WeekNamedWrongFalsely : Prop := weekNamedRow.holds Tryd.pinned (OpenSpec.ofChange weekNamedWrong)

/-- 'breezelaw03.WeekRyser': WHATEVER THE INPUT: true; the input reads as it did. -/
def weekRyserSpec : ChangeSpec := { name := "weekRyser", fn := fun _ => fun
  | [d1, d2, d3] => { results := [.lit (.bool true)], args := [d1, d2, d3] }
  | _ => none }
def weekRyserRow : OpenClaim := { program := "ytcaecfofgdogbaadoor", sum := "b506e96c313e4101bec415b31d6ef6be89d40df921f83eee5407471dd6c45354", func := "breeze/breezelaw03.WeekRyser", spec := "weekRyser", unfollowed := true, recurses := true, named := ["math/bits.deBruijn32tab", "math/bits.deBruijn64tab"], apart := false, laid := [("math/bits.deBruijn32tab", laid_math_bits_deBruijn32tab), ("math/bits.deBruijn64tab", laid_math_bits_deBruijn64tab)] }
def WeekRyserSaid : Prop := weekRyserRow.holds Tryd.pinned (OpenSpec.ofChange weekRyserSpec)

/-- ITS FALSE NEIGHBOUR: 'it returns false'. Refute it at one input. -/
def weekRyserWrong : ChangeSpec := { name := "weekRyser", fn := fun _ => fun
  | [d1, d2, d3] => { results := [.lit (.bool false)], args := [d1, d2, d3] }
  | _ => none }
def WeekRyserWrongFalsely : Prop := weekRyserRow.holds Tryd.pinned (OpenSpec.ofChange weekRyserWrong)

/- THE SECOND FORM. 'bulk': how many values and letters a reading holds, each counted each time it is reached (what is shared counts as often as it is met; a slice's spare places count too). A statement '..UptoSaid' is the law's where the arguments, and the package variables that the reading takes, are together of bulk at most 1048576: NARROWER than '..Said'. Prove '..Said' where nothing that the law and all that it calls make is longer than what came in: it says more and counts as full. Else prove '..UptoSaid'. A law counts once. -/
mutual
def uptoBulk {H : Type} : DataW H → Nat
  | .lit (.string bytes) => bytes.length + 1
  | .lit _ => 1
  | .nil => 1
  | .ptr d => uptoBulk d + 1
  | .slice elems spare => uptoBulkAll elems + uptoBulkAll spare + 1
  | .agg parts => uptoBulkAll parts + 1
  | .iface _ d => uptoBulk d + 1
  | .map entries => uptoBulkEntries entries + 1
  | .held _ => 1
def uptoBulkAll {H : Type} : List (DataW H) → Nat
  | [] => 0
  | d :: r => uptoBulk d + uptoBulkAll r
def uptoBulkEntries {H : Type} : List (Lit × DataW H) → Nat
  | [] => 0
  | x :: r => uptoBulkEntry x + uptoBulkEntries r
def uptoBulkEntry {H : Type} : Lit × DataW H → Nat
  | (.string bytes, d) => bytes.length + uptoBulk d + 1
  | (_, d) => uptoBulk d + 1
 end
def uptoSmall : (H : Type) → List (DataW H) → Bool := fun _ ds => decide (uptoBulkAll ds ≤ 1048576)
def OpenSpec.upto (s : _root_.Go.ChangeSpec) : _root_.Go.OpenSpec := { _root_.Go.OpenSpec.ofChange s with cond := some uptoSmall }

/-- 'breezelaw03.WeekRows', WHERE WHAT IT READS IS OF BULK AT MOST 1048576: true; the input reads as it did. -/
def weekRowsUptoRow : OpenClaim := { program := "ytcaecfofgdogbaadoor", sum := "b506e96c313e4101bec415b31d6ef6be89d40df921f83eee5407471dd6c45354", func := "breeze/breezelaw03.WeekRows", spec := "weekRows", unfollowed := true, recurses := true, named := ["math/bits.deBruijn32tab", "math/bits.deBruijn64tab"], apart := false, laid := [("math/bits.deBruijn32tab", laid_math_bits_deBruijn32tab), ("math/bits.deBruijn64tab", laid_math_bits_deBruijn64tab)], narrowed := true }
def WeekRowsUptoSaid : Prop := weekRowsUptoRow.holds Tryd.pinned (OpenSpec.upto weekRowsSpec)

/-- 'breezelaw03.WeekFulls', WHERE WHAT IT READS IS OF BULK AT MOST 1048576: true; the input reads as it did. -/
def weekFullsUptoRow : OpenClaim := { program := "ytcaecfofgdogbaadoor", sum := "b506e96c313e4101bec415b31d6ef6be89d40df921f83eee5407471dd6c45354", func := "breeze/breezelaw03.WeekFulls", spec := "weekFulls", unfollowed := true, recurses := true, named := ["math/bits.deBruijn32tab", "math/bits.deBruijn64tab"], apart := false, laid := [("math/bits.deBruijn32tab", laid_math_bits_deBruijn32tab), ("math/bits.deBruijn64tab", laid_math_bits_deBruijn64tab)], narrowed := true }
def WeekFullsUptoSaid : Prop := weekFullsUptoRow.holds Tryd.pinned (OpenSpec.upto weekFullsSpec)

/-- 'breezelaw03.WeekHall', WHERE WHAT IT READS IS OF BULK AT MOST 1048576: true; the input reads as it did. -/
def weekHallUptoRow : OpenClaim := { program := "ytcaecfofgdogbaadoor", sum := "b506e96c313e4101bec415b31d6ef6be89d40df921f83eee5407471dd6c45354", func := "breeze/breezelaw03.WeekHall", spec := "weekHall", unfollowed := true, recurses := true, named := ["math/bits.deBruijn32tab", "math/bits.deBruijn64tab"], apart := false, laid := [("math/bits.deBruijn32tab", laid_math_bits_deBruijn32tab), ("math/bits.deBruijn64tab", laid_math_bits_deBruijn64tab)], narrowed := true }
def WeekHallUptoSaid : Prop := weekHallUptoRow.holds Tryd.pinned (OpenSpec.upto weekHallSpec)

/-- 'breezelaw03.WeekFilled', WHERE WHAT IT READS IS OF BULK AT MOST 1048576: true; the input reads as it did. -/
def weekFilledUptoRow : OpenClaim := { program := "ytcaecfofgdogbaadoor", sum := "b506e96c313e4101bec415b31d6ef6be89d40df921f83eee5407471dd6c45354", func := "breeze/breezelaw03.WeekFilled", spec := "weekFilled", unfollowed := true, recurses := true, named := ["math/bits.deBruijn32tab", "math/bits.deBruijn64tab"], apart := false, laid := [("math/bits.deBruijn32tab", laid_math_bits_deBruijn32tab), ("math/bits.deBruijn64tab", laid_math_bits_deBruijn64tab)], narrowed := true }
def WeekFilledUptoSaid : Prop := weekFilledUptoRow.holds Tryd.pinned (OpenSpec.upto weekFilledSpec)

/-- 'breezelaw03.WeekTurned', WHERE WHAT IT READS IS OF BULK AT MOST 1048576: true; the input reads as it did. -/
def weekTurnedUptoRow : OpenClaim := { program := "ytcaecfofgdogbaadoor", sum := "b506e96c313e4101bec415b31d6ef6be89d40df921f83eee5407471dd6c45354", func := "breeze/breezelaw03.WeekTurned", spec := "weekTurned", unfollowed := true, recurses := true, named := ["math/bits.deBruijn32tab", "math/bits.deBruijn64tab"], apart := false, laid := [("math/bits.deBruijn32tab", laid_math_bits_deBruijn32tab), ("math/bits.deBruijn64tab", laid_math_bits_deBruijn64tab)], narrowed := true }
def WeekTurnedUptoSaid : Prop := weekTurnedUptoRow.holds Tryd.pinned (OpenSpec.upto weekTurnedSpec)

/-- 'breezelaw03.WeekCrossed', WHERE WHAT IT READS IS OF BULK AT MOST 1048576: true; the input reads as it did. -/
def weekCrossedUptoRow : OpenClaim := { program := "ytcaecfofgdogbaadoor", sum := "b506e96c313e4101bec415b31d6ef6be89d40df921f83eee5407471dd6c45354", func := "breeze/breezelaw03.WeekCrossed", spec := "weekCrossed", unfollowed := true, recurses := true, named := ["math/bits.deBruijn32tab", "math/bits.deBruijn64tab"], apart := false, laid := [("math/bits.deBruijn32tab", laid_math_bits_deBruijn32tab), ("math/bits.deBruijn64tab", laid_math_bits_deBruijn64tab)], narrowed := true }
def WeekCrossedUptoSaid : Prop := weekCrossedUptoRow.holds Tryd.pinned (OpenSpec.upto weekCrossedSpec)

/-- 'breezelaw03.WeekEven', WHERE WHAT IT READS IS OF BULK AT MOST 1048576: true; the input reads as it did. -/
def weekEvenUptoRow : OpenClaim := { program := "ytcaecfofgdogbaadoor", sum := "b506e96c313e4101bec415b31d6ef6be89d40df921f83eee5407471dd6c45354", func := "breeze/breezelaw03.WeekEven", spec := "weekEven", unfollowed := true, recurses := true, named := ["math/bits.deBruijn32tab", "math/bits.deBruijn64tab"], apart := false, laid := [("math/bits.deBruijn32tab", laid_math_bits_deBruijn32tab), ("math/bits.deBruijn64tab", laid_math_bits_deBruijn64tab)], narrowed := true }
def WeekEvenUptoSaid : Prop := weekEvenUptoRow.holds Tryd.pinned (OpenSpec.upto weekEvenSpec)

/-- 'breezelaw03.WeekAll', WHERE WHAT IT READS IS OF BULK AT MOST 1048576: true; the input reads as it did. -/
def weekAllUptoRow : OpenClaim := { program := "ytcaecfofgdogbaadoor", sum := "b506e96c313e4101bec415b31d6ef6be89d40df921f83eee5407471dd6c45354", func := "breeze/breezelaw03.WeekAll", spec := "weekAll", unfollowed := true, recurses := true, named := ["math/bits.deBruijn32tab", "math/bits.deBruijn64tab"], apart := false, laid := [("math/bits.deBruijn32tab", laid_math_bits_deBruijn32tab), ("math/bits.deBruijn64tab", laid_math_bits_deBruijn64tab)], narrowed := true }
def WeekAllUptoSaid : Prop := weekAllUptoRow.holds Tryd.pinned (OpenSpec.upto weekAllSpec)

/-- 'breezelaw03.WeekCorners', WHERE WHAT IT READS IS OF BULK AT MOST 1048576: true; the input reads as it did. -/
def weekCornersUptoRow : OpenClaim := { program := "ytcaecfofgdogbaadoor", sum := "b506e96c313e4101bec415b31d6ef6be89d40df921f83eee5407471dd6c45354", func := "breeze/breezelaw03.WeekCorners", spec := "weekCorners", unfollowed := true, recurses := true, named := ["math/bits.deBruijn32tab", "math/bits.deBruijn64tab"], apart := false, laid := [("math/bits.deBruijn32tab", laid_math_bits_deBruijn32tab), ("math/bits.deBruijn64tab", laid_math_bits_deBruijn64tab)], narrowed := true }
def WeekCornersUptoSaid : Prop := weekCornersUptoRow.holds Tryd.pinned (OpenSpec.upto weekCornersSpec)

/-- 'breezelaw03.WeekKnown', WHERE WHAT IT READS IS OF BULK AT MOST 1048576: true; the input reads as it did. -/
def weekKnownUptoRow : OpenClaim := { program := "ytcaecfofgdogbaadoor", sum := "b506e96c313e4101bec415b31d6ef6be89d40df921f83eee5407471dd6c45354", func := "breeze/breezelaw03.WeekKnown", spec := "weekKnown", unfollowed := true, recurses := true, named := ["math/bits.deBruijn32tab", "math/bits.deBruijn64tab"], apart := false, laid := [("math/bits.deBruijn32tab", laid_math_bits_deBruijn32tab), ("math/bits.deBruijn64tab", laid_math_bits_deBruijn64tab)], narrowed := true }
def WeekKnownUptoSaid : Prop := weekKnownUptoRow.holds Tryd.pinned (OpenSpec.upto weekKnownSpec)

/-- 'breezelaw03.WeekNamed', WHERE WHAT IT READS IS OF BULK AT MOST 1048576: true; the input reads as it did. -/
def weekNamedUptoRow : OpenClaim := { program := "ytcaecfofgdogbaadoor", sum := "b506e96c313e4101bec415b31d6ef6be89d40df921f83eee5407471dd6c45354", func := "breeze/breezelaw03.WeekNamed", spec := "weekNamed", unfollowed := true, recurses := true, named := ["math/bits.deBruijn32tab", "math/bits.deBruijn64tab"], apart := false, laid := [("math/bits.deBruijn32tab", laid_math_bits_deBruijn32tab), ("math/bits.deBruijn64tab", laid_math_bits_deBruijn64tab)], narrowed := true }
def WeekNamedUptoSaid : Prop := weekNamedUptoRow.holds Tryd.pinned (OpenSpec.upto weekNamedSpec)

/-- 'breezelaw03.WeekRyser', WHERE WHAT IT READS IS OF BULK AT MOST 1048576: true; the input reads as it did. -/
def weekRyserUptoRow : OpenClaim := { program := "ytcaecfofgdogbaadoor", sum := "b506e96c313e4101bec415b31d6ef6be89d40df921f83eee5407471dd6c45354", func := "breeze/breezelaw03.WeekRyser", spec := "weekRyser", unfollowed := true, recurses := true, named := ["math/bits.deBruijn32tab", "math/bits.deBruijn64tab"], apart := false, laid := [("math/bits.deBruijn32tab", laid_math_bits_deBruijn32tab), ("math/bits.deBruijn64tab", laid_math_bits_deBruijn64tab)], narrowed := true }
def WeekRyserUptoSaid : Prop := weekRyserUptoRow.holds Tryd.pinned (OpenSpec.upto weekRyserSpec)

end Rows
end Go.Proofs.YtcaecfofgdogbaaDoor
