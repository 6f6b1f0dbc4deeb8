/-
  No cell of these rows narrows 'for every input' (looked for: loops, veiled, ifaces, maps, wideKeys, modest, calm, conditions, laid).
  DERIVED. THE GIVEN ROWS OF THIS SEAT. 12 by the template 'for every input the law returns true; each argument reads behind the call as it read before'; 0 by the template 'total and deterministic' (their statements: YteidcinajdehkaaTotals.lean).
  GIVEN WITH THE SEED: the statements are not yours to turn. If you find one false, say at which input.
  Laid BY PROGRAM, IN A SANDBOX (cutbox-rows.mjs): the forced cells as the released guide's own fill.sh prints them over the translation da3ceeafc5d6ead8… (all of the seat's roots in one cut). By AI agents, Wed Nov 11 2026. No macro, syntax, notation, axiom, sorry.
-/
import Derived.Test.YteidcinajdehkaaChecked
import GoSem.Claim
import GoSem.ClaimJoined
import GoSem.ClaimMapViews
import Derived.JoinedTies
import Derived.KernelRfl
namespace Go.Proofs.Yteidcinajdehkaa
/- THE CELL 'sum', in the pinned program and in every row, IS THE sha256 OF THE DUMP (.gsa) THAT YteidcinajdehkaaProg.lean LOADS. Nothing in Lean hashes anything: it is a label: what it is worth is what the hold of that sum in a sandbox is worth. -/
noncomputable def Try.pinned : Pinned := { name := "yteidcinajdehkaa", sum := "da3ceeafc5d6ead897f5348d92dab64083aac99f58ccd06f71316cca4756001d", checked := Try.checked }
namespace Rows
def none {H : Type} : Left H := { results := [], args := [] }

/-- 'breezelaw08.DealCorners': WHATEVER THE INPUT: true; the input reads as it did. -/
def dealCornersSpec : ChangeSpec := { name := "dealCorners", fn := fun _ => fun
  | [d1, d2, d3] => { results := [.lit (.bool true)], args := [d1, d2, d3] }
  | _ => none }
def dealCornersRow : OpenClaim := { program := "yteidcinajdehkaa", sum := "da3ceeafc5d6ead897f5348d92dab64083aac99f58ccd06f71316cca4756001d", func := "breeze/breezelaw08.DealCorners", spec := "dealCorners", unfollowed := true, recurses := true, apart := false }
def DealCornersSaid : Prop := dealCornersRow.holds Try.pinned (OpenSpec.ofChange dealCornersSpec)

/-- ITS FALSE NEIGHBOUR: 'it returns false'. Refute it at one input. -/
def dealCornersWrong : ChangeSpec := { name := "dealCorners", fn := fun _ => fun
  | [d1, d2, d3] => { results := [.lit (.bool false)], args := [d1, d2, d3] }
  | _ => none }
def DealCornersWrongFalsely : Prop := dealCornersRow.holds Try.pinned (OpenSpec.ofChange dealCornersWrong)

/-- 'breezelaw08.DealFinds': WHATEVER THE INPUT: true; the input reads as it did. -/
def dealFindsSpec : ChangeSpec := { name := "dealFinds", fn := fun _ => fun
  | [d1, d2] => { results := [.lit (.bool true)], args := [d1, d2] }
  | _ => none }
def dealFindsRow : OpenClaim := { program := "yteidcinajdehkaa", sum := "da3ceeafc5d6ead897f5348d92dab64083aac99f58ccd06f71316cca4756001d", func := "breeze/breezelaw08.DealFinds", spec := "dealFinds", unfollowed := true, recurses := true, apart := false }
def DealFindsSaid : Prop := dealFindsRow.holds Try.pinned (OpenSpec.ofChange dealFindsSpec)

/-- ITS FALSE NEIGHBOUR: 'it returns false'. Refute it at one input. -/
def dealFindsWrong : ChangeSpec := { name := "dealFinds", fn := fun _ => fun
  | [d1, d2] => { results := [.lit (.bool false)], args := [d1, d2] }
  | _ => none }
def DealFindsWrongFalsely : Prop := dealFindsRow.holds Try.pinned (OpenSpec.ofChange dealFindsWrong)

/-- 'breezelaw08.DealOrders': WHATEVER THE INPUT: true; the input reads as it did. -/
def dealOrdersSpec : ChangeSpec := { name := "dealOrders", fn := fun _ => fun
  | [d] => { results := [.lit (.bool true)], args := [d] }
  | _ => none }
def dealOrdersRow : OpenClaim := { program := "yteidcinajdehkaa", sum := "da3ceeafc5d6ead897f5348d92dab64083aac99f58ccd06f71316cca4756001d", func := "breeze/breezelaw08.DealOrders", spec := "dealOrders", unfollowed := true, recurses := true, apart := false }
def DealOrdersSaid : Prop := dealOrdersRow.holds Try.pinned (OpenSpec.ofChange dealOrdersSpec)

/-- ITS FALSE NEIGHBOUR: 'it returns false'. Refute it at one input. -/
def dealOrdersWrong : ChangeSpec := { name := "dealOrders", fn := fun _ => fun
  | [d] => { results := [.lit (.bool false)], args := [d] }
  | _ => none }
def DealOrdersWrongFalsely : Prop := dealOrdersRow.holds Try.pinned (OpenSpec.ofChange dealOrdersWrong)

/-- 'breezelaw08.DealPrices': WHATEVER THE INPUT: true; the input reads as it did. -/
def dealPricesSpec : ChangeSpec := { name := "dealPrices", fn := fun _ => fun
  | [d1, d2, d3, d4] => { results := [.lit (.bool true)], args := [d1, d2, d3, d4] }
  | _ => none }
def dealPricesRow : OpenClaim := { program := "yteidcinajdehkaa", sum := "da3ceeafc5d6ead897f5348d92dab64083aac99f58ccd06f71316cca4756001d", func := "breeze/breezelaw08.DealPrices", spec := "dealPrices", unfollowed := true, recurses := true, apart := false }
def DealPricesSaid : Prop := dealPricesRow.holds Try.pinned (OpenSpec.ofChange dealPricesSpec)

/-- ITS FALSE NEIGHBOUR: 'it returns false'. Refute it at one input. -/
def dealPricesWrong : ChangeSpec := { name := "dealPrices", fn := fun _ => fun
  | [d1, d2, d3, d4] => { results := [.lit (.bool false)], args := [d1, d2, d3, d4] }
  | _ => none }
def DealPricesWrongFalsely : Prop := dealPricesRow.holds Try.pinned (OpenSpec.ofChange dealPricesWrong)

/-- 'breezelaw08.DealHoffman': WHATEVER THE INPUT: true; the input reads as it did. -/
def dealHoffmanSpec : ChangeSpec := { name := "dealHoffman", fn := fun _ => fun
  | [d] => { results := [.lit (.bool true)], args := [d] }
  | _ => none }
def dealHoffmanRow : OpenClaim := { program := "yteidcinajdehkaa", sum := "da3ceeafc5d6ead897f5348d92dab64083aac99f58ccd06f71316cca4756001d", func := "breeze/breezelaw08.DealHoffman", spec := "dealHoffman", unfollowed := true, recurses := true, apart := false }
def DealHoffmanSaid : Prop := dealHoffmanRow.holds Try.pinned (OpenSpec.ofChange dealHoffmanSpec)

/-- ITS FALSE NEIGHBOUR: 'it returns false'. Refute it at one input. -/
def dealHoffmanWrong : ChangeSpec := { name := "dealHoffman", fn := fun _ => fun
  | [d] => { results := [.lit (.bool false)], args := [d] }
  | _ => none }
def DealHoffmanWrongFalsely : Prop := dealHoffmanRow.holds Try.pinned (OpenSpec.ofChange dealHoffmanWrong)

/-- 'breezelaw08.DealPriced': WHATEVER THE INPUT: true; the input reads as it did. -/
def dealPricedSpec : ChangeSpec := { name := "dealPriced", fn := fun _ => fun
  | [d1, d2, d3] => { results := [.lit (.bool true)], args := [d1, d2, d3] }
  | _ => none }
def dealPricedRow : OpenClaim := { program := "yteidcinajdehkaa", sum := "da3ceeafc5d6ead897f5348d92dab64083aac99f58ccd06f71316cca4756001d", func := "breeze/breezelaw08.DealPriced", spec := "dealPriced", unfollowed := true, recurses := true, apart := false }
def DealPricedSaid : Prop := dealPricedRow.holds Try.pinned (OpenSpec.ofChange dealPricedSpec)

/-- ITS FALSE NEIGHBOUR: 'it returns false'. Refute it at one input. -/
def dealPricedWrong : ChangeSpec := { name := "dealPriced", fn := fun _ => fun
  | [d1, d2, d3] => { results := [.lit (.bool false)], args := [d1, d2, d3] }
  | _ => none }
def DealPricedWrongFalsely : Prop := dealPricedRow.holds Try.pinned (OpenSpec.ofChange dealPricedWrong)

/-- 'breezelaw08.DealEgervary': WHATEVER THE INPUT: true; the input reads as it did. -/
def dealEgervarySpec : ChangeSpec := { name := "dealEgervary", fn := fun _ => fun
  | [d] => { results := [.lit (.bool true)], args := [d] }
  | _ => none }
def dealEgervaryRow : OpenClaim := { program := "yteidcinajdehkaa", sum := "da3ceeafc5d6ead897f5348d92dab64083aac99f58ccd06f71316cca4756001d", func := "breeze/breezelaw08.DealEgervary", spec := "dealEgervary", unfollowed := true, recurses := true, apart := false }
def DealEgervarySaid : Prop := dealEgervaryRow.holds Try.pinned (OpenSpec.ofChange dealEgervarySpec)

/-- ITS FALSE NEIGHBOUR: 'it returns false'. Refute it at one input. -/
def dealEgervaryWrong : ChangeSpec := { name := "dealEgervary", fn := fun _ => fun
  | [d] => { results := [.lit (.bool false)], args := [d] }
  | _ => none }
def DealEgervaryWrongFalsely : Prop := dealEgervaryRow.holds Try.pinned (OpenSpec.ofChange dealEgervaryWrong)

/-- 'breezelaw08.DealKnown': WHATEVER THE INPUT: true; the input reads as it did. -/
def dealKnownSpec : ChangeSpec := { name := "dealKnown", fn := fun _ => fun
  | [] => { results := [.lit (.bool true)], args := [] }
  | _ => none }
def dealKnownRow : OpenClaim := { program := "yteidcinajdehkaa", sum := "da3ceeafc5d6ead897f5348d92dab64083aac99f58ccd06f71316cca4756001d", func := "breeze/breezelaw08.DealKnown", spec := "dealKnown", unfollowed := true, recurses := true, apart := false }
def DealKnownSaid : Prop := dealKnownRow.holds Try.pinned (OpenSpec.ofChange dealKnownSpec)

/-- ITS FALSE NEIGHBOUR: 'it returns false'. Refute it at one input. -/
def dealKnownWrong : ChangeSpec := { name := "dealKnown", fn := fun _ => fun
  | [] => { results := [.lit (.bool false)], args := [] }
  | _ => none }
def DealKnownWrongFalsely : Prop := dealKnownRow.holds Try.pinned (OpenSpec.ofChange dealKnownWrong)

/-- 'breezelaw08.DealTurned': WHATEVER THE INPUT: true; the input reads as it did. -/
def dealTurnedSpec : ChangeSpec := { name := "dealTurned", fn := fun _ => fun
  | [d] => { results := [.lit (.bool true)], args := [d] }
  | _ => none }
def dealTurnedRow : OpenClaim := { program := "yteidcinajdehkaa", sum := "da3ceeafc5d6ead897f5348d92dab64083aac99f58ccd06f71316cca4756001d", func := "breeze/breezelaw08.DealTurned", spec := "dealTurned", unfollowed := true, recurses := true, apart := false }
def DealTurnedSaid : Prop := dealTurnedRow.holds Try.pinned (OpenSpec.ofChange dealTurnedSpec)

/-- ITS FALSE NEIGHBOUR: 'it returns false'. Refute it at one input. -/
def dealTurnedWrong : ChangeSpec := { name := "dealTurned", fn := fun _ => fun
  | [d] => { results := [.lit (.bool false)], args := [d] }
  | _ => none }
def DealTurnedWrongFalsely : Prop := dealTurnedRow.holds Try.pinned (OpenSpec.ofChange dealTurnedWrong)

/-- 'breezelaw08.DealAdded': WHATEVER THE INPUT: true; the input reads as it did. -/
def dealAddedSpec : ChangeSpec := { name := "dealAdded", fn := fun _ => fun
  | [d1, d2, d3, d4] => { results := [.lit (.bool true)], args := [d1, d2, d3, d4] }
  | _ => none }
def dealAddedRow : OpenClaim := { program := "yteidcinajdehkaa", sum := "da3ceeafc5d6ead897f5348d92dab64083aac99f58ccd06f71316cca4756001d", func := "breeze/breezelaw08.DealAdded", spec := "dealAdded", unfollowed := true, recurses := true, apart := false }
def DealAddedSaid : Prop := dealAddedRow.holds Try.pinned (OpenSpec.ofChange dealAddedSpec)

/-- ITS FALSE NEIGHBOUR: 'it returns false'. Refute it at one input. -/
def dealAddedWrong : ChangeSpec := { name := "dealAdded", fn := fun _ => fun
  | [d1, d2, d3, d4] => { results := [.lit (.bool false)], args := [d1, d2, d3, d4] }
  | _ => none }
def DealAddedWrongFalsely : Prop := dealAddedRow.holds Try.pinned (OpenSpec.ofChange dealAddedWrong)

/-- 'breezelaw08.DealLess': WHATEVER THE INPUT: true; the input reads as it did. -/
def dealLessSpec : ChangeSpec := { name := "dealLess", fn := fun _ => fun
  | [d1, d2, d3, d4] => { results := [.lit (.bool true)], args := [d1, d2, d3, d4] }
  | _ => none }
def dealLessRow : OpenClaim := { program := "yteidcinajdehkaa", sum := "da3ceeafc5d6ead897f5348d92dab64083aac99f58ccd06f71316cca4756001d", func := "breeze/breezelaw08.DealLess", spec := "dealLess", unfollowed := true, recurses := true, apart := false }
def DealLessSaid : Prop := dealLessRow.holds Try.pinned (OpenSpec.ofChange dealLessSpec)

/-- ITS FALSE NEIGHBOUR: 'it returns false'. Refute it at one input. -/
def dealLessWrong : ChangeSpec := { name := "dealLess", fn := fun _ => fun
  | [d1, d2, d3, d4] => { results := [.lit (.bool false)], args := [d1, d2, d3, d4] }
  | _ => none }
def DealLessWrongFalsely : Prop := dealLessRow.holds Try.pinned (OpenSpec.ofChange dealLessWrong)

/-- 'breezelaw08.DealOrdered': WHATEVER THE INPUT: true; the input reads as it did. -/
def dealOrderedSpec : ChangeSpec := { name := "dealOrdered", fn := fun _ => fun
  | [d] => { results := [.lit (.bool true)], args := [d] }
  | _ => none }
def dealOrderedRow : OpenClaim := { program := "yteidcinajdehkaa", sum := "da3ceeafc5d6ead897f5348d92dab64083aac99f58ccd06f71316cca4756001d", func := "breeze/breezelaw08.DealOrdered", spec := "dealOrdered", unfollowed := true, recurses := true, apart := false }
def DealOrderedSaid : Prop := dealOrderedRow.holds Try.pinned (OpenSpec.ofChange dealOrderedSpec)

/-- ITS FALSE NEIGHBOUR: 'it returns false'. Refute it at one input. -/
def dealOrderedWrong : ChangeSpec := { name := "dealOrdered", fn := fun _ => fun
  | [d] => { results := [.lit (.bool false)], args := [d] }
  | _ => none }
def DealOrderedWrongFalsely : Prop := dealOrderedRow.holds Try.pinned (OpenSpec.ofChange dealOrderedWrong)

/- THE SECOND FORM. 'bulk': how many values and letters a reading holds, each counted each time it is reached (what is shared counts as often as it is met; a slice's spare places count too). A statement '..UptoSaid' is the law's where the arguments, and the package variables that the reading takes, are together of bulk at most 1048576: NARROWER than '..Said'. Prove '..Said' where nothing that the law and all that it calls make is longer than what came in: it says more and counts as full. Else prove '..UptoSaid'. A law counts once. -/
mutual
def uptoBulk {H : Type} : DataW H → Nat
  | .lit (.string bytes) => bytes.length + 1
  | .lit _ => 1
  | .nil => 1
  | .ptr d => uptoBulk d + 1
  | .slice elems spare => uptoBulkAll elems + uptoBulkAll spare + 1
  | .agg parts => uptoBulkAll parts + 1
  | .iface _ d => uptoBulk d + 1
  | .map entries => uptoBulkEntries entries + 1
  | .held _ => 1
def uptoBulkAll {H : Type} : List (DataW H) → Nat
  | [] => 0
  | d :: r => uptoBulk d + uptoBulkAll r
def uptoBulkEntries {H : Type} : List (Lit × DataW H) → Nat
  | [] => 0
  | x :: r => uptoBulkEntry x + uptoBulkEntries r
def uptoBulkEntry {H : Type} : Lit × DataW H → Nat
  | (.string bytes, d) => bytes.length + uptoBulk d + 1
  | (_, d) => uptoBulk d + 1
 end
def uptoSmall : (H : Type) → List (DataW H) → Bool := fun _ ds => decide (uptoBulkAll ds ≤ 1048576)
def OpenSpec.upto (s : _root_.Go.ChangeSpec) : _root_.Go.OpenSpec := { _root_.Go.OpenSpec.ofChange s with cond := some uptoSmall }

/-- 'breezelaw08.DealCorners', WHERE WHAT IT READS IS OF BULK AT MOST 1048576: true; the input reads as it did. -/
def dealCornersUptoRow : OpenClaim := { program := "yteidcinajdehkaa", sum := "da3ceeafc5d6ead897f5348d92dab64083aac99f58ccd06f71316cca4756001d", func := "breeze/breezelaw08.DealCorners", spec := "dealCorners", unfollowed := true, recurses := true, apart := false, narrowed := true }
def DealCornersUptoSaid : Prop := dealCornersUptoRow.holds Try.pinned (OpenSpec.upto dealCornersSpec)

/-- 'breezelaw08.DealFinds', WHERE WHAT IT READS IS OF BULK AT MOST 1048576: true; the input reads as it did. -/
def dealFindsUptoRow : OpenClaim := { program := "yteidcinajdehkaa", sum := "da3ceeafc5d6ead897f5348d92dab64083aac99f58ccd06f71316cca4756001d", func := "breeze/breezelaw08.DealFinds", spec := "dealFinds", unfollowed := true, recurses := true, apart := false, narrowed := true }
def DealFindsUptoSaid : Prop := dealFindsUptoRow.holds Try.pinned (OpenSpec.upto dealFindsSpec)

/-- 'breezelaw08.DealOrders', WHERE WHAT IT READS IS OF BULK AT MOST 1048576: true; the input reads as it did. -/
def dealOrdersUptoRow : OpenClaim := { program := "yteidcinajdehkaa", sum := "da3ceeafc5d6ead897f5348d92dab64083aac99f58ccd06f71316cca4756001d", func := "breeze/breezelaw08.DealOrders", spec := "dealOrders", unfollowed := true, recurses := true, apart := false, narrowed := true }
def DealOrdersUptoSaid : Prop := dealOrdersUptoRow.holds Try.pinned (OpenSpec.upto dealOrdersSpec)

/-- 'breezelaw08.DealPrices', WHERE WHAT IT READS IS OF BULK AT MOST 1048576: true; the input reads as it did. -/
def dealPricesUptoRow : OpenClaim := { program := "yteidcinajdehkaa", sum := "da3ceeafc5d6ead897f5348d92dab64083aac99f58ccd06f71316cca4756001d", func := "breeze/breezelaw08.DealPrices", spec := "dealPrices", unfollowed := true, recurses := true, apart := false, narrowed := true }
def DealPricesUptoSaid : Prop := dealPricesUptoRow.holds Try.pinned (OpenSpec.upto dealPricesSpec)

/-- 'breezelaw08.DealHoffman', WHERE WHAT IT READS IS OF BULK AT MOST 1048576: true; the input reads as it did. -/
def dealHoffmanUptoRow : OpenClaim := { program := "yteidcinajdehkaa", sum := "da3ceeafc5d6ead897f5348d92dab64083aac99f58ccd06f71316cca4756001d", func := "breeze/breezelaw08.DealHoffman", spec := "dealHoffman", unfollowed := true, recurses := true, apart := false, narrowed := true }
def DealHoffmanUptoSaid : Prop := dealHoffmanUptoRow.holds Try.pinned (OpenSpec.upto dealHoffmanSpec)

/-- 'breezelaw08.DealPriced', WHERE WHAT IT READS IS OF BULK AT MOST 1048576: true; the input reads as it did. -/
def dealPricedUptoRow : OpenClaim := { program := "yteidcinajdehkaa", sum := "da3ceeafc5d6ead897f5348d92dab64083aac99f58ccd06f71316cca4756001d", func := "breeze/breezelaw08.DealPriced", spec := "dealPriced", unfollowed := true, recurses := true, apart := false, narrowed := true }
def DealPricedUptoSaid : Prop := dealPricedUptoRow.holds Try.pinned (OpenSpec.upto dealPricedSpec)

/-- 'breezelaw08.DealEgervary', WHERE WHAT IT READS IS OF BULK AT MOST 1048576: true; the input reads as it did. -/
def dealEgervaryUptoRow : OpenClaim := { program := "yteidcinajdehkaa", sum := "da3ceeafc5d6ead897f5348d92dab64083aac99f58ccd06f71316cca4756001d", func := "breeze/breezelaw08.DealEgervary", spec := "dealEgervary", unfollowed := true, recurses := true, apart := false, narrowed := true }
def DealEgervaryUptoSaid : Prop := dealEgervaryUptoRow.holds Try.pinned (OpenSpec.upto dealEgervarySpec)

/-- 'breezelaw08.DealKnown', WHERE WHAT IT READS IS OF BULK AT MOST 1048576: true; the input reads as it did. -/
def dealKnownUptoRow : OpenClaim := { program := "yteidcinajdehkaa", sum := "da3ceeafc5d6ead897f5348d92dab64083aac99f58ccd06f71316cca4756001d", func := "breeze/breezelaw08.DealKnown", spec := "dealKnown", unfollowed := true, recurses := true, apart := false, narrowed := true }
def DealKnownUptoSaid : Prop := dealKnownUptoRow.holds Try.pinned (OpenSpec.upto dealKnownSpec)

/-- 'breezelaw08.DealTurned', WHERE WHAT IT READS IS OF BULK AT MOST 1048576: true; the input reads as it did. -/
def dealTurnedUptoRow : OpenClaim := { program := "yteidcinajdehkaa", sum := "da3ceeafc5d6ead897f5348d92dab64083aac99f58ccd06f71316cca4756001d", func := "breeze/breezelaw08.DealTurned", spec := "dealTurned", unfollowed := true, recurses := true, apart := false, narrowed := true }
def DealTurnedUptoSaid : Prop := dealTurnedUptoRow.holds Try.pinned (OpenSpec.upto dealTurnedSpec)

/-- 'breezelaw08.DealAdded', WHERE WHAT IT READS IS OF BULK AT MOST 1048576: true; the input reads as it did. -/
def dealAddedUptoRow : OpenClaim := { program := "yteidcinajdehkaa", sum := "da3ceeafc5d6ead897f5348d92dab64083aac99f58ccd06f71316cca4756001d", func := "breeze/breezelaw08.DealAdded", spec := "dealAdded", unfollowed := true, recurses := true, apart := false, narrowed := true }
def DealAddedUptoSaid : Prop := dealAddedUptoRow.holds Try.pinned (OpenSpec.upto dealAddedSpec)

/-- 'breezelaw08.DealLess', WHERE WHAT IT READS IS OF BULK AT MOST 1048576: true; the input reads as it did. -/
def dealLessUptoRow : OpenClaim := { program := "yteidcinajdehkaa", sum := "da3ceeafc5d6ead897f5348d92dab64083aac99f58ccd06f71316cca4756001d", func := "breeze/breezelaw08.DealLess", spec := "dealLess", unfollowed := true, recurses := true, apart := false, narrowed := true }
def DealLessUptoSaid : Prop := dealLessUptoRow.holds Try.pinned (OpenSpec.upto dealLessSpec)

/-- 'breezelaw08.DealOrdered', WHERE WHAT IT READS IS OF BULK AT MOST 1048576: true; the input reads as it did. -/
def dealOrderedUptoRow : OpenClaim := { program := "yteidcinajdehkaa", sum := "da3ceeafc5d6ead897f5348d92dab64083aac99f58ccd06f71316cca4756001d", func := "breeze/breezelaw08.DealOrdered", spec := "dealOrdered", unfollowed := true, recurses := true, apart := false, narrowed := true }
def DealOrderedUptoSaid : Prop := dealOrderedUptoRow.holds Try.pinned (OpenSpec.upto dealOrderedSpec)

end Rows
end Go.Proofs.Yteidcinajdehkaa
