/-
  THE ENGINE, PART 31: arguments of a given statement, as pure data of their types.
-/
import Derived.Test.YtcaecfofgdogbaaDoorQV26
import Derived.OpenShut
import Derived.WideKeyArgs
set_option linter.unusedSimpArgs false
set_option linter.unusedVariables false
namespace Go.V
open Go.ChangeShapes Go.WideShapes Go.ChangeAt Go.RowKit
inductive PT (T : Tab) : TypeId → List PV → Prop
  | int {t : TypeId} {i : TI} {k : IntKind} {n : Int} (h : tl T t = some i) (hk : i.k = .int k) (h1 : k.min ≤ n) (h2 : n ≤ k.max) : PT T t [.int k n]
  | bool {t : TypeId} {i : TI} (h : tl T t = some i) (hk : i.k = .bool) (b : Bool) : PT T t [.bool b]
  | nl {t : TypeId} {i : TI} {e : TypeId} (h : tl T t = some i) (hk : i.k = .slice e) : PT T t [.nl]
  | lst {t : TypeId} {i : TI} {e : TypeId} (h : tl T t = some i) (hk : i.k = .slice e) (xs : List (List PV)) (hx : ∀ x ∈ xs, PT T e x) : PT T t [.lst false xs.length xs.flatten]
  | arr {t : TypeId} {i : TI} {m : Nat} {e : TypeId} (h : tl T t = some i) (hk : i.k = .arr m e) (xs : List (List PV)) (hl : xs.length = m) (hx : ∀ x ∈ xs, PT T e x) : PT T t xs.flatten
  | struct {t : TypeId} {i : TI} {fs : List (Nat × TypeId)} (h : tl T t = some i) (hk : i.k = .struct fs) (xs : List (List PV)) (hl : xs.length = fs.length) (hx : ∀ (j : Nat) (f : Nat × TypeId) (x : List PV), fs[j]? = some f → xs[j]? = some x → PT T f.2 x) : PT T t xs.flatten
section
end
end Go.V
