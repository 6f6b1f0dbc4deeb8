/-
  THE ENGINE, PART 32: data of a known type, opened.
-/
import Derived.Test.YtcaecfofgdogbaaDoorQV31
set_option linter.unusedSimpArgs false
set_option linter.unusedVariables false
namespace Go.V
section
variable {T : Tab} {t : TypeId} {qs : List PV} {i : TI}
inductive PTs (T : Tab) : List (Nat × TypeId) → List PV → Prop
  | nil : PTs T [] []
  | cons (f : Nat × TypeId) (fs : List (Nat × TypeId)) (x qs : List PV) (h : PT T f.2 x) (t : PTs T fs qs) : PTs T (f :: fs) (x ++ qs)
theorem PTs.of : ∀ (fs : List (Nat × TypeId)) (xs : List (List PV)), xs.length = fs.length → (∀ (j : Nat) (f : Nat × TypeId) (x : List PV), fs[j]? = some f → xs[j]? = some x → PT T f.2 x) → PTs T fs xs.flatten
  | [], [], _, _ => .nil
  | [], _ :: _, h, _ => by simp at h
  | _ :: _, [], h, _ => by simp at h
  | f :: fs, x :: xs, h, hx => by
    rw [List.flatten_cons]
    exact .cons f fs x _ (hx 0 f x rfl rfl) (PTs.of fs xs (by simpa using h) fun j g y hg hy => hx (j + 1) g y (by simpa using hg) (by simpa using hy))
end
end Go.V
