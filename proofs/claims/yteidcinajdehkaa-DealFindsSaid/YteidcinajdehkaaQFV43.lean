/-
  THE ENGINE, PART 43: one cell more in front.
-/
import Derived.Test.YteidcinajdehkaaQFV42
set_option linter.unusedSimpArgs false
set_option linter.unusedVariables false
namespace Go.V
theorem take_len1 {α : Type} {a : α} {l : List α} {n : Nat} (h : l.length = n) : (a :: l).take (1 + n) = a :: l := by
  subst h; rw [Nat.add_comm, List.take_succ_cons, List.take_length]
attribute [go_sem] take_len1
end Go.V
