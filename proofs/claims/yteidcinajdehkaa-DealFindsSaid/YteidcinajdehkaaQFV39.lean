/-
  A call through an interface that is handed objects; loops round by round.
-/
import Derived.Test.YteidcinajdehkaaQFV38
set_option linter.unusedSimpArgs false
set_option linter.unusedVariables false
namespace Go.V
section
end
end Go.V
