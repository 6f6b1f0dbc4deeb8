/-
  An octet of a string that is written down.
-/
import Derived.Test.YteidcinajdehkaaQFV39
set_option linter.unusedSimpArgs false
set_option linter.unusedVariables false
namespace Go.V
end Go.V
