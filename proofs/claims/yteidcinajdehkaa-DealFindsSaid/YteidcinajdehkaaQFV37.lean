/-
  THE ENGINE, PART 37: a slice of an own object is stored as pure data.
-/
import Derived.Test.YteidcinajdehkaaQFV36
set_option linter.unusedSimpArgs false
set_option linter.unusedVariables false
namespace Go.V
section
end
end Go.V
