/-
  THE ENGINE, PART 38: objects that are handed over are given new names, so that they may be lost, or be grown.
-/
import Derived.Test.YteidcinajdehkaaQFV37
set_option linter.unusedSimpArgs false
set_option linter.unusedVariables false
namespace Go.V
end Go.V
