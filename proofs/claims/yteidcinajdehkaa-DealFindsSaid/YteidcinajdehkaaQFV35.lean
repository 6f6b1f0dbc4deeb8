/-
  Values of interfaces that may be nil, taken apart by cases.
-/
import Derived.Test.YteidcinajdehkaaQFV34
set_option linter.unusedSimpArgs false
set_option linter.unusedVariables false
namespace Go.V
attribute [go_sem] Bool.false_and Bool.and_false bndF bcapP bcapD capsOf ordA indexR makeIfaceR typeAssertR ifaceOf zeroD tup2 TK.isI gd List.isEmpty_nil
end Go.V
