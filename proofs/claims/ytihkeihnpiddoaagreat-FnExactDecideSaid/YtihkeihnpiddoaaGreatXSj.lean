/-
  Walk of the program's list of solutions.
-/
import Derived.Test.YtihkeihnpiddoaaGreatXSiSf
import Derived.Test.YtihkeihnpiddoaaGreatXG1
import Derived.Deep.AppendLies
set_option linter.unusedVariables false
namespace Go.Proofs.YtihkeihnpiddoaaGreat
open Go.RowKit
attribute [local go_sem] Oper.semAt_some

end Go.Proofs.YtihkeihnpiddoaaGreat
