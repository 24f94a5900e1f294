/-
  Walk of the program's list of solutions.
-/
import Derived.Test.YtihkeihnpiddoaaESiSf
import Derived.Test.YtihkeihnpiddoaaEG1
import Derived.Deep.AppendLies
set_option linter.unusedVariables false
namespace Go.Proofs.Ytihkeihnpiddoaa
open Go.RowKit
attribute [local go_sem] Oper.semAt_some

end Go.Proofs.Ytihkeihnpiddoaa
