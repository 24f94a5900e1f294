/-
  Walk of the generator of constraints.
-/
import Derived.Test.YtihkeihnpiddoaaEG1
set_option linter.unusedVariables false
namespace Go.Proofs.Ytihkeihnpiddoaa
open Go.RowKit

end Go.Proofs.Ytihkeihnpiddoaa
