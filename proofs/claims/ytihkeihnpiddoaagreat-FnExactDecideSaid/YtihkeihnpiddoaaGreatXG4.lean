/-
  Walk of the generator of constraints.
-/
import Derived.Test.YtihkeihnpiddoaaGreatXG1
set_option linter.unusedVariables false
namespace Go.Proofs.YtihkeihnpiddoaaGreat
open Go.RowKit

end Go.Proofs.YtihkeihnpiddoaaGreat
