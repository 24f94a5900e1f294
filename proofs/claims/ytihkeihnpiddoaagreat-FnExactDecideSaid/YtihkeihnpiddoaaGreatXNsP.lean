/-
  Plain laws of the next solution: it is the least one behind.
-/
import Derived.Test.YtihkeihnpiddoaaGreatXSy4ToIsB
set_option linter.unusedVariables false
namespace Go.Proofs.YtihkeihnpiddoaaGreat
open Go.RowKit

end Go.Proofs.YtihkeihnpiddoaaGreat
