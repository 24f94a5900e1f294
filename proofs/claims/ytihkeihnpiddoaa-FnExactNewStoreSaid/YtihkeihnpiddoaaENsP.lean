/-
  Plain laws of the next solution: it is the least one behind.
-/
import Derived.Test.YtihkeihnpiddoaaESy4ToIsB
set_option linter.unusedVariables false
namespace Go.Proofs.Ytihkeihnpiddoaa
open Go.RowKit

end Go.Proofs.Ytihkeihnpiddoaa
