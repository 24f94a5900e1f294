/-
  Walk of the generator of constraints.
-/
import Derived.Test.YtlekngkcifgonaaGreatYG1
set_option linter.unusedVariables false
namespace Go.Proofs.YtlekngkcifgonaaGreat
open Go.RowKit

end Go.Proofs.YtlekngkcifgonaaGreat
