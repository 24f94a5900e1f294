/-
  Walks: when a clause holds; lists of literals compared; when all literals are true.
-/
import Derived.Test.YtlekngkcifgonaaGreatXBVlMg
import Derived.Test.YtlekngkcifgonaaGreatXTrPrPv
set_option linter.unusedVariables false
set_option linter.unusedSimpArgs false
namespace Go.Proofs.YtlekngkcifgonaaGreat
open Go.RowKit





end Go.Proofs.YtlekngkcifgonaaGreat
