/-
  Walks: whether a number is in a list (the reference's, the laws').
  Walks of the reference's improvement.
-/
import Derived.Test.YtihkeihnpiddoaaGreatXM1
import Derived.Test.YtihkeihnpiddoaaGreatXDfRqIm
import Derived.Test.YtihkeihnpiddoaaGreatXCpCt
set_option linter.unusedVariables false
set_option linter.unusedSimpArgs false
namespace Go.Proofs.YtihkeihnpiddoaaGreat
open Go.RowKit




end Go.Proofs.YtihkeihnpiddoaaGreat

set_option linter.unusedVariables false
set_option linter.unusedSimpArgs false
namespace Go.Proofs.YtihkeihnpiddoaaGreat
open Go.RowKit



end Go.Proofs.YtihkeihnpiddoaaGreat
