/-
  Walks of NewStore, of the program's and of the reference's.
-/
import Derived.Test.YtihkeihnpiddoaaGreatXSv
import Derived.Test.YtihkeihnpiddoaaGreatXCpCt
import Derived.Test.YtihkeihnpiddoaaGreatXIw
set_option linter.unusedVariables false
set_option linter.unusedSimpArgs false
namespace Go.Proofs.YtihkeihnpiddoaaGreat
open Go.RowKit




end Go.Proofs.YtihkeihnpiddoaaGreat
