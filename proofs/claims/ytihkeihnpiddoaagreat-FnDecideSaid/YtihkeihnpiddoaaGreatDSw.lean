/-
  Walks of NewStore, of the program's and of the reference's.
-/
import Derived.Test.YtihkeihnpiddoaaGreatDSv
import Derived.Test.YtihkeihnpiddoaaGreatDCpCt
import Derived.Test.YtihkeihnpiddoaaGreatDIw
set_option linter.unusedVariables false
set_option linter.unusedSimpArgs false
namespace Go.Proofs.YtihkeihnpiddoaaGreat
open Go.RowKit




end Go.Proofs.YtihkeihnpiddoaaGreat
