/-
  Walk of the program's deep copy of a store.
-/
import Derived.Test.YtihkeihnpiddoaaGreatXSv
set_option linter.unusedVariables false
set_option linter.unusedSimpArgs false
namespace Go.Proofs.YtihkeihnpiddoaaGreat
open Go.RowKit



end Go.Proofs.YtihkeihnpiddoaaGreat
