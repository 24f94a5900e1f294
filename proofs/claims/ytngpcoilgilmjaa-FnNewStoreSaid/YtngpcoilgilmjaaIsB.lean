/-
  impl.IsSolution for any assignment: IsSolution_b (yes exactly if it is among the solutions).
-/
import Derived.Test.YtngpcoilgilmjaaSl
import Derived.Test.YtngpcoilgilmjaaSy1
import Derived.Test.YtngpcoilgilmjaaNs
set_option linter.unusedVariables false
set_option linter.unusedSimpArgs false
namespace Go.Proofs.Ytngpcoilgilmjaa
open Go.RowKit

end Go.Proofs.Ytngpcoilgilmjaa
