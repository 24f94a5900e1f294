/-
  Walks of the objective's functions.
  Walk of the generator of assignments.
  Walks of generators that return a model and lists of numbers.
  Walks of the generators of the laws of repair.
-/
import Derived.Test.YtngpcoilgilmjaaGreatA
import Derived.Test.YtngpcoilgilmjaaGreatG8
import Derived.Test.YtngpcoilgilmjaaGreatSf
import Derived.Test.YtngpcoilgilmjaaGreatM1
import Derived.Test.YtngpcoilgilmjaaGreatEO
import Derived.Test.YtngpcoilgilmjaaGreatEH
import Derived.Test.YtngpcoilgilmjaaGreatG13
set_option linter.unusedVariables false
namespace Go.Proofs.YtngpcoilgilmjaaGreat
open Go.RowKit

end Go.Proofs.YtngpcoilgilmjaaGreat

set_option linter.unusedVariables false
set_option linter.unusedSimpArgs false
namespace Go.Proofs.YtngpcoilgilmjaaGreat
open Go.RowKit


end Go.Proofs.YtngpcoilgilmjaaGreat

set_option linter.unusedVariables false
set_option linter.unusedSimpArgs false
namespace Go.Proofs.YtngpcoilgilmjaaGreat
open Go.RowKit





end Go.Proofs.YtngpcoilgilmjaaGreat

set_option linter.unusedVariables false
set_option linter.unusedSimpArgs false
namespace Go.Proofs.YtngpcoilgilmjaaGreat
open Go.RowKit


end Go.Proofs.YtngpcoilgilmjaaGreat
