/-
  Walks of what the reference's satisfaction is made of. Walks of what the reference's satisfaction is made of, the rest.
  The walk of the reference's satisfaction, a theorem for each kind.
-/
import Derived.Test.YtmonhpoogfdpoaaGreatDoorPHJ
import Derived.Test.YtmonhpoogfdpoaaGreatDoorPCF
set_option linter.unusedVariables false
namespace Go.Proofs.YtmonhpoogfdpoaaGreatDoor
open Go.RowKit

end Go.Proofs.YtmonhpoogfdpoaaGreatDoor

namespace Go.Proofs.YtmonhpoogfdpoaaGreatDoor
open Go.RowKit

end Go.Proofs.YtmonhpoogfdpoaaGreatDoor

set_option linter.unusedVariables false
namespace Go.Proofs.YtmonhpoogfdpoaaGreatDoor
open Go.RowKit

end Go.Proofs.YtmonhpoogfdpoaaGreatDoor
