/-
  Walks of the program's enumeration of solutions.
  Walk of the reference's search for solutions.
-/
import Derived.Test.YtmonhpoogfdpoaaGreatDoorPM4M5
import Derived.Deep.AppendLies
import Derived.Test.YtmonhpoogfdpoaaGreatDoorPG1
set_option linter.unusedVariables false
namespace Go.Proofs.YtmonhpoogfdpoaaGreatDoor
open Go.RowKit
attribute [local go_sem] Oper.semAt_some

end Go.Proofs.YtmonhpoogfdpoaaGreatDoor

set_option linter.unusedVariables false
namespace Go.Proofs.YtmonhpoogfdpoaaGreatDoor
open Go.RowKit



end Go.Proofs.YtmonhpoogfdpoaaGreatDoor
