/-
  The plain law of entailment: all tuples of a constraint's domains satisfy it exactly if it strikes no assignment.
-/
import Derived.Test.YtmonhpoogfdpoaaGreatXFP
set_option linter.unusedVariables false
namespace Go.Proofs.YtmonhpoogfdpoaaGreat
open Go.RowKit

end Go.Proofs.YtmonhpoogfdpoaaGreat
