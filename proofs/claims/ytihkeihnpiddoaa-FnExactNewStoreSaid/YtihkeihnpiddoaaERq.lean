/-
  Plain laws of repair: solutions that agree with a plan, and the nearest of them.
  Walks of repair: distances, agreement, the nearest solution; the program's and the reference's.
  Walks of repair, second part: agreeing, Repair; the reference's.
-/
import Derived.Test.YtihkeihnpiddoaaESy4ToIsB
import Derived.Test.YtihkeihnpiddoaaEDf
set_option linter.unusedVariables false
set_option linter.unusedSimpArgs false
namespace Go.Proofs.Ytihkeihnpiddoaa
open Go.RowKit

/-! ### Agreement -/
def agI (on : Nat → Bool) (old x : List Int) (n : Nat) : Bool := (List.range n).all fun i => !(on i && (x.getD i 0 != old.getD i 0))
def onL (fr : List Int) (i : Nat) : Bool := fr.contains (i : Int)
/-! ### The nearest solution -/
end Go.Proofs.Ytihkeihnpiddoaa

set_option linter.unusedVariables false
set_option linter.unusedSimpArgs false
namespace Go.Proofs.Ytihkeihnpiddoaa
open Go.RowKit





end Go.Proofs.Ytihkeihnpiddoaa

set_option linter.unusedVariables false
set_option linter.unusedSimpArgs false
namespace Go.Proofs.Ytihkeihnpiddoaa
open Go.RowKit





end Go.Proofs.Ytihkeihnpiddoaa
