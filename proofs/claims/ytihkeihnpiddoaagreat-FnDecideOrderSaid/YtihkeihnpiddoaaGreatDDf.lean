/-
  slices.DeleteFunc over rows of numbers, with whatever function.
-/
import Derived.Test.YtihkeihnpiddoaaGreatDSy1ToRe
import Derived.Lib.SliceRun
set_option linter.unusedVariables false
set_option linter.unusedSimpArgs false
namespace Go.Proofs.YtihkeihnpiddoaaGreat
open Go.RowKit

/-! ### The places of what is kept -/
end Go.Proofs.YtihkeihnpiddoaaGreat
