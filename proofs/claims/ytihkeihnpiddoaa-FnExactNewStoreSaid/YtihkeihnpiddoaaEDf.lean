/-
  slices.DeleteFunc over rows of numbers, with whatever function.
-/
import Derived.Test.YtihkeihnpiddoaaESy1ToRe
import Derived.Lib.SliceRun
set_option linter.unusedVariables false
set_option linter.unusedSimpArgs false
namespace Go.Proofs.Ytihkeihnpiddoaa
open Go.RowKit

/-! ### The places of what is kept -/
end Go.Proofs.Ytihkeihnpiddoaa
