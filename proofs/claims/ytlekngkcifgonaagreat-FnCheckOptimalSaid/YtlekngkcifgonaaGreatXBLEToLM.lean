/-
  Literals that came in as arguments: walks of the exact laws' conversions of lists of them: sizes, copies, comparisons, marks.
  How lists of literals that came in as an argument are read.
  Lists of clauses that came in as an argument: how they are read; walks of the exact laws' conversions of them.
  Clauses that lie each in a block of its own: marks upon them; own lists of them.
-/
import Derived.Test.YtlekngkcifgonaaGreatXLnLo
import Derived.Test.YtlekngkcifgonaaGreatXEE
import Derived.Test.YtlekngkcifgonaaGreatXEO
import Derived.Lib.SmallJoins
import Derived.Deep.Slices
import Derived.ChangeArms
import Derived.Test.YtlekngkcifgonaaGreatXEG
import Derived.Test.YtlekngkcifgonaaGreatXSy1ToRe
set_option linter.unusedVariables false
set_option linter.unusedSimpArgs false
namespace Go.Proofs.YtlekngkcifgonaaGreat
open Go.RowKit



/-! ### Copies -/




/-! ### Comparisons -/




/-! ### Marks -/




end Go.Proofs.YtlekngkcifgonaaGreat

set_option linter.unusedVariables false
set_option linter.unusedSimpArgs false
namespace Go.Proofs.YtlekngkcifgonaaGreat
open Go.RowKit Go.ChangeShapes Go.WideShapes

section
variable {H : Type} {enc : TypeId × Value → H} {W : World} {held : Bool}
set_option maxRecDepth 100000
end
end Go.Proofs.YtlekngkcifgonaaGreat

set_option linter.unusedVariables false
set_option linter.unusedSimpArgs false
namespace Go.Proofs.YtlekngkcifgonaaGreat
open Go.RowKit Go.ChangeShapes Go.WideShapes

section
variable {H : Type} {enc : TypeId × Value → H} {W : World} {held : Bool}
set_option maxRecDepth 100000
end

/-! ### Copies -/
theorem infoK : (Tryz.prog.info? 110).map (fun i => (i.zero, i.size, i.bytes)) = some (some (.slice none 0 0), 1, 24) := by kernel_rfl
end Go.Proofs.YtlekngkcifgonaaGreat

set_option linter.unusedVariables false
set_option linter.unusedSimpArgs false
namespace Go.Proofs.YtlekngkcifgonaaGreat
open Go.RowKit

/-! ### Marks -/






/-! ### Own lists of clauses, each with the block in which it lies -/
end Go.Proofs.YtlekngkcifgonaaGreat
