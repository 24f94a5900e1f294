/-
  Validity of stores; walks of the program's ValidStore, current and CurrentDomains, and of the reference's NewStore.
-/
import Derived.Test.YtihkeihnpiddoaaESt
set_option linter.unusedVariables false
set_option linter.unusedSimpArgs false
namespace Go.Proofs.Ytihkeihnpiddoaa
open Go.RowKit

theorem sto3 (w : World) (a b c : Value) : (w.alloc (.cells #[a, b, c] 32)).heap[w.heap.size]? = some (.cells #[a, b, c] 32 (0, 0)) := heap_alloc_new _ _


end Go.Proofs.Ytihkeihnpiddoaa
