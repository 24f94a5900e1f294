/-
  Walks: the program's building of a proof.
-/
import Derived.Test.YtlekngkcifgonaaGreatXTrPrPv
import Derived.Test.YtlekngkcifgonaaGreatXBLEToLM
import Derived.Test.YtlekngkcifgonaaGreatXG13
import Derived.Test.YtlekngkcifgonaaGreatXLySrNg
import Derived.Test.YtlekngkcifgonaaGreatXBUn
import Derived.Test.YtlekngkcifgonaaGreatXM4M5
import Derived.Deep.RegionHeldLaw
import Derived.Deep.CutRange
set_option linter.unusedVariables false
set_option linter.unusedSimpArgs false
namespace Go.Proofs.YtlekngkcifgonaaGreat
open Go.RowKit

/-! ### The first open variable -/
theorem LitsV.far {S S' : List Nat} {w w' : World} {v : Value} {ls : Cls} (h : LitsV S w v ls) (hg : Gr S w w') (hS : ∀ b ∈ S', b ∈ S ∨ w.heap.size ≤ b) : LitsV S' w' v ls :=
  let ⟨ao, cap, e, hl, hc⟩ := h
  ⟨ao, cap, e, hl, fun i l hi => let ⟨b, o, e, hs, h0, h1, h2⟩ := hc i l hi; ⟨b, o, e, fun hm => by
    rcases hS b hm with h | h
    · exact hs h
    · have := World.block_lt_of_cell? w _ h0
      have h' : b < w.heap.size := this
      omega, hg.cell h0 hs, hg.cell h1 hs, hg.cell h2 hs⟩⟩
/-! ### The search -/
end Go.Proofs.YtlekngkcifgonaaGreat
