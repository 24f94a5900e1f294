/-
  Walks of the program's enumeration of solutions.
  Walk of the reference's search for solutions.
-/
import Derived.Test.YtilcicoekpmelaaDoorPM4M5
import Derived.Deep.AppendLies
import Derived.Test.YtilcicoekpmelaaDoorPG1
set_option linter.unusedVariables false
namespace Go.Proofs.YtilcicoekpmelaaDoor
open Go.RowKit
attribute [local go_sem] Oper.semAt_some

end Go.Proofs.YtilcicoekpmelaaDoor

set_option linter.unusedVariables false
namespace Go.Proofs.YtilcicoekpmelaaDoor
open Go.RowKit

theorem OwnG.le {α : Type} {size : Nat} {el : List Nat → World → List Value → α → Prop} {B B' : Nat} {w : World} {e : TypeId} {v : Value} {xs : List α} (h : OwnG size el B w e v xs) (hB : B' ≤ B) : OwnG size el B' w e v xs := by
  obtain ⟨css, h1, h2, h3, h4⟩ := h
  refine ⟨css, h1, h2, ⟨h3.1, ?_⟩, fun i cs x hi hx S hS => h4 i cs x hi hx S fun b hb => (hS b hb).imp (by omega) id⟩
  rcases h3.2 with h | ⟨g, cap, cur, e1, hb, r⟩
  · exact .inl h
  · exact .inr ⟨g, cap, cur, e1, by omega, r⟩


end Go.Proofs.YtilcicoekpmelaaDoor
