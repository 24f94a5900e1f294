/-
  Walk of the program's list of solutions.
-/
import Derived.Test.YtmonhpoogfdpoaaGreatDoorPSiSf
import Derived.Test.YtmonhpoogfdpoaaGreatDoorPG1
import Derived.Deep.AppendLies
set_option linter.unusedVariables false
namespace Go.Proofs.YtmonhpoogfdpoaaGreatDoor
open Go.RowKit
attribute [local go_sem] Oper.semAt_some

theorem ownsRow_keep {T : List Nat} {B e size n : Nat} {w w' : World} {v : Value} {xs : List Value} (h : w.ownsRow B e size v n xs) (hg : Gr T w w') (hT : ∀ b, v.ownBlock = some b → b ∉ T) : w'.ownsRow B e size v n xs := by
  refine ⟨h.1, ?_⟩
  rcases h.2 with h | ⟨g, cap, cur, e1, hb, hgg, rest⟩
  · exact .inl h
  · exact .inr ⟨g, cap, cur, e1, hb, hg.obj hgg (hT g (by rw [e1]; rfl)), rest⟩
end Go.Proofs.YtmonhpoogfdpoaaGreatDoor
