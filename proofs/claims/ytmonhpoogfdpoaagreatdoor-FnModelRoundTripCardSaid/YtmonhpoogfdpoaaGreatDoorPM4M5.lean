/-
  Walks of the reference's propagation, the whole of it.
  Walks of the program's propagation.
-/
import Derived.Test.YtmonhpoogfdpoaaGreatDoorPM1
import Derived.Test.YtmonhpoogfdpoaaGreatDoorPFP
import Derived.Deep.LoopGhost
import Derived.Test.YtmonhpoogfdpoaaGreatDoorPQFil
import Derived.Deep.RegionHeld3
set_option linter.unusedVariables false
namespace Go.Proofs.YtmonhpoogfdpoaaGreatDoor
open Go.RowKit

theorem validM_iff {m : Mod} : validM m = true ↔ domsOk m.doms = true ∧ m.cons.length ≤ 6 ∧ ∀ c ∈ m.cons, validCon c m.doms.length = true := by
  unfold validM
  rw [Bool.and_eq_true, Bool.and_eq_true, inB_iff, List.all_eq_true]
  constructor
  · rintro ⟨⟨h1, h2⟩, h3⟩; exact ⟨h1, by omega, h3⟩
  · rintro ⟨h1, h2, h3⟩; exact ⟨⟨h1, by omega⟩, h3⟩
end Go.Proofs.YtmonhpoogfdpoaaGreatDoor

set_option linter.unusedVariables false
namespace Go.Proofs.YtmonhpoogfdpoaaGreatDoor
open Go.RowKit

end Go.Proofs.YtmonhpoogfdpoaaGreatDoor
