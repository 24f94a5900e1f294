/-
  Walks of the program's CountSolutions, SolveAll, DomainHas.
  Walk of FnExactCountSolutions.
-/
import Derived.Test.YtmonhpoogfdpoaaGreatDoorPSj
import Derived.Test.YtmonhpoogfdpoaaGreatDoorPSiSf
import Derived.Test.YtmonhpoogfdpoaaGreatDoorPEG
import Derived.Deep.RegionLaw
set_option linter.unusedVariables false
namespace Go.Proofs.YtmonhpoogfdpoaaGreatDoor
open Go.RowKit

end Go.Proofs.YtmonhpoogfdpoaaGreatDoor

set_option linter.unusedVariables false
namespace Go.Proofs.YtmonhpoogfdpoaaGreatDoor
open Go.RowKit

theorem ModV.slices {S : List Nat} {w : World} {v : Value} {m : Mod} (h : ModV S w v m) : ∃ a b c d, v = .agg #[.slice a m.doms.length b, .slice c m.cons.length d] := by
  obtain ⟨dv, cv, rfl, ⟨a, b, rfl, _⟩, ⟨c, d, rfl, _⟩⟩ := h; exact ⟨a, b, c, d, rfl⟩
theorem New.mod {B : Nat} {w : World} {v : Value} {m : Mod} (h : ModM (New B w) w v m) : ModV [] w v m := h.mod (by simp)

end Go.Proofs.YtmonhpoogfdpoaaGreatDoor
