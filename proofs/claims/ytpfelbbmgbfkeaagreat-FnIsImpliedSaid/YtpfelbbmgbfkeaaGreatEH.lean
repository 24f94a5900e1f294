/-
  Walk of FnExactCountSolutions.
-/
import Derived.Test.YtpfelbbmgbfkeaaGreatEG
import Derived.Test.YtpfelbbmgbfkeaaGreatSk
import Derived.Deep.RegionLaw

set_option linter.unusedVariables false
namespace Go.Proofs.YtpfelbbmgbfkeaaGreat
open Go.RowKit

theorem ModV.slices {S : List Nat} {w : World} {v : Value} {m : Mod} (h : ModV S w v m) : ∃ a b c d, v = .agg #[.slice a m.doms.length b, .slice c m.cons.length d] := by
  obtain ⟨dv, cv, rfl, ⟨a, b, rfl, _⟩, ⟨c, d, rfl, _⟩⟩ := h; exact ⟨a, b, c, d, rfl⟩
theorem openVM (m : Mod) : ∃ D, validM m = true → VM m D := by
  by_cases h : validM m = true
  · obtain ⟨D, h⟩ := validM_open h; exact ⟨D, fun _ => h⟩
  · exact ⟨[], fun h' => absurd h' h⟩
theorem New.mod {B : Nat} {w : World} {v : Value} {m : Mod} (h : ModM (New B w) w v m) : ModV [] w v m := h.mod (by simp)

end Go.Proofs.YtpfelbbmgbfkeaaGreat
