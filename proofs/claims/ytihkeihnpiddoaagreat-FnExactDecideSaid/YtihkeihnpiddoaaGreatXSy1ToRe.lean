/-
  Walks of the checks of a solution, for whatever assignment: the program's and the reference's.
  Walks of the program's CountSolutions, SolveAll, DomainHas.
  Walks of the exchange of variables: the program's.
  Walk of FnExactCountSolutions.
  Rows that lie each in a block of its own: marks upon them; SolveAll's result.
-/
import Derived.Test.YtihkeihnpiddoaaGreatXSiSf
import Derived.Test.YtihkeihnpiddoaaGreatXEO
import Derived.Deep.RegionHeld3
import Derived.Test.YtihkeihnpiddoaaGreatXSj
import Derived.StillTailTactics
import Derived.Test.YtihkeihnpiddoaaGreatXEG
import Derived.Deep.RegionLaw
set_option linter.unusedVariables false
namespace Go.Proofs.YtihkeihnpiddoaaGreat
open Go.RowKit

end Go.Proofs.YtihkeihnpiddoaaGreat

set_option linter.unusedVariables false
namespace Go.Proofs.YtihkeihnpiddoaaGreat
open Go.RowKit

theorem valueOk_c (d : Int) (w : World) : Calls Tryz.prog 72 #[.int .i64 d] w fun e w' => e = .returned (.bool (inB 0 5 d)) ∧ w' = w := by
  go_enter Tryz.func72, Tryz.ntmps72
  go_wp2_with fail
  have hcall := within_c d 0 5 w
  (with_reducible refine hcall.mono ?_)
  clear hcall
  rintro e w2 ⟨rfl, rfl⟩
  go_wp2_with fail
  go_ret
  exact ⟨rfl, rfl⟩
end Go.Proofs.YtihkeihnpiddoaaGreat

set_option linter.unusedVariables false
namespace Go.Proofs.YtihkeihnpiddoaaGreat
open Go.RowKit

end Go.Proofs.YtihkeihnpiddoaaGreat

set_option linter.unusedVariables false
namespace Go.Proofs.YtihkeihnpiddoaaGreat
open Go.RowKit

theorem ModV.slices {S : List Nat} {w : World} {v : Value} {m : Mod} (h : ModV S w v m) : ∃ a b c d, v = .agg #[.slice a m.doms.length b, .slice c m.cons.length d] := by
  obtain ⟨dv, cv, rfl, ⟨a, b, rfl, _⟩, ⟨c, d, rfl, _⟩⟩ := h; exact ⟨a, b, c, d, rfl⟩
theorem New.mod {B : Nat} {w : World} {v : Value} {m : Mod} (h : ModM (New B w) w v m) : ModV [] w v m := h.mod (by simp)

end Go.Proofs.YtihkeihnpiddoaaGreat

set_option linter.unusedVariables false
namespace Go.Proofs.YtihkeihnpiddoaaGreat
open Go.RowKit

end Go.Proofs.YtihkeihnpiddoaaGreat
