/-
  Walks of the checks of a solution, for whatever assignment: the program's and the reference's.
  Walks of the program's CountSolutions, SolveAll, DomainHas.
  Walks of the exchange of variables: the program's.
  Walk of FnExactCountSolutions.
  Rows that lie each in a block of its own: marks upon them; SolveAll's result.
-/
import Derived.Test.YtihkeihnpiddoaaESiSf
import Derived.Test.YtihkeihnpiddoaaEEO
import Derived.Deep.RegionHeld3
import Derived.Test.YtihkeihnpiddoaaESj
import Derived.StillTailTactics
import Derived.Test.YtihkeihnpiddoaaEEG
import Derived.Deep.RegionLaw
set_option linter.unusedVariables false
namespace Go.Proofs.Ytihkeihnpiddoaa
open Go.RowKit

/-- The values of the first n variables lie in their domains. -/
def okN (D : List Nat) (xs : List Int) (n : Nat) : Prop := ∀ (j d : Nat) (x : Int), j < n → D[j]? = some d → xs[j]? = some x → d.testBit x.toNat = true
theorem in_of_ok {D : List Nat} {xs : List Int} (hl : xs.length = D.length) (hr : ∀ x ∈ xs, 0 ≤ x ∧ x ≤ 5) (h : okN D xs xs.length) : In xs D := by
  refine In.of hl fun i hi => ?_
  obtain ⟨x, hx⟩ := get_some (xs := xs) (k := i) (by omega)
  obtain ⟨d, hd⟩ := get_some hi
  have h1 := hr x (List.mem_of_getElem? hx)
  obtain ⟨n, rfl⟩ := Int.eq_ofNat_of_zero_le h1.1
  refine ⟨n, hx, by omega, ?_⟩
  have := h i d n (by omega) hd hx
  simpa [List.getD_eq_getElem?_getD, hd] using this
def isB (cs : List Con) (D : List Nat) (xs : List Int) : Bool := decide (xs ∈ sols cs D)
theorem isB_false {cs : List Con} {D : List Nat} {xs : List Int} (h : ¬ In xs D) : isB cs D xs = false := decide_eq_false fun hm => h (mem_sols.1 hm).1
theorem isB_in {cs : List Con} {D : List Nat} {xs : List Int} (h : In xs D) : isB cs D xs = solB cs xs := by
  unfold isB
  cases hs : solB cs xs
  · exact decide_eq_false fun hm => by have := solB_iff.2 (mem_sols.1 hm).2; rw [hs] at this; cases this
  · exact decide_eq_true (mem_sols.2 ⟨h, solB_iff.1 hs⟩)

end Go.Proofs.Ytihkeihnpiddoaa

set_option linter.unusedVariables false
namespace Go.Proofs.Ytihkeihnpiddoaa
open Go.RowKit

end Go.Proofs.Ytihkeihnpiddoaa

set_option linter.unusedVariables false
namespace Go.Proofs.Ytihkeihnpiddoaa
open Go.RowKit

end Go.Proofs.Ytihkeihnpiddoaa

set_option linter.unusedVariables false
namespace Go.Proofs.Ytihkeihnpiddoaa
open Go.RowKit

theorem ModV.slices {S : List Nat} {w : World} {v : Value} {m : Mod} (h : ModV S w v m) : ∃ a b c d, v = .agg #[.slice a m.doms.length b, .slice c m.cons.length d] := by
  obtain ⟨dv, cv, rfl, ⟨a, b, rfl, _⟩, ⟨c, d, rfl, _⟩⟩ := h; exact ⟨a, b, c, d, rfl⟩
theorem openVM (m : Mod) : ∃ D, validM m = true → VM m D := by
  by_cases h : validM m = true
  · obtain ⟨D, h⟩ := validM_open h; exact ⟨D, fun _ => h⟩
  · exact ⟨[], fun h' => absurd h' h⟩
theorem New.mod {B : Nat} {w : World} {v : Value} {m : Mod} (h : ModM (New B w) w v m) : ModV [] w v m := h.mod (by simp)

end Go.Proofs.Ytihkeihnpiddoaa

set_option linter.unusedVariables false
namespace Go.Proofs.Ytihkeihnpiddoaa
open Go.RowKit

end Go.Proofs.Ytihkeihnpiddoaa
