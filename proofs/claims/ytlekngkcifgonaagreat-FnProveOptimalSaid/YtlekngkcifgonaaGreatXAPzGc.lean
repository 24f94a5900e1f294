/-
  Walks: the generators of clauses and conjunctions; DrawNegateAll.
  Walks: the generator of CheckProof's arguments.
-/
import Derived.Test.YtlekngkcifgonaaGreatXAVlMg
import Derived.Test.YtlekngkcifgonaaGreatXTrPrPv
import Derived.Deep.RegionHeldLaw
import Derived.Test.YtlekngkcifgonaaGreatXAPy
import Derived.Test.YtlekngkcifgonaaGreatXG13
set_option linter.unusedVariables false
set_option linter.unusedSimpArgs false
namespace Go.Proofs.YtlekngkcifgonaaGreat
open Go.RowKit


end Go.Proofs.YtlekngkcifgonaaGreat

set_option linter.unusedVariables false
set_option linter.unusedSimpArgs false
namespace Go.Proofs.YtlekngkcifgonaaGreat
open Go.RowKit

/-! ### A list of clauses in a block of the call's own -/
theorem provO_short {m : Mod} {D : List Nat} (hD : validM m = true → VM m D) : ((provO m D).getD []).length ≤ 200 ∧ ∀ c ∈ (provO m D).getD [], c.length ≤ 100 := by
  cases hv : validM m
  · rw [provO_no hv]; simp
  · rw [provO_yes hv]
    cases hi : infO m.cons D with
    | none => simp
    | some a =>
      obtain ⟨h1, h2⟩ := infO_prf hi
      have hVM := hD hv
      refine ⟨h2, fun c hc => ?_⟩
      have := prf_valid _ D [] (Nat.lt_succ_self _) hVM.cons hVM.below (PathOk.nil D) hVM.len a h1 c hc
      unfold validCl at this
      rw [Bool.and_eq_true] at this
      have := (validClS_iff.1 this.2).2.2
      omega

end Go.Proofs.YtlekngkcifgonaaGreat
