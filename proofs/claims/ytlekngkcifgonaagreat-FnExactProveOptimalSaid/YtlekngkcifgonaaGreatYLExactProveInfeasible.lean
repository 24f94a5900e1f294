/-
  Walk of FnExactProveInfeasible.
-/
import Derived.Test.YtlekngkcifgonaaGreatYSy1ToRe
import Derived.Test.YtlekngkcifgonaaGreatYPy
import Derived.Test.YtlekngkcifgonaaGreatYPzGc
set_option linter.unusedVariables false
namespace Go.Proofs.YtlekngkcifgonaaGreat
open Go.RowKit


theorem sumK_le {n : Nat} : ∀ {cls : List Cls}, (∀ c ∈ cls, c.length ≤ n) → sumK cls ≤ n * cls.length
  | [], _ => by simp [sumK]
  | c :: r, h => by
    have h1 := h c (by simp)
    have h2 := sumK_le (cls := r) fun d hd => h d (by simp [hd])
    simp only [sumK, List.map_cons, List.sum_cons, List.length_cons] at h2 ⊢
    rw [Nat.mul_add]; omega

end Go.Proofs.YtlekngkcifgonaaGreat
