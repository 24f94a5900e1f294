/-
  Walks of the symmetries of variables and of values: the program's and the reference's.
-/
import Derived.Test.YtjmjjdgbkibdaaaSy2
import Derived.Test.YtjmjjdgbkibdaaaEH
set_option linter.unusedVariables false
namespace Go.Proofs.Ytjmjjdgbkibdaaa
open Go.RowKit

def symB (m : Mod) (D : List Nat) (i j : Int) : Bool := (validM m && allB 0 ((m.doms.length : Int) - 1) [i, j]) && presB m.cons D (swapL i.toNat j.toNat)
theorem swap_ok {D : List Nat} {cs : List Con} {i j : Nat} (hi : i < D.length) (hj : j < D.length) : ∀ x ∈ sols cs D, (swapL i j x).length = x.length ∧ ∀ y ∈ swapL i j x, 0 ≤ y ∧ y ≤ 5 := fun x hx => by
  have hin := (mem_sols.1 hx).1
  have hl := tups_len hin
  exact ⟨swapL_len _ _ _, fun y hy => tups_val hin y (swapL_mem (by omega) (by omega) hy)⟩

end Go.Proofs.Ytjmjjdgbkibdaaa
