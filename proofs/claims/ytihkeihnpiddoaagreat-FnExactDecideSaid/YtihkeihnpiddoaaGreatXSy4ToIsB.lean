/-
  Walks of the symmetries of variables and of values: the program's and the reference's. Walks of the symmetries of variables and of values: the reference's; the program's for values.
  Walks of NextSolution: the program's and the reference's.
  The first one of lists for which a function is least: plainly, and the program's walk over whatever function. Walks of objectives: validity, the least solution; the program's and the reference's.
  Walks of laws.equalInts and FnIsConsistent. Walks of laws.isSubset and FnPropagateFixpoint. Walk of FnPropagateSound.
  Walks for the law of SolveAll: the reference's SolveAll, the comparisons of lists, IsSolution.
  impl.IsSolution for any assignment: IsSolution_b (yes exactly if it is among the solutions).
-/
import Derived.Test.YtihkeihnpiddoaaGreatXSy1ToRe
import Derived.Test.YtihkeihnpiddoaaGreatXG8
set_option linter.unusedVariables false
namespace Go.Proofs.YtihkeihnpiddoaaGreat
open Go.RowKit

end Go.Proofs.YtihkeihnpiddoaaGreat

set_option linter.unusedVariables false
namespace Go.Proofs.YtihkeihnpiddoaaGreat
open Go.RowKit

/-! ### Values -/
end Go.Proofs.YtihkeihnpiddoaaGreat

set_option linter.unusedVariables false
namespace Go.Proofs.YtihkeihnpiddoaaGreat
open Go.RowKit

def asgB (x : List Int) (n : Nat) : Bool := ((x.length : Int) == (n : Int)) && allB 0 5 x
theorem asg_len {x : List Int} {n : Nat} (h : asgB x n = true) : x.length = n ∧ ∀ y ∈ x, 0 ≤ y ∧ y ≤ 5 := by
  unfold asgB at h
  rw [Bool.and_eq_true] at h
  exact ⟨by have := h.1; simp at this; omega, allB_iff.1 h.2⟩

end Go.Proofs.YtihkeihnpiddoaaGreat

set_option linter.unusedVariables false
namespace Go.Proofs.YtihkeihnpiddoaaGreat
open Go.RowKit

def bstep (cost : List Int → Int) (o : Option (List Int)) (x : List Int) : Option (List Int) :=
  match o with
  | none => some x
  | some y => if cost x < cost y then some x else some y
def bestO (cost : List Int → Int) (zs : List (List Int)) : Option (List Int) := zs.foldl (bstep cost) none
theorem run_eql_slice_nil2 {P : Program} (w : World) (t e : TypeId) (a : Option Addr) (l c : Nat) (h : P.underlying t = some (.slice e)) : (binOp .eql t (.slice a l c) (.slice none 0 0)).run P w = .ok (.bool a.isNone) w := by
  simp only [binOp]
  simp [run_equal_slice_nil w t e a l c h]
theorem run_neq_slice_nil2 {P : Program} (w : World) (t e : TypeId) (a : Option Addr) (l c : Nat) (h : P.underlying t = some (.slice e)) : (binOp .neq t (.slice a l c) (.slice none 0 0)).run P w = .ok (.bool (!a.isNone)) w := by
  simp only [binOp]
  simp [run_equal_slice_nil w t e a l c h]
section
attribute [local go_sem] run_eql_slice_nil2 run_neq_slice_nil2

end
end Go.Proofs.YtihkeihnpiddoaaGreat

set_option linter.unusedVariables false
set_option linter.unusedSimpArgs false
namespace Go.Proofs.YtihkeihnpiddoaaGreat
open Go.RowKit

/-! ### The least solution -/
end Go.Proofs.YtihkeihnpiddoaaGreat

set_option linter.unusedVariables false
namespace Go.Proofs.YtihkeihnpiddoaaGreat
open Go.RowKit

end Go.Proofs.YtihkeihnpiddoaaGreat

set_option linter.unusedVariables false
namespace Go.Proofs.YtihkeihnpiddoaaGreat
open Go.RowKit

end Go.Proofs.YtihkeihnpiddoaaGreat

set_option linter.unusedVariables false
namespace Go.Proofs.YtihkeihnpiddoaaGreat
open Go.RowKit

end Go.Proofs.YtihkeihnpiddoaaGreat

set_option linter.unusedVariables false
namespace Go.Proofs.YtihkeihnpiddoaaGreat
open Go.RowKit

end Go.Proofs.YtihkeihnpiddoaaGreat

set_option linter.unusedVariables false
set_option linter.unusedSimpArgs false
namespace Go.Proofs.YtihkeihnpiddoaaGreat
open Go.RowKit

end Go.Proofs.YtihkeihnpiddoaaGreat
