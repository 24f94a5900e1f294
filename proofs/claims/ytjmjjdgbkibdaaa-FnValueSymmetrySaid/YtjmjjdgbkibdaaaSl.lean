/-
  Walks for the law of SolveAll: the reference's SolveAll, the comparisons of lists, IsSolution.
-/
import Derived.Test.YtjmjjdgbkibdaaaLPS
set_option linter.unusedVariables false
namespace Go.Proofs.Ytjmjjdgbkibdaaa
open Go.RowKit

/-- A model and a number. -/
def DrawLPost (w : World) (e : Ending) (w' : World) : Prop := ∃ (m : Mod) (mv : Value) (L : Int), e = .returned (.tuple #[mv, .int .i64 L]) ∧ ModV [] w' mv m ∧ m.Small ∧ Gr [] w w'
end Go.Proofs.Ytjmjjdgbkibdaaa
