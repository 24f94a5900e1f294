/-
  Literals and clauses as plain data; how they are read in memory; the plain meaning of the checks on them. No program is mentioned.
  Plain laws of stores: larger domains have a larger fixpoint; two decisions in either order lead to the same domains. No program is mentioned.
-/
import Derived.Test.YtmonhpoogfdpoaaGreatDoorPLib
import Derived.Test.YtmonhpoogfdpoaaGreatDoorPFP
set_option linter.unusedVariables false
set_option linter.unusedSimpArgs false
namespace Go.Proofs.YtmonhpoogfdpoaaGreatDoor
open Go.RowKit

structure Lit where
  var : Int
  val : Int
  neg : Bool
instance : DecidableEq Lit := fun a b =>
  decidable_of_iff (a.var = b.var ∧ a.val = b.val ∧ a.neg = b.neg) ⟨fun ⟨h1, h2, h3⟩ => by cases a; cases b; simp_all, fun h => by subst h; exact ⟨rfl, rfl, rfl⟩⟩
instance : Inhabited Lit := ⟨⟨0, 0, false⟩⟩
/-! ### The order of literals -/
/-! ### Insertion into an ascending list -/
end Go.Proofs.YtmonhpoogfdpoaaGreatDoor

set_option linter.unusedVariables false
set_option linter.unusedSimpArgs false
namespace Go.Proofs.YtmonhpoogfdpoaaGreatDoor
open Go.RowKit

end Go.Proofs.YtmonhpoogfdpoaaGreatDoor
