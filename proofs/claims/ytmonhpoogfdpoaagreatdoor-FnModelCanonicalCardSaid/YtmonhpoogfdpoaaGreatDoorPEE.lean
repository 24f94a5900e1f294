/-
  Walks of the conversions of the exact laws: sizes, copies, comparisons.
  Walks of the conversions of the exact laws: copies of what came in, in memory of the call's own.
  Walks of the conversions: a constraint, a model.
-/
import Derived.Test.YtmonhpoogfdpoaaGreatDoorPEO
import Derived.Test.YtmonhpoogfdpoaaGreatDoorPHJ
import Derived.Test.YtmonhpoogfdpoaaGreatDoorPG1
set_option linter.unusedVariables false
namespace Go.Proofs.YtmonhpoogfdpoaaGreatDoor
open Go.RowKit

def cut (left : Int) (n : Nat) : Int := if left < (n : Int) then -1 else left - n
theorem sum_take {α : Type} (f : α → Nat) {xs : List α} {n : Nat} {x : α} (h : xs[n]? = some x) : ((xs.take (n + 1)).map f).sum = ((xs.take n).map f).sum + f x := by
  rw [List.take_add_one, h]; simp
theorem sum_take_le {α : Type} (f : α → Nat) (xs : List α) (n : Nat) : ((xs.take n).map f).sum ≤ (xs.map f).sum := by
  conv => rhs; rw [← List.take_append_drop n xs, List.map_append, List.sum_append]
  omega
end Go.Proofs.YtmonhpoogfdpoaaGreatDoor

set_option linter.unusedVariables false
namespace Go.Proofs.YtmonhpoogfdpoaaGreatDoor
open Go.RowKit

theorem New.le {B B' : Nat} {w w' : World} {b : Nat} (h : New B w b) (hB : B' ≤ B) (hw : w.heap.size ≤ w'.heap.size) : New B' w' b := ⟨Nat.le_trans hB h.1, Nat.lt_of_lt_of_le h.2 hw⟩

end Go.Proofs.YtmonhpoogfdpoaaGreatDoor

set_option linter.unusedVariables false
namespace Go.Proofs.YtmonhpoogfdpoaaGreatDoor
open Go.RowKit

theorem ConV.open {S : List Nat} {w : World} {v : Value} {c : Con} (h : ConV S w v c) :
    ∃ vo vc ao ac ro rc, v = .agg #[.int .i64 c.kind, .slice vo c.vars.length vc, .slice ao c.args.length ac, .int .i64 c.bound, .slice ro c.rows.length rc] ∧
      Nums S w .i64 (.slice vo c.vars.length vc) c.vars ∧ Nums S w .i64 (.slice ao c.args.length ac) c.args ∧ RowsV S w (.slice ro c.rows.length rc) c.rows := by
  obtain ⟨vv, av, rv, rfl, h1, h2, h3⟩ := h
  obtain ⟨vo, vc, rfl, k1⟩ := h1
  obtain ⟨ao, ac, rfl, k2⟩ := h2
  obtain ⟨ro, rc, rfl, k3⟩ := h3
  exact ⟨vo, vc, ao, ac, ro, rc, rfl, ⟨vo, vc, rfl, k1⟩, ⟨ao, ac, rfl, k2⟩, ⟨ro, rc, rfl, k3⟩⟩

end Go.Proofs.YtmonhpoogfdpoaaGreatDoor
