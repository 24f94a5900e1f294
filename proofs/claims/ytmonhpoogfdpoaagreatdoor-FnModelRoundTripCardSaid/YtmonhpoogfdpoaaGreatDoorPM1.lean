/-
  Walks of small functions of the reference.
  Walk of (*enumerator).walk: every tuple that satisfies the constraint gives its values support.
  Walks of the reference's propagation.
-/
import Derived.Test.YtmonhpoogfdpoaaGreatDoorPFP
import Derived.Test.YtmonhpoogfdpoaaGreatDoorPKL
import Derived.StillTailTactics
import Derived.BigFrame
import Derived.Test.YtmonhpoogfdpoaaGreatDoorPVeG
import Derived.RegionTactic
import Derived.BigRegion
import Derived.ChangeAlike
set_option linter.unusedVariables false
namespace Go.Proofs.YtmonhpoogfdpoaaGreatDoor
open Go.RowKit

theorem copyInts_c (v : Value) (xs : List Int) (w : World) (hx : Nums [] w .i64 v xs) (hl : xs.length ≤ 2000000) :
    Calls Tryz.prog 110 #[v] w fun e w' => ∃ v', e = .returned v' ∧ Own w.heap.size w' 3 v' xs ∧ Gr [] w w' := by
  have Hx := hid hx
  obtain ⟨ao, cap, rfl, ⟨h1, h2, _⟩, _⟩ := hx
  go_enter Tryz.func110, Tryz.ntmps110
  go_wp2_with (at_builtin; refine wp_appN rfl _ _ 24 rfl w.heap.size 3 infoI Tryz.underlying24 _ [] xs rfl (Own.empty w 3 (Nat.le_refl _)) _ [] rfl (Hx.out.gr ((Gr.refl [] w).alloc _)) (by simp; omega) (by simp) ?_; intro v' w' hown hb)
  go_ret
  exact ⟨_, rfl, by simpa using hown, ((Gr.refl [] w).alloc _).low hb (Nat.le_refl _)⟩

end Go.Proofs.YtmonhpoogfdpoaaGreatDoor

namespace Go.Proofs.YtmonhpoogfdpoaaGreatDoor
open Go.RowKit

theorem take_set {xs xs' : List Int} {i : Nat} {v : Int} (h : xs'.take i = xs.take i) (hi : i < xs'.length) : (xs'.set i v).take (i + 1) = xs.take i ++ [v] := by
  rw [List.take_succ_eq_append_getElem (by simpa using hi), List.take_set_of_le (Nat.le_refl _), h]
  simp
end Go.Proofs.YtmonhpoogfdpoaaGreatDoor

namespace Go.Proofs.YtmonhpoogfdpoaaGreatDoor
open Go.RowKit

end Go.Proofs.YtmonhpoogfdpoaaGreatDoor
