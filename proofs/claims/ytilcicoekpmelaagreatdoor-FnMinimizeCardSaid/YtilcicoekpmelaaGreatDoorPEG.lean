/-
  Walks of the exact laws: comparisons, marks.
  Walks of the exact laws: marks upon a model.
-/
import Derived.Test.YtilcicoekpmelaaGreatDoorPEE
import Derived.Deep.RegionHeld3
set_option linter.unusedVariables false
namespace Go.Proofs.YtilcicoekpmelaaGreatDoor
open Go.RowKit

theorem ConsV.at2 {S : List Nat} {w : World} {ao : Option Addr} {n cap : Nat} {cs : List Con} (h : ConsV S w (.slice ao n cap) cs) {k : Nat} {c : Con} (hi : cs[k]? = some c) :
    ∃ b o vo vc xo xc ro rc, ao = some ⟨b, o, none⟩ ∧ b ∉ S ∧ (w.cell? ⟨b, o + k * 5, none⟩ = some (.int .i64 c.kind) ∧ w.cell? ⟨b, o + k * 5 + 1, none⟩ = some (.slice vo c.vars.length vc) ∧ w.cell? ⟨b, o + k * 5 + 2, none⟩ = some (.slice xo c.args.length xc) ∧
     w.cell? ⟨b, o + k * 5 + 3, none⟩ = some (.int .i64 c.bound) ∧ w.cell? ⟨b, o + k * 5 + 4, none⟩ = some (.slice ro c.rows.length rc)) ∧ ConV S w (.agg #[.int .i64 c.kind, .slice vo c.vars.length vc, .slice xo c.args.length xc, .int .i64 c.bound, .slice ro c.rows.length rc]) c := by
  obtain ⟨ao', cap', e, _, hc⟩ := h
  simp only [Value.slice.injEq] at e
  obtain ⟨rfl, _, _⟩ := e
  exact hc.at2 hi

/-! ### Marks -/
def marks (k : Int) (n : Nat) : List Int := (List.range n).map fun i : Nat => k + i
theorem NumsM.set {M : Nat → Prop} {w : World} {b o n cap : Nat} {xs : List Int} (h : NumsM M w (.slice (some ⟨b, o, none⟩) n cap) xs) (k : Nat) (y : Int) :
    NumsM M (w.setCell ⟨b, o + k, none⟩ (.int .i64 y)) (.slice (some ⟨b, o, none⟩) n cap) (xs.set k y) := by
  obtain ⟨ao, cap', e, hl, h⟩ := h
  simp only [Value.slice.injEq] at e
  obtain ⟨rfl, rfl, rfl⟩ := e
  refine ⟨_, _, by rw [List.length_set], by rw [List.length_set]; exact hl, fun i r' hi => ?_⟩
  by_cases hik : k = i
  · subst hik
    have hk : k < xs.length := by have := (List.getElem?_eq_some_iff.1 hi).1; simpa using this
    rw [List.getElem?_set_self hk] at hi
    cases hi
    obtain ⟨r0, hr0⟩ := get_some hk
    obtain ⟨b', o', e1, hm, hc, hf⟩ := h k r0 hr0
    cases e1
    exact ⟨b, o, rfl, hm, World.cell?_setCell_same _ _ _ hc, by simpa using hf⟩
  · rw [List.getElem?_set_ne hik] at hi
    obtain ⟨b', o', e1, hm, hc, hf⟩ := h i r' hi
    cases e1
    refine ⟨b, o, rfl, hm, (World.cell?_setCell_other _ _ _ _ ?_).trans hc, by simpa using hf⟩
    intro e; simp at e; try omega

end Go.Proofs.YtilcicoekpmelaaGreatDoor

set_option linter.unusedVariables false
namespace Go.Proofs.YtilcicoekpmelaaGreatDoor
open Go.RowKit

end Go.Proofs.YtilcicoekpmelaaGreatDoor
