/-
  Plain laws of the next solution: it is the least one behind.
-/
import Derived.Test.YtilcicoekpmelaaGreatDoorPSy4ToSl
set_option linter.unusedVariables false
namespace Go.Proofs.YtilcicoekpmelaaGreatDoor
open Go.RowKit

theorem lexB_asymm {x y : List Int} (h : lexB x y = true) : lexB y x = false := by
  induction x generalizing y with
  | nil => cases y <;> simp [lexB] at h
  | cons a x ih =>
    cases y with
    | nil => simp [lexB] at h
    | cons b y =>
      rw [lexB_cons] at h ⊢
      by_cases hab : a = b
      · subst hab
        rw [if_pos rfl] at h ⊢
        exact ih h
      · rw [if_neg hab] at h
        rw [if_neg (fun e => hab e.symm)]
        have := of_decide_eq_true h
        exact decide_eq_false (by omega)
end Go.Proofs.YtilcicoekpmelaaGreatDoor
