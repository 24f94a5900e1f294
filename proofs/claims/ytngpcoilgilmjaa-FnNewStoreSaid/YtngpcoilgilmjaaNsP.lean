/-
  Plain laws of the next solution: it is the least one behind.
-/
import Derived.Test.YtngpcoilgilmjaaNs
set_option linter.unusedVariables false
namespace Go.Proofs.Ytngpcoilgilmjaa
open Go.RowKit

theorem lexB_asymm {x y : List Int} (h : lexB x y = true) : lexB y x = false := by
  induction x generalizing y with
  | nil => cases y <;> simp [lexB] at h
  | cons a x ih =>
    cases y with
    | nil => simp [lexB] at h
    | cons b y =>
      rw [lexB_cons] at h ⊢
      by_cases hab : a = b
      · subst hab
        rw [if_pos rfl] at h ⊢
        exact ih h
      · rw [if_neg hab] at h
        rw [if_neg (fun e => hab e.symm)]
        have := of_decide_eq_true h
        exact decide_eq_false (by omega)
theorem find_least {zs : List (List Int)} {p : List Int → Bool} {y : List Int} (hs : zs.Pairwise fun x y => lexB x y = true) (h : zs.find? p = some y) : y ∈ zs ∧ p y = true ∧ ∀ z ∈ zs, p z = true → lexB z y = false := by
  induction zs with
  | nil => simp at h
  | cons a r ih =>
    rw [List.find?_cons] at h
    cases hp : p a
    · rw [hp] at h
      obtain ⟨h1, h2, h3⟩ := ih (List.pairwise_cons.1 hs).2 h
      refine ⟨by simp [h1], h2, fun z hz hpz => ?_⟩
      rcases List.mem_cons.1 hz with rfl | hz
      · rw [hp] at hpz; cases hpz
      · exact h3 z hz hpz
    · rw [hp] at h
      simp at h
      subst h
      refine ⟨by simp, hp, fun z hz hpz => ?_⟩
      rcases List.mem_cons.1 hz with rfl | hz
      · exact lexB_irrefl _
      · exact lexB_asymm ((List.pairwise_cons.1 hs).1 z hz)
theorem nextO_least {m : Mod} {D : List Nat} {x y : List Int} (h : nextO m D x = some y) : y ∈ sols m.cons D ∧ lexB x y = true ∧ ∀ z ∈ sols m.cons D, lexB x z = true → lexB z y = false := by
  cases hv : (validM m && asgB x m.doms.length)
  · rw [nextO_no hv] at h; cases h
  · rw [nextO_yes hv] at h
    exact find_least (sols_sorted _ _) h
theorem nextO_none {m : Mod} {D : List Nat} {x : List Int} (hv : (validM m && asgB x m.doms.length) = true) (h : nextO m D x = none) : ∀ z ∈ sols m.cons D, lexB x z = false := by
  rw [nextO_yes hv, List.find?_eq_none] at h
  intro z hz
  simpa using h z hz
end Go.Proofs.Ytngpcoilgilmjaa
