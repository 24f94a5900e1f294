/-
  Walks of the orbits of variables: the program's and the reference's.
-/
import Derived.Test.YtjmjjdgbkibdaaaSy4
set_option linter.unusedVariables false
namespace Go.Proofs.Ytjmjjdgbkibdaaa
open Go.RowKit

def orb (cs : List Con) (D : List Nat) (i : Nat) : Nat := ((List.range (i + 1)).find? (fun j => presB cs D (swapL j i))).getD i
def orbs (cs : List Con) (D : List Nat) (n : Nat) : List Int := (List.range n).map fun i => (orb cs D i : Int)
def orbsO (m : Mod) (D : List Nat) : Option (List Int) := if validM m then some (orbs m.cons D D.length) else none
theorem swapL_self (i : Nat) (x : List Int) : swapL i i x = x := by
  unfold swapL
  rw [List.set_set]
  refine List.ext_getElem? fun j => ?_
  by_cases h : i = j
  · subst h
    by_cases hl : i < x.length
    · rw [List.getElem?_set_self hl, List.getElem?_eq_getElem hl, List.getD_eq_getElem?_getD, List.getElem?_eq_getElem hl]; rfl
    · rw [List.getElem?_eq_none (by simp; omega), List.getElem?_eq_none (by omega)]
  · rw [List.getElem?_set_ne h]
theorem presB_self (cs : List Con) (D : List Nat) (i : Nat) : presB cs D (swapL i i) = true := by
  unfold presB
  rw [List.all_eq_true]
  intro x hx
  rw [swapL_self]
  exact decide_eq_true hx
theorem find_range {p : Nat → Bool} {n j : Nat} (hj : j < n) (h0 : ∀ k, k < j → p k = false) (hp : p j = true) : (List.range n).find? p = some j := by
  induction n with
  | zero => omega
  | succ n ih =>
    rw [List.range_succ, List.find?_append]
    by_cases h : j < n
    · rw [ih h]; rfl
    · have : j = n := by omega
      subst this
      have : (List.range j).find? p = none := by
        rw [List.find?_eq_none]
        intro k hk
        rw [h0 k (List.mem_range.1 hk)]; simp
      rw [this]; simp [hp]
theorem orb_at {cs : List Con} {D : List Nat} {i j : Nat} (hj : j ≤ i) (h0 : ∀ k, k < j → presB cs D (swapL k i) = false) (hp : presB cs D (swapL j i) = true) : orb cs D i = j := by
  unfold orb; rw [find_range (by omega) h0 hp]; rfl
theorem orbs_succ (cs : List Con) (D : List Nat) (n : Nat) : orbs cs D (n + 1) = orbs cs D n ++ [(orb cs D n : Int)] := by simp [orbs, List.range_succ]
theorem orbs_zero (cs : List Con) (D : List Nat) : orbs cs D 0 = [] := by simp [orbs]
theorem orbs_len (cs : List Con) (D : List Nat) (n : Nat) : (orbs cs D n).length = n := by simp [orbs]
theorem orbsO_len (m : Mod) (D : List Nat) (hD : validM m = true → VM m D) : ((orbsO m D).getD []).length ≤ 1000000 := by
  unfold orbsO
  cases h : validM m
  · simp
  · simp only [if_true, Option.getD_some, orbs_len]; have := (hD h).len.2; omega

end Go.Proofs.Ytjmjjdgbkibdaaa
