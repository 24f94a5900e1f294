/-
  Walks of NextSolution: the program's and the reference's.
-/
import Derived.Test.YtngpcoilgilmjaaRe
import Derived.Test.YtngpcoilgilmjaaSy4
set_option linter.unusedVariables false
namespace Go.Proofs.Ytngpcoilgilmjaa
open Go.RowKit

def cmpL : List Int → List Int → Int
  | x :: xs, y :: ys => if x < y then -1 else if y < x then 1 else cmpL xs ys
  | _, _ => 0
theorem cmpL_cons (x y : Int) (xs ys : List Int) : cmpL (x :: xs) (y :: ys) = if x < y then -1 else if y < x then 1 else cmpL xs ys := rfl
theorem lexB_cons (x y : Int) (xs ys : List Int) : lexB (x :: xs) (y :: ys) = if x = y then lexB xs ys else decide (x < y) := rfl
theorem cmpL_pos' (xs ys : List Int) (h : xs.length = ys.length) : 0 < cmpL xs ys ↔ lexB ys xs = true := by
  induction xs generalizing ys with
  | nil => cases ys with
    | nil => simp [cmpL, lexB]
    | cons y ys => simp at h
  | cons x xs ih =>
    cases ys with
    | nil => simp at h
    | cons y ys =>
      have h' : xs.length = ys.length := by simpa using h
      rw [cmpL_cons, lexB_cons]
      by_cases h1 : x < y
      · rw [if_pos h1, if_neg (show ¬ y = x by omega), decide_eq_true_iff]; omega
      · rw [if_neg h1]
        by_cases h2 : y < x
        · rw [if_pos h2, if_neg (show ¬ y = x by omega), decide_eq_true_iff]; omega
        · rw [if_neg h2, if_pos (show y = x by omega)]
          exact ih ys h'
theorem cmpL_pos (xs ys : List Int) (h : xs.length = ys.length) : decide (0 < cmpL xs ys) = lexB ys xs := by
  have := cmpL_pos' xs ys h
  cases hl : lexB ys xs
  · rw [hl] at this; exact decide_eq_false (by simpa using this)
  · rw [hl] at this; exact decide_eq_true (by simpa using this)

theorem isNaN_c (a : Int) (w : World) : Calls Try.prog 183 #[.int .i64 a] w fun e w' => e = .returned (.bool false) ∧ w' = w := by
  have h : (a != a) = false := by simp
  go_enter Try.func183, Try.ntmps183
  go_wp2_with fail
  go_ret
  exact ⟨rfl, rfl⟩
theorem compareInt_c (a b : Int) (w : World) : Calls Try.prog 169 #[.int .i64 a, .int .i64 b] w fun e w' => e = .returned (.int .i64 (if a < b then -1 else if b < a then 1 else 0)) ∧ w' = w := by
  by_cases h1 : a < b
  · rw [if_pos h1]
    go_enter Try.func169, Try.ntmps169
    go_wp2_with (go_at_call 183; refine (isNaN_c _ _).mono ?_; rintro e w' ⟨rfl, rfl⟩)
    go_ret
    exact ⟨rfl, rfl⟩
  · rw [if_neg h1]
    by_cases h2 : b < a
    · rw [if_pos h2]
      go_enter Try.func169, Try.ntmps169
      go_wp2_with (go_at_call 183; refine (isNaN_c _ _).mono ?_; rintro e w' ⟨rfl, rfl⟩)
      go_ret
      exact ⟨rfl, rfl⟩
    · rw [if_neg h2]
      go_enter Try.func169, Try.ntmps169
      go_wp2_with (go_at_call 183; refine (isNaN_c _ _).mono ?_; rintro e w' ⟨rfl, rfl⟩)
      go_ret
      exact ⟨rfl, rfl⟩

theorem sols_lenD {m : Mod} {D : List Nat} (hv : VM m D) {x : List Int} (h : x ∈ sols m.cons D) : x.length = m.doms.length := by rw [tups_len (mem_sols.1 h).1, hv.doms, ints_len]
def asgB (x : List Int) (n : Nat) : Bool := ((x.length : Int) == (n : Int)) && allB 0 5 x
def nextO (m : Mod) (D : List Nat) (x : List Int) : Option (List Int) := if validM m && asgB x m.doms.length then (sols m.cons D).find? (fun y => lexB x y) else none
theorem nextO_no {m : Mod} {D : List Nat} {x : List Int} (h : (validM m && asgB x m.doms.length) = false) : nextO m D x = none := by unfold nextO; rw [h]; rfl
theorem nextO_yes {m : Mod} {D : List Nat} {x : List Int} (h : (validM m && asgB x m.doms.length) = true) : nextO m D x = (sols m.cons D).find? (fun y => lexB x y) := by unfold nextO; rw [h]; rfl
theorem find_at {p : List Int → Bool} {zs : List (List Int)} {n : Nat} {y : List Int} (h0 : ∀ z ∈ zs.take n, p z = false) (hy : zs[n]? = some y) (hp : p y = true) : zs.find? p = some y := by
  induction zs generalizing n with
  | nil => simp at hy
  | cons z r ih =>
    cases n with
    | zero => simp at hy; subst hy; simp [hp]
    | succ n =>
      have hz := h0 z (by simp)
      rw [List.find?_cons, hz]
      exact ih (n := n) (fun q hq => h0 q (by simp [hq])) (by simpa using hy)
theorem find_none {p : List Int → Bool} {zs : List (List Int)} (h0 : ∀ z ∈ zs, p z = false) : zs.find? p = none := by
  rw [List.find?_eq_none]
  intro z hz; rw [h0 z hz]; simp
theorem asg_len {x : List Int} {n : Nat} (h : asgB x n = true) : x.length = n ∧ ∀ y ∈ x, 0 ≤ y ∧ y ≤ 5 := by
  unfold asgB at h
  rw [Bool.and_eq_true] at h
  exact ⟨by have := h.1; simp at this; omega, allB_iff.1 h.2⟩

theorem nextO_len (m : Mod) (x : List Int) (D : List Nat) (hD : validM m = true → VM m D) : ((nextO m D x).getD []).length ≤ 1000000 := by
  cases h : (validM m && asgB x m.doms.length)
  · rw [nextO_no h]; simp
  · rw [nextO_yes h]
    rw [Bool.and_eq_true] at h
    have hv := hD h.1
    cases hf : (sols m.cons D).find? (fun y => lexB x y) with
    | none => simp
    | some y =>
      have := sols_lenD hv (List.mem_of_find?_eq_some hf)
      have := hv.len.2
      simp only [Option.getD_some]
      have h3 : m.doms.length = D.length := by rw [hv.doms, ints_len]
      omega
end Go.Proofs.Ytngpcoilgilmjaa
