/-
  The objective, in plain mathematics.
-/
import Derived.Test.YtadieibhbplekaaLib
namespace Go.Proofs.Ytadieibhbplekaa

def dot : List Int → List Int → Int
  | a :: as, x :: xs => a * x + dot as xs
  | _, _ => 0
def Small (xs : List Int) : Prop := ∀ x ∈ xs, -1000 ≤ x ∧ x ≤ 1000
theorem mul_bd {a x : Int} (ha : -1000 ≤ a ∧ a ≤ 1000) (hx : -1000 ≤ x ∧ x ≤ 1000) : -1000000 ≤ a * x ∧ a * x ≤ 1000000 := by
  have h3 := Int.natAbs_mul a x
  have h4 : a.natAbs * x.natAbs ≤ 1000 * 1000 := Nat.mul_le_mul (by omega) (by omega)
  omega
theorem small_of_allB {lo hi : Int} {xs : List Int} (h : allB lo hi xs = true) (h1 : -1000 ≤ lo) (h2 : hi ≤ 1000) : Small xs := by
  intro x hx
  have := allB_iff.1 h x hx
  omega
/-- The value of an objective, as the document has it. -/
def objVal (obj xs : List Int) : Int :=
  if obj.length = xs.length ∧ obj.length ≤ 4 ∧ allB (-9) 9 obj = true ∧ allB 0 5 xs = true then dot obj xs else 0
theorem dot_set (obj xs : List Int) (k : Nat) (c x : Int) (hc : obj[k]? = some c) (hx : xs[k]? = some x) : dot obj (xs.set k (x + 1)) = dot obj xs + c := by
  induction obj generalizing xs k with
  | nil => simp at hc
  | cons a as ih =>
    cases xs with
    | nil => simp at hx
    | cons y ys =>
      cases k with
      | zero =>
        simp at hc hx; subst hc hx
        simp [dot, Int.mul_add]; omega
      | succ k =>
        simp at hc hx
        simp [dot, ih ys k hc hx]; omega
theorem allB_set {lo hi : Int} {xs : List Int} (k : Nat) (y : Int) (h : allB lo hi xs = true) (hy : inB lo hi y = true) : allB lo hi (xs.set k y) = true := by
  refine List.all_eq_true.2 fun z hz => ?_
  rcases List.mem_or_eq_of_mem_set hz with hz | rfl
  · exact List.all_eq_true.1 h z hz
  · exact hy
/-- The objective is linear. -/
theorem objVal_linear (obj xs : List Int) (k : Nat) (c x : Int) (hl : obj.length = xs.length) (hl' : obj.length ≤ 4) (ho : allB (-9) 9 obj = true) (hxs : allB 0 5 xs = true)
    (hc : obj[k]? = some c) (hx : xs[k]? = some x) (hx5 : x < 5) : objVal obj (xs.set k (x + 1)) = objVal obj xs + c := by
  have h0 := allB_iff.1 hxs x (List.mem_of_getElem? hx)
  have h1 : allB 0 5 (xs.set k (x + 1)) = true := allB_set k _ hxs (inB_iff.2 (by omega))
  unfold objVal
  rw [if_pos ⟨by simpa using hl, hl', ho, h1⟩, if_pos ⟨hl, hl', ho, hxs⟩]
  exact dot_set obj xs k c x hc hx
theorem dot_bd (cs xs : List Int) (hc : Small cs) (hx : Small xs) : -1000000 * (cs.length : Int) ≤ dot cs xs ∧ dot cs xs ≤ 1000000 * (cs.length : Int) := by
  induction cs generalizing xs with
  | nil => simp [dot]
  | cons a cs ih =>
    cases xs with
    | nil => simp only [dot, List.length_cons]; omega
    | cons y ys =>
      have h1 := mul_bd (hc a (by simp)) (hx y (by simp))
      have h2 := ih ys (fun z hz => hc z (by simp [hz])) (fun z hz => hx z (by simp [hz]))
      simp only [dot, List.length_cons]; omega
theorem objVal_bd (cs xs : List Int) : -4000000 ≤ objVal cs xs ∧ objVal cs xs ≤ 4000000 := by
  unfold objVal
  split
  · rename_i h
    obtain ⟨_, h2, h3, h4⟩ := h
    have := dot_bd cs xs (small_of_allB h3 (by omega) (by omega)) (small_of_allB h4 (by omega) (by omega))
    omega
  · omega
end Go.Proofs.Ytadieibhbplekaa
