/-
  The first one of lists for which a function is least: plainly, and the program's walk over whatever function.
  Walks of objectives: validity, the least solution; the program's and the reference's.
-/
import Derived.Test.YtngpcoilgilmjaaNs
set_option linter.unusedVariables false
namespace Go.Proofs.Ytngpcoilgilmjaa
open Go.RowKit

def bstep (cost : List Int → Int) (o : Option (List Int)) (x : List Int) : Option (List Int) :=
  match o with
  | none => some x
  | some y => if cost x < cost y then some x else some y
def bestO (cost : List Int → Int) (zs : List (List Int)) : Option (List Int) := zs.foldl (bstep cost) none
theorem bestO_nil (cost : List Int → Int) : bestO cost [] = none := rfl
theorem bestO_succ {cost : List Int → Int} {zs : List (List Int)} {n : Nat} {x : List Int} (h : zs[n]? = some x) : bestO cost (zs.take (n + 1)) = bstep cost (bestO cost (zs.take n)) x := by
  unfold bestO
  rw [List.take_add_one, h]
  simp
theorem bstep_some (cost : List Int → Int) (o : Option (List Int)) (x : List Int) : (bstep cost o x).isSome = true := by
  cases o with
  | none => rfl
  | some y => unfold bstep; simp only; split <;> rfl
theorem bstep_mem {cost : List Int → Int} {o : Option (List Int)} {x y : List Int} (h : bstep cost o x = some y) : o = some y ∨ x = y := by
  cases o with
  | none => right; simpa [bstep] using h
  | some z =>
    unfold bstep at h
    simp only at h
    split at h
    · right; simpa using h
    · left; simpa using h
theorem foldl_mem {cost : List Int → Int} {zs : List (List Int)} {o : Option (List Int)} {y : List Int} (h : zs.foldl (bstep cost) o = some y) : o = some y ∨ y ∈ zs := by
  induction zs generalizing o with
  | nil => exact .inl h
  | cons x r ih =>
    rcases ih h with h | h
    · rcases bstep_mem h with h | h
      · exact .inl h
      · right; simp [h]
    · right; simp [h]
theorem bestO_mem {cost : List Int → Int} {zs : List (List Int)} {y : List Int} (h : bestO cost zs = some y) : y ∈ zs := by
  rcases foldl_mem h with h | h
  · cases h
  · exact h
theorem bestO_none {cost : List Int → Int} {zs : List (List Int)} (h : bestO cost zs = none) : zs = [] := by
  cases zs with
  | nil => rfl
  | cons x r =>
    exfalso
    have h1 : (bestO cost (x :: r)).isSome = true := by
      show ((x :: r).foldl (bstep cost) none).isSome = true
      rw [List.foldl_cons]
      have : ∀ (r : List (List Int)) (o : Option (List Int)), o.isSome = true → (r.foldl (bstep cost) o).isSome = true := by
        intro r
        induction r with
        | nil => intro o h; exact h
        | cons z r ih => intro o h; exact ih _ (bstep_some _ _ _)
      exact this r _ (bstep_some _ _ _)
    rw [h] at h1; cases h1
/-- The least: nothing in the list is less, and nothing ahead of it is as small. -/
theorem bestO_least {cost : List Int → Int} {zs : List (List Int)} {y : List Int} (h : bestO cost zs = some y) : ∀ x ∈ zs, cost y ≤ cost x := by
  have : ∀ (zs : List (List Int)) (o : Option (List Int)) (y : List Int), zs.foldl (bstep cost) o = some y → (∀ z, o = some z → cost y ≤ cost z) ∧ ∀ x ∈ zs, cost y ≤ cost x := by
    intro zs
    induction zs with
    | nil => intro o y h; exact ⟨fun z hz => by simp at h; rw [h] at hz; simp at hz; subst hz; exact Int.le_refl _, by simp⟩
    | cons x r ih =>
      intro o y h
      obtain ⟨h1, h2⟩ := ih _ y h
      cases o with
      | none =>
        refine ⟨by simp, fun z hz => ?_⟩
        rcases List.mem_cons.1 hz with rfl | hz
        · exact h1 _ rfl
        · exact h2 z hz
      | some q =>
        unfold bstep at h1
        simp only at h1
        split at h1
        · rename_i hlt
          have := h1 _ rfl
          refine ⟨fun z hz => by simp at hz; subst hz; omega, fun z hz => ?_⟩
          rcases List.mem_cons.1 hz with rfl | hz
          · exact this
          · exact h2 z hz
        · rename_i hlt
          have := h1 _ rfl
          refine ⟨fun z hz => by simp at hz; subst hz; exact this, fun z hz => ?_⟩
          rcases List.mem_cons.1 hz with rfl | hz
          · omega
          · exact h2 z hz
  exact (this zs none y h).2

theorem run_eql_slice_nil2 {P : Program} (w : World) (t e : TypeId) (a : Option Addr) (l c : Nat) (h : P.underlying t = some (.slice e)) : (binOp .eql t (.slice a l c) (.slice none 0 0)).run P w = .ok (.bool a.isNone) w := by
  simp only [binOp]
  simp [run_equal_slice_nil w t e a l c h]
theorem run_neq_slice_nil2 {P : Program} (w : World) (t e : TypeId) (a : Option Addr) (l c : Nat) (h : P.underlying t = some (.slice e)) : (binOp .neq t (.slice a l c) (.slice none 0 0)).run P w = .ok (.bool (!a.isNone)) w := by
  simp only [binOp]
  simp [run_equal_slice_nil w t e a l c h]
section
attribute [local go_sem] run_eql_slice_nil2 run_neq_slice_nil2

end
end Go.Proofs.Ytngpcoilgilmjaa

set_option linter.unusedVariables false
set_option linter.unusedSimpArgs false
namespace Go.Proofs.Ytngpcoilgilmjaa
open Go.RowKit

def objB (x : List Int) (n : Nat) : Bool := ((x.length : Int) == (n : Int)) && allB (-9) 9 x
theorem obj_len {x : List Int} {n : Nat} (h : objB x n = true) : x.length = n ∧ ∀ y ∈ x, -9 ≤ y ∧ y ≤ 9 := by
  unfold objB at h
  rw [Bool.and_eq_true] at h
  exact ⟨by have := h.1; simp at this; omega, allB_iff.1 h.2⟩
/-! ### The least solution -/
def minO (m : Mod) (D : List Nat) (o : List Int) : Option (List Int) := if validM m && objB o m.doms.length then bestO (dot o) (sols m.cons D) else none
theorem minO_no {m : Mod} {D : List Nat} {x : List Int} (h : (validM m && objB x m.doms.length) = false) : minO m D x = none := by unfold minO; rw [h]; rfl
theorem minO_yes {m : Mod} {D : List Nat} {x : List Int} (h : (validM m && objB x m.doms.length) = true) : minO m D x = bestO (dot x) (sols m.cons D) := by unfold minO; rw [h]; rfl
theorem small9 {x : List Int} (h : ∀ y ∈ x, -9 ≤ y ∧ y ≤ 9) : Small x := fun y hy => by have := h y hy; omega
theorem small5 {x : List Int} (h : ∀ y ∈ x, 0 ≤ y ∧ y ≤ 5) : Small x := fun y hy => by have := h y hy; omega
theorem solv {cs : List Con} {D : List Nat} {x : List Int} (h : x ∈ sols cs D) : x.length = D.length ∧ ∀ y ∈ x, 0 ≤ y ∧ y ≤ 5 := ⟨tups_len (mem_sols.1 h).1, tups_val (mem_sols.1 h).1⟩
theorem bestO_len {m : Mod} {D : List Nat} {cost : List Int → Int} (hv : VM m D) : ((bestO cost (sols m.cons D)).getD []).length ≤ 1000000 := by
  cases h : bestO cost (sols m.cons D) with
  | none => simp
  | some y =>
    have := (solv (bestO_mem h)).1
    have := hv.len.2
    simp only [Option.getD_some]; omega
theorem minO_len (m : Mod) (x : List Int) (D : List Nat) (hD : validM m = true → VM m D) : ((minO m D x).getD []).length ≤ 1000000 := by
  cases h : (validM m && objB x m.doms.length)
  · rw [minO_no h]; simp
  · rw [minO_yes h]
    rw [Bool.and_eq_true] at h
    exact bestO_len (hD h.1)

end Go.Proofs.Ytngpcoilgilmjaa
