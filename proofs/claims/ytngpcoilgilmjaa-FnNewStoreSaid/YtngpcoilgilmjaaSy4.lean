/-
  Walks of the symmetries of variables and of values: the program's and the reference's.
  Walks of the symmetries of variables and of values: the reference's; the program's for values.
-/
import Derived.Test.YtngpcoilgilmjaaSy2
import Derived.Test.YtngpcoilgilmjaaEH
set_option linter.unusedVariables false
namespace Go.Proofs.Ytngpcoilgilmjaa
open Go.RowKit

def symB (m : Mod) (D : List Nat) (i j : Int) : Bool := (validM m && allB 0 ((m.doms.length : Int) - 1) [i, j]) && presB m.cons D (swapL i.toNat j.toNat)
theorem swap_ok {D : List Nat} {cs : List Con} {i j : Nat} (hi : i < D.length) (hj : j < D.length) : ∀ x ∈ sols cs D, (swapL i j x).length = x.length ∧ ∀ y ∈ swapL i j x, 0 ≤ y ∧ y ≤ 5 := fun x hx => by
  have hin := (mem_sols.1 hx).1
  have hl := tups_len hin
  exact ⟨swapL_len _ _ _, fun y hy => tups_val hin y (swapL_mem (by omega) (by omega) hy)⟩

end Go.Proofs.Ytngpcoilgilmjaa

set_option linter.unusedVariables false
namespace Go.Proofs.Ytngpcoilgilmjaa
open Go.RowKit

theorem all_sols (m : Mod) (D : List Nat) (hVM : VM m D) : (sols m.cons D).take 4096 = sols m.cons D := List.take_of_length_le (by have := sols_length m.cons D hVM.len.2; omega)

/-! ### Values -/
def valSw (u v y : Int) : Int := if y = u then v else if y = v then u else y
def swapV (u v : Int) (x : List Int) : List Int := x.map (valSw u v)
def vsymB (m : Mod) (D : List Nat) (U V : Int) : Bool := validM m && inB 0 5 U && inB 0 5 V && presB m.cons D (swapV U V)
theorem swapV_ok {D : List Nat} {cs : List Con} {u v : Int} (hu : 0 ≤ u ∧ u ≤ 5) (hv : 0 ≤ v ∧ v ≤ 5) : ∀ x ∈ sols cs D, (swapV u v x).length = x.length ∧ ∀ y ∈ swapV u v x, 0 ≤ y ∧ y ≤ 5 := fun x hx => by
  have hin := (mem_sols.1 hx).1
  refine ⟨by simp [swapV], fun y hy => ?_⟩
  obtain ⟨z, hz, rfl⟩ := List.mem_map.1 hy
  have := tups_val hin z hz
  unfold valSw
  split
  · exact hv
  · split
    · exact hu
    · exact this
theorem mid_set {f : Int → Int} {x : List Int} {n : Nat} {y : Int} (hy : x[n]? = some y) : ((x.take n).map f ++ x.drop n).set n (f y) = (x.take (n + 1)).map f ++ x.drop (n + 1) := by
  have hn := (List.getElem?_eq_some_iff.1 hy).1
  have hl : ((x.take n).map f).length = n := by rw [List.length_map, List.length_take]; omega
  rw [List.set_append_right _ _ (by omega), hl, Nat.sub_self, drop_cons hy, List.set_cons_zero, List.take_add_one, hy]
  simp
theorem mid_get {f : Int → Int} {x : List Int} {n : Nat} {y : Int} (hy : x[n]? = some y) : ((x.take n).map f ++ x.drop n)[n]? = some y := by
  have hn := (List.getElem?_eq_some_iff.1 hy).1
  have hl : ((x.take n).map f).length = n := by rw [List.length_map, List.length_take]; omega
  rw [List.getElem?_append_right (by omega), hl, Nat.sub_self, List.getElem?_drop, Nat.add_zero, hy]
theorem mid_same {f : Int → Int} {x : List Int} {n : Nat} {y : Int} (hy : x[n]? = some y) (hf : f y = y) : (x.take n).map f ++ x.drop n = (x.take (n + 1)).map f ++ x.drop (n + 1) := by
  rw [List.take_add_one, hy, drop_cons hy]; simp [hf]

end Go.Proofs.Ytngpcoilgilmjaa
