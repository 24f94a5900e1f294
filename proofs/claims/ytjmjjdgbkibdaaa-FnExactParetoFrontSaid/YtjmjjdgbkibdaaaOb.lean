/-
  Walks of objectives: validity, the least solution; the program's and the reference's.
-/
import Derived.Test.YtjmjjdgbkibdaaaBs
set_option linter.unusedVariables false
set_option linter.unusedSimpArgs false
namespace Go.Proofs.Ytjmjjdgbkibdaaa
open Go.RowKit

def objB (x : List Int) (n : Nat) : Bool := ((x.length : Int) == (n : Int)) && allB (-9) 9 x
theorem obj_len {x : List Int} {n : Nat} (h : objB x n = true) : x.length = n ∧ ∀ y ∈ x, -9 ≤ y ∧ y ≤ 9 := by
  unfold objB at h
  rw [Bool.and_eq_true] at h
  exact ⟨by have := h.1; simp at this; omega, allB_iff.1 h.2⟩
set_option maxRecDepth 100000 in
theorem objectiveOk_c (m : Mod) (x : List Int) (mv v : Value) (w : World) (hm : ModV [] w mv m) (hv : Nums [] w .i64 v x) :
    Calls Try.prog 37 #[mv, v] w fun e w' => e = .returned (.bool (validM m && objB x m.doms.length)) ∧ Gr [] w w' := by
  have Hv := hid hv; have Hm := hid hm
  obtain ⟨xo, xc, co, cc, rfl⟩ := hm.slices
  obtain ⟨vo, vc, rfl, ⟨hx1, hx2, _⟩, _⟩ := hv
  have hg0 : Gr [] w (w.alloc (.cells #[.slice xo m.doms.length xc, .slice co m.cons.length cc] 31)) := (Gr.refl _ _).alloc _
  have hb0 : (w.alloc (.cells #[.slice xo m.doms.length xc, .slice co m.cons.length cc] 31)).heap[w.heap.size]? = some (.cells #[.slice xo m.doms.length xc, .slice co m.cons.length cc] 31 (0, 0)) := heap_alloc_new _ _
  have fl0 := fld hb0
  have Hg0 := hid hg0; have Hb0 := hid hb0
  clear hg0 hb0 hm
  go_enter Try.func37, Try.ntmps37
  go_wp2_with fail
  have hcall := ValidModel_c m _ _ (Hm.out.gr Hg0.out)
  (with_reducible refine hcall.mono ?_)
  clear hcall
  rintro e w1 ⟨rfl, hg1⟩
  have fl1 := fld (hg1.obj Hb0.out (by simp))
  have Hg1 := hid (Hg0.out.trans hg1)
  clear fl0 hg1
  cases hval : validM m
  · have Hval := hid hval
    clear hval
    go_wp2_with fail
    go_ret
    exact ⟨ret_bool (by rw [Hval.out]; rfl), Hg1.out⟩
  have Hval := hid hval
  clear hval
  cases hl : ((x.length : Int) == (m.doms.length : Int))
  · have Hl := hid hl
    go_wp2_with fail
    go_ret
    exact ⟨ret_bool (by unfold objB; rw [Hval.out, Hl.out]; rfl), Hg1.out⟩
  · have Hl := hid hl
    go_wp2_with fail
    have hcall := allIn_c x (-9) 9 _ _ (Hv.out.gr Hg1.out)
    (with_reducible refine hcall.mono ?_)
    clear hcall
    rintro e w2 ⟨rfl, hg2⟩
    go_wp2_with fail
    go_ret
    exact ⟨ret_bool (by unfold objB; rw [Hval.out, Hl.out]; rfl), Hg1.out.trans (by first | exact hg2 | (subst hg2; exact Gr.refl _ _))⟩
set_option maxRecDepth 100000 in
theorem validObjective_c (m : Mod) (x : List Int) (mv v : Value) (w : World) (hm : ModV [] w mv m) (hv : Nums [] w .i64 v x) :
    Calls Try.prog 32 #[mv, v] w fun e w' => e = .returned (.bool (objB x m.doms.length)) ∧ Gr [] w w' := by
  have Hv := hid hv
  obtain ⟨xo, xc, co, cc, rfl⟩ := hm.slices
  obtain ⟨vo, vc, rfl, ⟨hx1, hx2, _⟩, _⟩ := hv
  have hg0 : Gr [] w (w.alloc (.cells #[.slice xo m.doms.length xc, .slice co m.cons.length cc] 31)) := (Gr.refl _ _).alloc _
  have hb0 : (w.alloc (.cells #[.slice xo m.doms.length xc, .slice co m.cons.length cc] 31)).heap[w.heap.size]? = some (.cells #[.slice xo m.doms.length xc, .slice co m.cons.length cc] 31 (0, 0)) := heap_alloc_new _ _
  have fl0 := fld hb0
  have Hg0 := hid hg0
  clear hg0 hb0 hm
  cases hl : ((x.length : Int) == (m.doms.length : Int))
  · go_enter Try.func32, Try.ntmps32
    go_wp2_with fail
    go_ret
    exact ⟨ret_bool (by unfold objB; rw [hl]; rfl), Hg0.out⟩
  · have Hl := hid hl
    go_enter Try.func32, Try.ntmps32
    go_wp2_with fail
    have hcall := allInRange_c x (-9) 9 _ _ (Hv.out.gr Hg0.out)
    (with_reducible refine hcall.mono ?_)
    clear hcall
    rintro e w1 ⟨rfl, hg1⟩
    go_wp2_with fail
    go_ret
    exact ⟨ret_bool (by unfold objB; rw [Hl.out]; rfl), Hg0.out.trans (by first | exact hg1 | (subst hg1; exact Gr.refl _ _))⟩

/-! ### The least solution -/
def minO (m : Mod) (D : List Nat) (o : List Int) : Option (List Int) := if validM m && objB o m.doms.length then bestO (dot o) (sols m.cons D) else none
theorem minO_no {m : Mod} {D : List Nat} {x : List Int} (h : (validM m && objB x m.doms.length) = false) : minO m D x = none := by unfold minO; rw [h]; rfl
theorem minO_yes {m : Mod} {D : List Nat} {x : List Int} (h : (validM m && objB x m.doms.length) = true) : minO m D x = bestO (dot x) (sols m.cons D) := by unfold minO; rw [h]; rfl
theorem small9 {x : List Int} (h : ∀ y ∈ x, -9 ≤ y ∧ y ≤ 9) : Small x := fun y hy => by have := h y hy; omega
theorem small5 {x : List Int} (h : ∀ y ∈ x, 0 ≤ y ∧ y ≤ 5) : Small x := fun y hy => by have := h y hy; omega
theorem solv {cs : List Con} {D : List Nat} {x : List Int} (h : x ∈ sols cs D) : x.length = D.length ∧ ∀ y ∈ x, 0 ≤ y ∧ y ≤ 5 := ⟨tups_len (mem_sols.1 h).1, tups_val (mem_sols.1 h).1⟩
theorem bestO_len {m : Mod} {D : List Nat} {cost : List Int → Int} (hv : VM m D) : ((bestO cost (sols m.cons D)).getD []).length ≤ 1000000 := by
  cases h : bestO cost (sols m.cons D) with
  | none => simp
  | some y =>
    have := (solv (bestO_mem h)).1
    have := hv.len.2
    simp only [Option.getD_some]; omega
theorem minO_len (m : Mod) (x : List Int) (D : List Nat) (hD : validM m = true → VM m D) : ((minO m D x).getD []).length ≤ 1000000 := by
  cases h : (validM m && objB x m.doms.length)
  · rw [minO_no h]; simp
  · rw [minO_yes h]
    rw [Bool.and_eq_true] at h
    exact bestO_len (hD h.1)

end Go.Proofs.Ytjmjjdgbkibdaaa
