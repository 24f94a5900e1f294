/-
  Walks of the symmetries of variables and of values: the program's and the reference's. Walks of the symmetries of variables and of values: the reference's; the program's for values.
  Walks of NextSolution: the program's and the reference's.
  The first one of lists for which a function is least: plainly, and the program's walk over whatever function. Walks of objectives: validity, the least solution; the program's and the reference's.
-/
import Derived.Test.YtilcicoekpmelaaDoorPSy1ToRe
set_option linter.unusedVariables false
namespace Go.Proofs.YtilcicoekpmelaaDoor
open Go.RowKit

end Go.Proofs.YtilcicoekpmelaaDoor

set_option linter.unusedVariables false
namespace Go.Proofs.YtilcicoekpmelaaDoor
open Go.RowKit

/-! ### Values -/
end Go.Proofs.YtilcicoekpmelaaDoor

set_option linter.unusedVariables false
namespace Go.Proofs.YtilcicoekpmelaaDoor
open Go.RowKit

end Go.Proofs.YtilcicoekpmelaaDoor

set_option linter.unusedVariables false
namespace Go.Proofs.YtilcicoekpmelaaDoor
open Go.RowKit

theorem run_eql_slice_nil2 {P : Program} (w : World) (t e : TypeId) (a : Option Addr) (l c : Nat) (h : P.underlying t = some (.slice e)) : (binOp .eql t (.slice a l c) (.slice none 0 0)).run P w = .ok (.bool a.isNone) w := by
  simp only [binOp]
  simp [run_equal_slice_nil w t e a l c h]
theorem run_neq_slice_nil2 {P : Program} (w : World) (t e : TypeId) (a : Option Addr) (l c : Nat) (h : P.underlying t = some (.slice e)) : (binOp .neq t (.slice a l c) (.slice none 0 0)).run P w = .ok (.bool (!a.isNone)) w := by
  simp only [binOp]
  simp [run_equal_slice_nil w t e a l c h]
section
attribute [local go_sem] run_eql_slice_nil2 run_neq_slice_nil2

end
end Go.Proofs.YtilcicoekpmelaaDoor

set_option linter.unusedVariables false
set_option linter.unusedSimpArgs false
namespace Go.Proofs.YtilcicoekpmelaaDoor
open Go.RowKit

def objB (x : List Int) (n : Nat) : Bool := ((x.length : Int) == (n : Int)) && allB (-9) 9 x
theorem obj_len {x : List Int} {n : Nat} (h : objB x n = true) : x.length = n ∧ ∀ y ∈ x, -9 ≤ y ∧ y ≤ 9 := by
  unfold objB at h
  rw [Bool.and_eq_true] at h
  exact ⟨by have := h.1; simp at this; omega, allB_iff.1 h.2⟩
set_option maxRecDepth 100000 in
theorem objectiveOk_c (m : Mod) (x : List Int) (mv v : Value) (w : World) (hm : ModV [] w mv m) (hv : Nums [] w .i64 v x) :
    Calls Tryd.prog 19 #[mv, v] w fun e w' => e = .returned (.bool (validM m && objB x m.doms.length)) ∧ Gr [] w w' := by
  have Hv := hid hv; have Hm := hid hm
  obtain ⟨xo, xc, co, cc, rfl⟩ := hm.slices
  obtain ⟨vo, vc, rfl, ⟨hx1, hx2, _⟩, _⟩ := hv
  have hg0 : Gr [] w (w.alloc (.cells #[.slice xo m.doms.length xc, .slice co m.cons.length cc] 31)) := (Gr.refl _ _).alloc _
  have hb0 : (w.alloc (.cells #[.slice xo m.doms.length xc, .slice co m.cons.length cc] 31)).heap[w.heap.size]? = some (.cells #[.slice xo m.doms.length xc, .slice co m.cons.length cc] 31 (0, 0)) := heap_alloc_new _ _
  have fl0 := fld hb0
  have Hg0 := hid hg0; have Hb0 := hid hb0
  clear hg0 hb0 hm
  go_enter Tryd.func19, Tryd.ntmps19
  go_wp2_with fail
  have hcall := ValidModel_c m _ _ (Hm.out.gr Hg0.out)
  (with_reducible refine hcall.mono ?_)
  clear hcall
  rintro e w1 ⟨rfl, hg1⟩
  have fl1 := fld (hg1.obj Hb0.out (by simp))
  have Hg1 := hid (Hg0.out.trans hg1)
  clear fl0 hg1
  cases hval : validM m
  · have Hval := hid hval
    clear hval
    go_wp2_with fail
    go_ret
    exact ⟨ret_bool (by rw [Hval.out]; rfl), Hg1.out⟩
  have Hval := hid hval
  clear hval
  cases hl : ((x.length : Int) == (m.doms.length : Int))
  · have Hl := hid hl
    go_wp2_with fail
    go_ret
    exact ⟨ret_bool (by unfold objB; rw [Hval.out, Hl.out]; rfl), Hg1.out⟩
  · have Hl := hid hl
    go_wp2_with fail
    have hcall := allIn_c x (-9) 9 _ _ (Hv.out.gr Hg1.out)
    (with_reducible refine hcall.mono ?_)
    clear hcall
    rintro e w2 ⟨rfl, hg2⟩
    go_wp2_with fail
    go_ret
    exact ⟨ret_bool (by unfold objB; rw [Hval.out, Hl.out]; rfl), Hg1.out.trans (by first | exact hg2 | (subst hg2; exact Gr.refl _ _))⟩
set_option maxRecDepth 100000 in
theorem validObjective_c (m : Mod) (x : List Int) (mv v : Value) (w : World) (hm : ModV [] w mv m) (hv : Nums [] w .i64 v x) :
    Calls Tryd.prog 14 #[mv, v] w fun e w' => e = .returned (.bool (objB x m.doms.length)) ∧ Gr [] w w' := by
  have Hv := hid hv
  obtain ⟨xo, xc, co, cc, rfl⟩ := hm.slices
  obtain ⟨vo, vc, rfl, ⟨hx1, hx2, _⟩, _⟩ := hv
  have hg0 : Gr [] w (w.alloc (.cells #[.slice xo m.doms.length xc, .slice co m.cons.length cc] 31)) := (Gr.refl _ _).alloc _
  have hb0 : (w.alloc (.cells #[.slice xo m.doms.length xc, .slice co m.cons.length cc] 31)).heap[w.heap.size]? = some (.cells #[.slice xo m.doms.length xc, .slice co m.cons.length cc] 31 (0, 0)) := heap_alloc_new _ _
  have fl0 := fld hb0
  have Hg0 := hid hg0
  clear hg0 hb0 hm
  cases hl : ((x.length : Int) == (m.doms.length : Int))
  · go_enter Tryd.func14, Tryd.ntmps14
    go_wp2_with fail
    go_ret
    exact ⟨ret_bool (by unfold objB; rw [hl]; rfl), Hg0.out⟩
  · have Hl := hid hl
    go_enter Tryd.func14, Tryd.ntmps14
    go_wp2_with fail
    have hcall := allInRange_c x (-9) 9 _ _ (Hv.out.gr Hg0.out)
    (with_reducible refine hcall.mono ?_)
    clear hcall
    rintro e w1 ⟨rfl, hg1⟩
    go_wp2_with fail
    go_ret
    exact ⟨ret_bool (by unfold objB; rw [Hl.out]; rfl), Hg0.out.trans (by first | exact hg1 | (subst hg1; exact Gr.refl _ _))⟩

/-! ### The least solution -/
end Go.Proofs.YtilcicoekpmelaaDoor
