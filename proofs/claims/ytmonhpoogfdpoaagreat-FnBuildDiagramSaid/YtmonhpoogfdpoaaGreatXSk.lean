/-
  Walks of the program's CountSolutions, SolveAll, DomainHas.
-/
import Derived.Test.YtmonhpoogfdpoaaGreatXSj
import Derived.Test.YtmonhpoogfdpoaaGreatXSiSf
set_option linter.unusedVariables false
namespace Go.Proofs.YtmonhpoogfdpoaaGreat
open Go.RowKit

set_option maxRecDepth 100000 in
theorem CountSolutions_c (m : Mod) (mv : Value) (w : World) (hv : ModV [] w mv m) (D : List Nat) (hD : validM m = true → VM m D) :
    Calls Tryz.prog 13 #[mv] w fun e w' => e = .returned (.int .i64 (countI m D)) ∧ Gr [] w w' := by
  have Hv := hid hv
  obtain ⟨dv, cv, rfl, hdv, hcv⟩ := hv
  have hg0 : Gr [] w (w.alloc (.cells #[dv, cv] 40)) := (Gr.refl _ _).alloc _
  have hb0 : (w.alloc (.cells #[dv, cv] 40)).heap[w.heap.size]? = some (.cells #[dv, cv] 40 (0, 0)) := heap_alloc_new _ _
  have hfl := fld hb0
  have Hb0 := hid hb0; have HD := hid hD
  clear hb0 hdv hcv hD
  go_enter Tryz.func13, Tryz.ntmps13
  go_wp2_with fail
  have hcall := ValidModel_c m _ _ (Hv.out.gr hg0)
  (with_reducible refine hcall.mono ?_)
  clear hcall
  rintro e w1 ⟨rfl, hg1⟩
  cases hb : validM m
  · go_wp2_with fail
    go_ret
    exact ⟨ret_int (by unfold countI; rw [hb]; rfl), hg0.trans hg1⟩
  · have hVM := HD.out hb
    have Hb := hid hb; have HVM := hid hVM; clear hb hVM
    have hfl1 := fld (hg1.obj Hb0.out (by simp))
    clear hfl
    go_wp2_with fail
    have hcall := solutions_c m D _ _ (Hv.out.gr (hg0.trans hg1)) HVM.out
    (with_reducible refine hcall.mono ?_)
    clear hcall
    rintro e w2 ⟨v2, rfl, hown2, hg2⟩
    obtain ⟨fo, fc, rfl, _, _, _⟩ := hown2.slice
    go_wp2_with fail
    go_ret
    exact ⟨ret_int (by unfold countI; rw [Hb.out]; rfl), (hg0.trans hg1).trans hg2⟩

end Go.Proofs.YtmonhpoogfdpoaaGreat
