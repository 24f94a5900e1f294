/-
  Walks of the program's CountSolutions, SolveAll, DomainHas.
-/
import Derived.Test.YtngpcoilgilmjaaSj
import Derived.Test.YtngpcoilgilmjaaSf
set_option linter.unusedVariables false
namespace Go.Proofs.Ytngpcoilgilmjaa
open Go.RowKit

set_option maxRecDepth 100000 in
theorem CountSolutions_c (m : Mod) (mv : Value) (w : World) (hv : ModV [] w mv m) (D : List Nat) (hD : validM m = true → VM m D) :
    Calls Try.prog 12 #[mv] w fun e w' => e = .returned (.int .i64 (countI m D)) ∧ Gr [] w w' := by
  have Hv := hid hv
  obtain ⟨dv, cv, rfl, hdv, hcv⟩ := hv
  have hg0 : Gr [] w (w.alloc (.cells #[dv, cv] 32)) := (Gr.refl _ _).alloc _
  have hb0 : (w.alloc (.cells #[dv, cv] 32)).heap[w.heap.size]? = some (.cells #[dv, cv] 32 (0, 0)) := heap_alloc_new _ _
  have hfl := fld hb0
  have Hb0 := hid hb0; have HD := hid hD
  clear hb0 hdv hcv hD
  go_enter Try.func12, Try.ntmps12
  go_wp2_with fail
  have hcall := ValidModel_c m _ _ (Hv.out.gr hg0)
  (with_reducible refine hcall.mono ?_)
  clear hcall
  rintro e w1 ⟨rfl, hg1⟩
  cases hb : validM m
  · go_wp2_with fail
    go_ret
    exact ⟨ret_int (by unfold countI; rw [hb]; rfl), hg0.trans hg1⟩
  · have hVM := HD.out hb
    have Hb := hid hb; have HVM := hid hVM; clear hb hVM
    have hfl1 := fld (hg1.obj Hb0.out (by simp))
    clear hfl
    go_wp2_with fail
    have hcall := solutions_c m D _ _ (Hv.out.gr (hg0.trans hg1)) HVM.out
    (with_reducible refine hcall.mono ?_)
    clear hcall
    rintro e w2 ⟨v2, rfl, hown2, hg2⟩
    obtain ⟨fo, fc, rfl, _, _, _⟩ := hown2.slice
    go_wp2_with fail
    go_ret
    exact ⟨ret_int (by unfold countI; rw [Hb.out]; rfl), (hg0.trans hg1).trans hg2⟩

theorem RowsV.take {S : List Nat} {w : World} {ao : Option Addr} {n cap : Nat} {rows : List (List Int)} (h : RowsV S w (.slice ao n cap) rows) (k : Nat) (hk : k ≤ rows.length) : RowsV S w (.slice ao k cap) (rows.take k) := by
  obtain ⟨ao', cap', e, ⟨h1, h2, h3⟩, hc⟩ := h
  cases e
  refine ⟨ao, cap, by rw [List.length_take, Nat.min_eq_left hk], ⟨by rw [List.length_take]; omega, h2, h3⟩, fun i r hi => ?_⟩
  rw [List.getElem?_take] at hi
  split at hi
  · exact hc i r hi
  · cases hi

def allO (m : Mod) (L : Int) (D : List Nat) : List (List Int) := if validM m && inB 0 20 L then (sols m.cons D).take L.toNat else []
theorem valueOk_c (d : Int) (w : World) : Calls Try.prog 140 #[.int .i64 d] w fun e w' => e = .returned (.bool (inB 0 5 d)) ∧ w' = w := by
  go_enter Try.func140, Try.ntmps140
  go_wp2_with fail
  have hcall := within_c d 0 5 w
  (with_reducible refine hcall.mono ?_)
  clear hcall
  rintro e w2 ⟨rfl, rfl⟩
  go_wp2_with fail
  go_ret
  exact ⟨rfl, rfl⟩
end Go.Proofs.Ytngpcoilgilmjaa
