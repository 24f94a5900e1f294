/-
  Walks: ProveInfeasible, on both sides.
-/
import Derived.Test.YtlekngkcifgonaaGreatXBPw
import Derived.Test.YtlekngkcifgonaaGreatXBPx
import Derived.Test.YtlekngkcifgonaaGreatXVeG
import Derived.Test.YtlekngkcifgonaaGreatXCF
import Derived.Test.YtlekngkcifgonaaGreatXG8
set_option linter.unusedVariables false
set_option linter.unusedSimpArgs false
namespace Go.Proofs.YtlekngkcifgonaaGreat
open Go.RowKit

theorem provO_no {m : Mod} {D : List Nat} (h : validM m = false) : provO m D = none := by unfold provO; rw [h]; rfl
theorem provO_yes {m : Mod} {D : List Nat} (h : validM m = true) : provO m D = infO m.cons D := by unfold provO; rw [h]; rfl
theorem heap2P (w : World) (a b : Obj) : ((w.alloc a).alloc b).heap[w.heap.size]? = some a ∧ ((w.alloc a).alloc b).heap[w.heap.size + 1]? = some b := by
  refine ⟨(heap_alloc_old _ _ (by simp)).trans (heap_alloc_new _ _), ?_⟩
  have := heap_alloc_new (w.alloc a) b
  rwa [World.size_alloc] at this
set_option maxRecDepth 100000 in
set_option maxHeartbeats 4000000 in
theorem specProveInfeasible_c (m : Mod) (D : List Nat) (mv : Value) (w : World) (hv : ModV [] w mv m) (hs : m.Small) (hD : validM m = true → VM m D) :
    Calls Tryz.prog 51 #[mv] w fun e w' => ∃ v', e = .returned (.tuple #[v', .bool (provO m D).isSome]) ∧ (∀ S : List Nat, (∀ b ∈ S, b < w.heap.size) → ClsV S w' v' ((provO m D).getD [])) ∧ Gr [] w w' := by
  have Hv := hid hv
  obtain ⟨xo, xc, co, cc, rfl⟩ := hv.slices
  have hg0 : Gr [] w (w.alloc (.cells #[.slice xo m.doms.length xc, .slice co m.cons.length cc] 26)) := (Gr.refl _ _).alloc _
  have hb0 : (w.alloc (.cells #[.slice xo m.doms.length xc, .slice co m.cons.length cc] 26)).heap[w.heap.size]? = some (.cells #[.slice xo m.doms.length xc, .slice co m.cons.length cc] 26 (0, 0)) := heap_alloc_new _ _
  have hfl := fld hb0
  have Hb0 := hid hb0; have HD := hid hD; have Hg0 := hid hg0; have Hs := hid hs
  have hnil : ∀ S (W : World), ClsV S W (.slice none 0 0) [] := fun S W => ClsV.nil S W
  have Hnil := hid hnil
  clear hb0 hv hD hnil hg0 hs
  go_enter Tryz.func51, Tryz.ntmps51
  go_wp2_with fail
  have hcall := specValidModel_c m _ _ (Hv.out.gr Hg0.out) Hs.out
  (with_reducible refine hcall.mono ?_)
  clear hcall
  rintro e w1 ⟨rfl, hg1⟩
  have Hb1 := hid (hg1.obj Hb0.out (by simp))
  have hfl1 := fld Hb1.out
  have Hg1 := hid (Hg0.out.trans hg1)
  clear hfl hg1
  cases hb : validM m
  · go_wp2_with fail
    go_ret2
    exact ⟨_, by rw [provO_no hb]; rfl, fun S _ => by rw [provO_no hb]; exact Hnil.out _ _, Hg1.out⟩
  · have hVM := HD.out hb
    have Hb := hid hb; have HVM := hid hVM; clear hb
    have hl := hVM.len
    clear hVM
    have hs1 := Hg1.out.size
    have h20 := heap2P w1 (.cells #[.slice xo m.doms.length xc, .slice co m.cons.length cc, .slice none 0 0, .bool true] 150) (.cells #[] 45)
    have hg2 : Gr [] w1 ((w1.alloc (.cells #[.slice xo m.doms.length xc, .slice co m.cons.length cc, .slice none 0 0, .bool true] 150)).alloc (.cells #[] 45)) := ((Gr.refl [] w1).alloc _).alloc _
    have hs2 : ((w1.alloc (.cells #[.slice xo m.doms.length xc, .slice co m.cons.length cc, .slice none 0 0, .bool true] 150)).alloc (.cells #[] 45)).heap.size = w1.heap.size + 2 := by simp
    have H20 := hid h20; have Hg2 := hid hg2; have Hs2 := hid hs2
    have f2 := fld (((Gr.refl [] w1).alloc (.cells #[.slice xo m.doms.length xc, .slice co m.cons.length cc, .slice none 0 0, .bool true] 150)).obj Hb1.out (by simp))
    clear h20 hg2 hs2
    go_wp2_with fail
    obtain ⟨W, hW⟩ : ∃ W, W = (w1.alloc (.cells #[.slice xo m.doms.length xc, .slice co m.cons.length cc, .slice none 0 0, .bool true] 150)).alloc (.cells #[] 45) := ⟨_, rfl⟩
    rw [← hW] at H20 Hg2 Hs2 ⊢
    clear hW
    have hcall := proverBranch_c m w1.heap.size (.slice xo m.doms.length xc) (.slice co m.cons.length cc) (D.sum + 1) D W (.slice none 0 0) (.slice xo m.doms.length xc) (.slice (some ⟨w1.heap.size + 1, 0, none⟩) 0 0) [] [] (Nat.lt_succ_self _) HVM.out.cons HVM.out.below hl.1 hl.2 (PathOk.nil D) (by simp)
      (fun S hS => (ModV.sub (S' := S) (Hv.out.gr Hg1.out) (fun b hb hm => by have := hS b hm; omega)).gr (Gr.any Hg2.out)) H20.out.1 ⟨[], rfl, by simp, World.ownsRow_nil _ _ _ _, by simp⟩
      (by have := (ModV.parts Hv.out).1; rw [HVM.out.doms] at this; rw [HVM.out.doms]; exact ((this.gr Hg1.out).sub (S' := [w1.heap.size]) (fun b hb hm => by simp at hm; omega)).gr (Gr.any Hg2.out))
      (fun S _ => ⟨_, _, rfl, by simp [negsL, sortL], fun i l h => by simp [negsL, sortL] at h⟩)
    (with_reducible refine hcall.mono ?_)
    clear hcall
    rintro e w4 ⟨⟨ev, rfl⟩, sv4, hF4, hg4, hf4, ho4⟩
    have HG4 : Hid (Gr [] w w4) := hid ((Hg1.out.trans Hg2.out).step hg4 (fun i hi => by
      simp [Value.ownBlock] at hi; subst hi; exact .inr hs1))
    have hF4' : w4.heap[w1.heap.size]? = some (.cells #[.slice xo m.doms.length xc, .slice co m.cons.length cc, sv4, .bool (okP 0 (prf m.cons D []))] 150 (0, 0)) := hF4
    have Ho4 := hid ho4
    clear hg4 hf4 ho4 hF4
    cases hok : okP 0 (prf m.cons D [])
    · rw [hok] at hF4'
      have fF4 := fld hF4'
      have Hi := hid (infO_okP hok)
      clear hok hF4'
      go_wp2_with fail
      go_ret2
      exact ⟨_, by rw [provO_yes Hb.out, Hi.out]; rfl, fun S _ => by rw [provO_yes Hb.out, Hi.out]; exact Hnil.out _ _, HG4.out⟩
    · obtain ⟨a, ha, hal⟩ := okP_iff.1 hok
      have ho := Ho4.out a ha hok
      rw [List.nil_append] at ho
      obtain ⟨lo4, lc4, rfl, -, -, -⟩ := ho.slice
      rw [hok] at hF4'
      have fF4 := fld hF4'
      have Hi := hid (infO_some ha (by omega))
      have Ho := hid ho
      clear hok hF4' ha ho
      go_wp2_with fail
      go_ret2
      exact ⟨_, by rw [provO_yes Hb.out, Hi.out]; rfl, fun S hS => by rw [provO_yes Hb.out, Hi.out]; exact Ho.out.clsC (fun b hb => .inl (by have := hS b hb; omega)), HG4.out⟩
end Go.Proofs.YtlekngkcifgonaaGreat
