/-
  impl.IsSolution for any assignment: IsSolution_b (yes exactly if it is among the solutions).
-/
import Derived.Test.YtdpcjfbnakfflaaGreatSl
import Derived.Test.YtdpcjfbnakfflaaGreatSy1
import Derived.Test.YtdpcjfbnakfflaaGreatNs
set_option linter.unusedVariables false
set_option linter.unusedSimpArgs false
namespace Go.Proofs.YtdpcjfbnakfflaaGreat
open Go.RowKit

set_option maxRecDepth 100000 in
theorem IsSolution_b (m : Mod) (D : List Nat) (xs : List Int) (mv xv : Value) (w : World) (hv : ModV [] w mv m) (hVM : VM m D) (hx : Nums [] w .i64 xv xs) :
    Calls Tryz.prog 29 #[mv, xv] w fun e w' => e = .returned (.bool (isB m.cons D xs)) ∧ Gr [] w w' := by
  have Hv := hid hv
  obtain ⟨do_, dc, co, cc, rfl⟩ := hv.slices
  have hlen : m.doms.length = D.length := by rw [hVM.doms, ints_len]
  have Hx := hid hx
  obtain ⟨xo, xc, rfl, _, _⟩ := hx
  have hg0 : Gr [] w (w.alloc (.cells #[.slice do_ m.doms.length dc, .slice co m.cons.length cc] 31)) := (Gr.refl _ _).alloc _
  have hb0 : (w.alloc (.cells #[.slice do_ m.doms.length dc, .slice co m.cons.length cc] 31)).heap[w.heap.size]? = some (.cells #[.slice do_ m.doms.length dc, .slice co m.cons.length cc] 31 (0, 0)) := heap_alloc_new _ _
  have hfl := fld hb0
  have Hb0 := hid hb0; have HVM := hid hVM; have HL := hid hlen
  clear hb0 hv hVM hlen
  go_enter Tryz.func29, Tryz.ntmps29
  go_wp2_with fail
  have hcall := ValidModel_c m _ _ (Hv.out.gr hg0)
  (with_reducible refine hcall.mono ?_)
  clear hcall
  rw [HVM.out.valid]
  rintro e w1 ⟨rfl, hg1⟩
  have hfl1 := fld (hg1.obj Hb0.out (by simp))
  have Hg1 := hid (hg0.trans hg1)
  have hg1' := hid hg1
  clear hfl hg1 hg0
  go_wp2_with fail
  have hcall := assigned_c xs m.doms.length _ w1 (Hx.out.gr Hg1.out)
  (with_reducible refine hcall.mono ?_)
  clear hcall
  rintro e w2 ⟨rfl, hg2⟩
  have hfl2 := fld ((hg1'.out.trans hg2).obj Hb0.out (by simp))
  have Hg2 := hid (Hg1.out.trans hg2)
  clear hg2 hfl1
  cases has : asgB xs m.doms.length
  · have Has := hid has
    clear has
    go_wp2_with fail
    go_ret
    refine ⟨ret_bool ?_, Hg2.out⟩
    have hn : isB m.cons D xs = false := decide_eq_false fun hm => by
      have h1 := tups_len (mem_sols.1 hm).1
      have h2 : asgB xs m.doms.length = true := by
        unfold asgB
        rw [allB_iff.2 fun x hx => tups_val (mem_sols.1 hm).1 x hx]
        have := HL.out
        simp; omega
      rw [Has.out] at h2; cases h2
    rw [hn]
  · have Has := hid (asg_len has)
    clear has
    go_wp2_with fail
    have hcall := isSolutionG_c m D xs _ _ w2 (Hv.out.gr Hg2.out) HVM.out (Hx.out.gr Hg2.out) (by rw [Has.out.1, HL.out]) Has.out.2
    (with_reducible refine hcall.mono ?_)
    clear hcall
    rintro e w3 ⟨rfl, hg3⟩
    go_wp2_with fail
    go_ret
    exact ⟨rfl, Hg2.out.trans hg3⟩
end Go.Proofs.YtdpcjfbnakfflaaGreat
