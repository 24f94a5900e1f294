/-
  Walk of the generator of FnHardest's inputs.
-/
import Derived.Test.YtngpcoilgilmjaaGreatDs
set_option linter.unusedVariables false
set_option linter.unusedSimpArgs false
namespace Go.Proofs.YtngpcoilgilmjaaGreat
open Go.RowKit


set_option maxRecDepth 100000 in
theorem DrawHardest_c (v : Value) (bs : List Int) (w : World) (ao : Option Addr) (cap : Nat) (hv : v = .slice ao bs.length cap) (hlen : bs.length ≤ 9223372036854775807) (hcap : bs.length ≤ cap) (hc : Cells [] w .u8 ao bs) (hb : ∀ b ∈ bs, 0 ≤ b ∧ b ≤ 255) :
    Calls Tryz.prog 9 #[v] w fun e w' => ∃ (m : Mod) (mv sv : Value) (ss : List Sft), e = .returned (.tuple #[mv, sv]) ∧ ModV [] w' mv m ∧ m.Small ∧ (1 ≤ m.doms.length ∧ m.doms.length ≤ 4) ∧ SftsV [] w' sv ss ∧ ss.length ≤ 4 ∧ (∀ s ∈ ss, TinyV s.con ∧ 0 ≤ s.wt ∧ s.wt ≤ 10) ∧ SoftOk ss m.doms.length ∧ Gr [] w w' := by
  subst hv
  have Hc := hid hc; have Hb := hid hb; clear hc hb
  have hg0 : Gr [] w (w.alloc (.cells #[.slice none 0 0, .slice none 0 0] 26)) := (Gr.refl _ _).alloc _
  have hr0 : (w.alloc (.cells #[.slice none 0 0, .slice none 0 0] 26)).heap[w.heap.size]? = some (.cells #[.slice none 0 0, .slice none 0 0] 26 (0, 0)) := heap_alloc_new _ _
  have Hr0 := hid hr0; have Hg0 := hid hg0; clear hr0 hg0
  go_enter Tryz.func9, Tryz.ntmps9
  go_wp2_with fail
  have hcall := DrawSolveSoft_s [w.heap.size] _ bs _ ao cap rfl hlen hcap (Hc.out.gr Hg0.out) Hb.out (by intro b hb; simp at hb; simp; omega)
  (with_reducible refine hcall.mono ?_)
  clear hcall
  rintro e w1 ⟨m, mv, sv, ss, rfl, hmv, hms, hd, hO, hl4, hOl, hok, hg1⟩
  have Hmv := hid hmv; have HO := hid hO; have HOl := hid hOl; have Hok := hid hok; have Hr1 := hid (hg1.obj Hr0.out (by simp)); have HG1 := hid (Hg0.out.trans hg1)
  have hs1 := hg1.size
  rw [World.size_alloc] at hs1
  obtain ⟨xo, xc, co, cc, rfl⟩ := hmv.slices
  obtain ⟨oo, oc, rfl, -, -⟩ := hO.slice
  clear hO hmv hg1 hOl hok
  have flr := fld Hr1.out; have ffr := fldF Hr1.out
  go_wp2_with fail
  have hbE := block_cells (cur' := #[]) (block_cells (cur' := #[]) Hr1.out 0 (.slice xo m.doms.length xc)) 1 (.slice co m.cons.length cc)
  have flE := fld hbE
  refine bodyPost_ret (v := .tuple #[.agg #[.slice xo m.doms.length xc, .slice co m.cons.length cc], .slice oo ss.length oc]) ?_ rfl ?_
  · simp [results, Tryz.results9, go_sem, flE]
  · have hgE : Gr [w.heap.size] w1 ((w1.setCell ⟨w.heap.size, 0, none⟩ (.slice xo m.doms.length xc)).setCell ⟨w.heap.size, 1, none⟩ (.slice co m.cons.length cc)) :=
      ((Gr.refl _ _).setCell _ _ (.inl (by simp))).setCell _ _ (.inl (by simp))
    exact ⟨m, _, _, ss, rfl, (Hmv.out.gr hgE).sub0, hms, hd, (HO.out.gr hgE).sub (by simp), hl4, HOl.out, Hok.out, HG1.out.step hgE (fun i hi => .inr (by simp at hi; omega))⟩

end Go.Proofs.YtngpcoilgilmjaaGreat
