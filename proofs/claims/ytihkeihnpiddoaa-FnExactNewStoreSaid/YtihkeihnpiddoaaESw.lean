/-
  Walks of NewStore, of the program's and of the reference's.
-/
import Derived.Test.YtihkeihnpiddoaaESv
import Derived.Test.YtihkeihnpiddoaaECpCt
import Derived.Test.YtihkeihnpiddoaaEIw
set_option linter.unusedVariables false
set_option linter.unusedSimpArgs false
namespace Go.Proofs.Ytihkeihnpiddoaa
open Go.RowKit


set_option maxRecDepth 100000 in
set_option maxHeartbeats 1000000 in
theorem NewStore_c (m : Mod) (D : List Nat) (mv : Value) (w : World) (hv : ModV [] w mv m) (hD : validM m = true → VM m D) (hs : m.Small) :
    Calls Try.prog 7 #[mv] w fun e w' => ∃ v', e = .returned v' ∧ StoV [] w' v' (newSto m D) ∧ Gr [] w w' := by
  obtain ⟨xo, xc, co, cc, rfl⟩ := hv.slices
  have h20 := heap2 w (.cells #[.slice xo m.doms.length xc, .slice co m.cons.length cc] 29) (.cells #[.slice none 0 0, .slice none 0 0, .slice none 0 0] 32)
  have hg0 : Gr [] w ((w.alloc (.cells #[.slice xo m.doms.length xc, .slice co m.cons.length cc] 29)).alloc (.cells #[.slice none 0 0, .slice none 0 0, .slice none 0 0] 32)) := ((Gr.refl [] w).alloc _).alloc _
  have Hb0 := hid h20.1; have Hr0 := hid h20.2; have Hg0 := hid hg0; have HM := hid (hv.gr hg0); have HD := hid hD; have Hs := hid hs
  have fb0 := fld h20.1
  have hs0 : ((w.alloc (.cells #[.slice xo m.doms.length xc, .slice co m.cons.length cc] 29)).alloc (.cells #[.slice none 0 0, .slice none 0 0, .slice none 0 0] 32)).heap.size = w.heap.size + 2 := by simp
  clear hv h20 hg0 hD hs
  go_enter Try.func7, Try.ntmps7
  go_wp2_with fail
  have hcall := ValidModel_c m _ _ HM.out
  (with_reducible refine hcall.mono ?_)
  clear hcall
  rintro e w1 ⟨rfl, hg1⟩
  have Hr1 := hid (hg1.obj Hr0.out (by simp))
  have fb1 := fld (hg1.obj Hb0.out (by simp)); have fr1 := fld Hr1.out; have ff1 := fldF Hr1.out
  have Hg1 := hid (Hg0.out.trans hg1)
  have HM1 := hid (HM.out.gr hg1)
  have hl1 := lt_of_block Hr1.out
  clear fb0 hg1 hs0
  cases hb : validM m
  · go_wp2_with fail
    obtain ⟨h5, hG5⟩ := set3 (.slice none 0 0) (.slice none 0 0) (.slice none 0 0) Hr1.out
    have flE := fld h5
    refine bodyPost_ret (v := .agg #[.slice none 0 0, .slice none 0 0, .slice none 0 0]) (by simp [results, Try.results7, go_sem, flE]) rfl ⟨_, rfl, by unfold newSto; rw [hb]; exact StoV.zero _ _, Hg1.out.step hG5 (fun i hi => .inr (by simp at hi; omega))⟩
  · have HVM := hid (HD.out hb); have Hb := hid hb
    clear hb
    go_wp2_with fail
    have hcall := newStore_c m D _ _ HM1.out HVM.out Hs.out
    (with_reducible refine hcall.mono ?_)
    clear hcall
    rintro e w2 ⟨v2, rfl, hst, hg2⟩
    obtain ⟨yo, yc, zo, zc, lo, lc, rfl, -, -⟩ := (hst [] (by simp)).open
    have Hr2 := hid (hg2.obj Hr1.out (by simp))
    have fr2 := fld Hr2.out; have ff2 := fldF Hr2.out
    have Hst := hid hst; have Hg2 := hid hg2
    clear hst hg2 fr1 ff1 fb1
    go_wp2_with fail
    obtain ⟨h5, hG5⟩ := set3 (.slice yo m.doms.length yc) (.slice zo m.cons.length zc) (.slice lo 1 lc) Hr2.out
    have flE := fld h5
    refine bodyPost_ret (v := .agg #[.slice yo m.doms.length yc, .slice zo m.cons.length zc, .slice lo 1 lc]) (by simp [results, Try.results7, go_sem, flE]) rfl ⟨_, rfl, by unfold newSto; rw [if_pos Hb.out]; exact (((Hst.out [w.heap.size + 1] (by simp; omega)).gr hG5).sub (by simp)), (Hg1.out.trans Hg2.out).step hG5 (fun i hi => .inr (by simp at hi; omega))⟩


set_option maxRecDepth 100000 in
set_option maxHeartbeats 4000000 in
theorem specNewStore_c (m : Mod) (D : List Nat) (mv : Value) (w : World) (hv : ModV [] w mv m) (hD : validM m = true → VM m D) (hs : m.Small) :
    Calls Try.prog 5 #[mv] w fun e w' => ∃ v', e = .returned v' ∧ StoV [] w' v' (newSto m D) ∧ Gr [] w w' := by
  obtain ⟨xo, xc, co, cc, rfl⟩ := hv.slices
  have h20 := heap2 w (.cells #[.slice xo m.doms.length xc, .slice co m.cons.length cc] 29) (.cells #[.slice none 0 0, .slice none 0 0, .slice none 0 0] 32)
  have hg0 : Gr [] w ((w.alloc (.cells #[.slice xo m.doms.length xc, .slice co m.cons.length cc] 29)).alloc (.cells #[.slice none 0 0, .slice none 0 0, .slice none 0 0] 32)) := ((Gr.refl [] w).alloc _).alloc _
  have Hb0 := hid h20.1; have Hr0 := hid h20.2; have Hg0 := hid hg0; have HMa0 := hid (hv.gr hg0); have HD := hid hD; have Hs := hid hs
  have fb0 := fld h20.1
  have hs0 : ((w.alloc (.cells #[.slice xo m.doms.length xc, .slice co m.cons.length cc] 29)).alloc (.cells #[.slice none 0 0, .slice none 0 0, .slice none 0 0] 32)).heap.size = w.heap.size + 2 := by simp
  clear hv h20 hg0 hD hs
  go_enter Try.func5, Try.ntmps5
  go_wp2_with fail
  have hcall := specValidModel_c m _ _ HMa0.out Hs.out
  (with_reducible refine hcall.mono ?_)
  clear hcall
  rintro e w1 ⟨rfl, hg1⟩
  have Hb1 := hid (hg1.obj Hb0.out (by simp)); have Hr1 := hid (hg1.obj Hr0.out (by simp))
  have fb1 := fld Hb1.out; have fr1 := fld Hr1.out; have ff1 := fldF Hr1.out
  have Hg1 := hid (Hg0.out.trans hg1)
  have HM := hid (HMa0.out.gr hg1)
  have hl1 := lt_of_block Hr1.out
  clear fb0 hg1 hs0 HMa0 Hg0 Hb0 Hr0
  cases hb : validM m
  · go_wp2_with fail
    obtain ⟨h5, hG5⟩ := set3 (.slice none 0 0) (.slice none 0 0) (.slice none 0 0) Hr1.out
    have flE := fld h5
    refine bodyPost_ret (v := .agg #[.slice none 0 0, .slice none 0 0, .slice none 0 0]) (by simp [results, Try.results5, go_sem, flE]) rfl ⟨_, rfl, by unfold newSto; rw [hb]; exact StoV.zero _ _, Hg1.out.step hG5 (fun i hi => .inr (by simp at hi; omega))⟩
  · have HVM := hid (HD.out hb); have Hb := hid hb
    clear hb HD
    go_wp2_with fail
    have HBX : Hid (∀ W, Gr [] w1 W → W.heap[w.heap.size]? = some (.cells #[.slice xo m.doms.length xc, .slice co m.cons.length cc] 29 (0, 0))) := hid fun W h => h.obj Hb1.out (by simp)
    have HRX : Hid (∀ W, Gr [] w1 W → W.heap[w.heap.size + 1]? = some (.cells #[.slice none 0 0, .slice none 0 0, .slice none 0 0] 32 (0, 0))) := hid fun W h => h.obj Hr1.out (by simp)
    have HS : Hid (∀ W, Gr [w.heap.size + 1] w1 W → (W.cell? ⟨w.heap.size, 0, none⟩ = some (.slice xo m.doms.length xc) ∧ W.cell? ⟨w.heap.size, 1, none⟩ = some (.slice co m.cons.length cc)) ∧ Gr [w.heap.size + 1] w1 W) := hid fun W h => ⟨⟨fld (h.obj Hb1.out (by simp)) 0, fld (h.obj Hb1.out (by simp)) 1⟩, h⟩
    have HDn : Hid (Nums [] w1 .i64 (.slice xo m.doms.length xc) (ints D)) := hid (by rw [← HVM.out.doms]; exact (HM.out.parts).1)
    go_region_held_law (fun W => (W.cell? ⟨w.heap.size, 0, none⟩ = some (.slice xo m.doms.length xc) ∧ W.cell? ⟨w.heap.size, 1, none⟩ = some (.slice co m.cons.length cc)) ∧ Gr [w.heap.size + 1] w1 W)
      ((refine HS.out _ ?_; first | exact Gr.any HGa.out | exact Gr.any HGb.out | exact Gr.any ((Gr.refl [] w1).drew) | exact Gr.any (HGa.out.alloc _) | exact Gr.any (HGb.out.alloc _) | exact Gr.set3 (Gr.any HGa.out) _ _ _ | exact Gr.set3 (Gr.any (HGa.out.alloc _)) _ _ _ | exact Gr.set3 (Gr.any (HGb.out.alloc _)) _ _ _ | assumption | (go_split_ands; first | assumption | exact Gr.drew (by assumption) | exact Gr.alloc (by assumption) _)))
      (first
      | (go_simp; go_at_call 16; refine (copyModel_c m _ _ (HM.out.gr (by first | exact (Gr.refl [] w1).drew | exact HGb.out | exact HGb.out.alloc _)) Hs.out HVM.out.rows).mono ?_; rintro e wa ⟨xoa, xca, coa, cca, rfl, hma, hga⟩; have hgx : Gr [] w1 wa := Gr.trans (by first | exact (Gr.refl [] w1).drew | exact HGb.out | exact HGb.out.alloc _) hga; have HGa := hid hgx; have Hga := hid hga; have HMa : Hid (ModM (fun b => w.heap.size + 1 < b) wa (.agg #[.slice xoa m.doms.length xca, .slice coa m.cons.length cca]) m) := hid (hma.gr' (Gr.refl [] wa) (by simp) (fun b _ h => by have h1 := h.1; (try simp at h1); first | omega | (have := HGb.out.size; omega))); have fba := fld (HBX.out _ hgx); have fra := fld (HRX.out _ hgx); have ffa := fldF (HRX.out _ hgx); have hsa := hgx.size; (try (have frz := fld (HRX.out _ (hgx.alloc (.cells #[.slice vbo (ints (fix m.cons D)).length vbc] 22))); have ffz := fldF (HRX.out _ (hgx.alloc (.cells #[.slice vbo (ints (fix m.cons D)).length vbc] 22))))); clear hga hgx hma; (try dsimp only))
      | (go_simp; go_at_call 17; refine (specFixpoint_c m D _ _ _ (HM.out.gr (by first | exact (Gr.refl [] w1).drew | exact HGa.out)) (HDn.out.gr (by first | exact (Gr.refl [] w1).drew | exact HGa.out)) HVM.out.cons HVM.out.below HVM.out.len.2).mono ?_; rintro e wb ⟨vb, rfl, hob, hgb⟩; obtain ⟨vbo, vbc, rfl⟩ := hob.c.form; have hgx : Gr [] w1 wb := Gr.trans (by first | exact (Gr.refl [] w1).drew | exact HGa.out) hgb; have HGb := hid hgx; have Hgb := hid hgb; have HNb : Hid (NumsM (fun b => w.heap.size + 1 < b) wb (.slice vbo (ints (fix m.cons D)).length vbc) (ints (fix m.cons D))) := hid (hob.numsM.gr' (Gr.refl [] wb) (by simp) (fun b _ h => by have h1 := h.1; (try simp at h1); first | omega | (have := HGa.out.size; omega))); have fbb := fld (HBX.out _ hgx); have frb := fld (HRX.out _ hgx); have ffb := fldF (HRX.out _ hgx); have hsb := hgx.size; have fry := fld (HRX.out _ (hgx.alloc (.cells #[.slice vbo (ints (fix m.cons D)).length vbc] 22))); have ffy := fldF (HRX.out _ (hgx.alloc (.cells #[.slice vbo (ints (fix m.cons D)).length vbc] 22))); clear hgb hgx hob; (try dsimp only)))
    all_goals
      go_wp2_with fail
      first
      | (obtain ⟨h5, hst, hG⟩ := sto_fin (w := w) (r := w.heap.size + 1) (g := wb.heap.size) (WX := wb.alloc (.cells #[.slice vbo (ints (fix m.cons D)).length vbc] 22)) ((HMa.out.gr' (M' := fun b => w.heap.size + 1 < b) Hgb.out (by simp) (fun _ _ h => h)).gr' (M' := fun b => w.heap.size + 1 < b) ((Gr.refl [] wb).alloc _) (by simp) (fun _ _ h => h)) (HNb.out.gr' (M' := fun b => w.heap.size + 1 < b) ((Gr.refl [] wb).alloc _) (by simp) (fun _ _ h => h)) (heap_alloc_new _ _) (by omega) (HRX.out _ (HGb.out.alloc _)) (Hg1.out.trans (HGb.out.alloc _)) (by omega)
         have flE := fld h5
         refine bodyPost_ret (v := .agg #[.slice xoa m.doms.length xca, .slice coa m.cons.length cca, .slice (some ⟨wb.heap.size, 0, none⟩) 1 1]) (by simp [results, Try.results5, go_sem, flE]) rfl ⟨_, rfl, by unfold newSto; rw [if_pos Hb.out]; exact hst [] (by simp), hG⟩)
      | (obtain ⟨h5, hst, hG⟩ := sto_fin (w := w) (r := w.heap.size + 1) (g := wa.heap.size) (WX := wa.alloc (.cells #[.slice vbo (ints (fix m.cons D)).length vbc] 22)) (HMa.out.gr' (M' := fun b => w.heap.size + 1 < b) ((Gr.refl [] wa).alloc _) (by simp) (fun _ _ h => h)) ((HNb.out.gr' (M' := fun b => w.heap.size + 1 < b) Hga.out (by simp) (fun _ _ h => h)).gr' (M' := fun b => w.heap.size + 1 < b) ((Gr.refl [] wa).alloc _) (by simp) (fun _ _ h => h)) (heap_alloc_new _ _) (by omega) (HRX.out _ (HGa.out.alloc _)) (Hg1.out.trans (HGa.out.alloc _)) (by omega)
         have flE := fld h5
         refine bodyPost_ret (v := .agg #[.slice xoa m.doms.length xca, .slice coa m.cons.length cca, .slice (some ⟨wa.heap.size, 0, none⟩) 1 1]) (by simp [results, Try.results5, go_sem, flE]) rfl ⟨_, rfl, by unfold newSto; rw [if_pos Hb.out]; exact hst [] (by simp), hG⟩)
      | (obtain ⟨h5, hst, hG⟩ := sto_fin (w := w) (r := w.heap.size + 1) (g := wb.heap.size) (WX := wa) HMa.out ((HNb.out.gr' (M' := fun b => w.heap.size + 1 < b) ((Gr.refl [] wb).alloc _) (by simp) (fun _ _ h => h)).gr' (M' := fun b => w.heap.size + 1 < b) Hga.out (by simp) (fun _ _ h => h)) (Hga.out.obj (heap_alloc_new _ _) (by simp)) (by omega) (HRX.out _ HGa.out) (Hg1.out.trans HGa.out) (by omega)
         have flE := fld h5
         refine bodyPost_ret (v := .agg #[.slice xoa m.doms.length xca, .slice coa m.cons.length cca, .slice (some ⟨wb.heap.size, 0, none⟩) 1 1]) (by simp [results, Try.results5, go_sem, flE]) rfl ⟨_, rfl, by unfold newSto; rw [if_pos Hb.out]; exact hst [] (by simp), hG⟩)

end Go.Proofs.Ytihkeihnpiddoaa
