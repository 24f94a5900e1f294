/-
  Walk of the reference's new store: its one level lies in a block of its own.
-/
import Derived.Test.YtihkeihnpiddoaaGreatDLv
import Derived.Test.YtihkeihnpiddoaaGreatDSw
set_option linter.unusedVariables false
set_option linter.unusedSimpArgs false
namespace Go.Proofs.YtihkeihnpiddoaaGreat
open Go.RowKit

theorem newS_ok {m : Mod} {D : List Nat} (h : VM m D) : validS ⟨m, [ints (fix m.cons D)]⟩ = true := by
  have hl := fix_len h.cons
  have hb := fix_below h.cons h.below
  have hd : domsOk (ints (fix m.cons D)) = true := by
    unfold domsOk
    rw [Bool.and_eq_true, inB_iff, allB_iff, ints_len, hl]
    refine ⟨by have := h.len; omega, fun x hx => ?_⟩
    obtain ⟨d, hd, rfl⟩ := ints_mem.1 hx
    have := hb d hd; omega
  unfold validS
  rw [h.valid]
  simp [lvOk, inB_iff, hd, h.doms, ints_len, hl]
/-- What stands behind a new store's three stores into its result, each array in a block of its own. -/
theorem sto_finE {m : Mod} {w WX : World} {r g g0 c0 : Nat} {x0 x1 : Value} {xs : List Int} {t2 : TypeId} (M : Nat → Prop) (hM : ModM M WX (.agg #[x0, x1]) m) (hMb : ∀ b, M b → r < b ∧ b < WX.heap.size ∧ b ≠ g ∧ b ≠ g0)
    (hN : Own 0 WX 3 (.slice (some ⟨g0, 0, none⟩) xs.length c0) xs) (hg0 : r < g0 ∧ g0 ≠ g) (hL : WX.heap[g]? = some (.cells #[.slice (some ⟨g0, 0, none⟩) xs.length c0] 23 (0, 0))) (hgr : r < g)
    (hr : WX.heap[r]? = some (.cells #[.slice none 0 0, .slice none 0 0, .slice none 0 0] t2 (0, 0))) (hG : Gr [] w WX) (hwr : w.heap.size ≤ r) :
    (((WX.setCell ⟨r, 0, none⟩ x0).setCell ⟨r, 1, none⟩ x1).setCell ⟨r, 2, none⟩ (.slice (some ⟨g, 0, none⟩) 1 1)).heap[r]? = some (.cells #[x0, x1, .slice (some ⟨g, 0, none⟩) 1 1] t2 (0, 0)) ∧
    StoE w.heap.size (((WX.setCell ⟨r, 0, none⟩ x0).setCell ⟨r, 1, none⟩ x1).setCell ⟨r, 2, none⟩ (.slice (some ⟨g, 0, none⟩) 1 1)).heap.size (((WX.setCell ⟨r, 0, none⟩ x0).setCell ⟨r, 1, none⟩ x1).setCell ⟨r, 2, none⟩ (.slice (some ⟨g, 0, none⟩) 1 1)) (.agg #[x0, x1, .slice (some ⟨g, 0, none⟩) 1 1]) ⟨m, [xs]⟩ ∧
    Gr [] w (((WX.setCell ⟨r, 0, none⟩ x0).setCell ⟨r, 1, none⟩ x1).setCell ⟨r, 2, none⟩ (.slice (some ⟨g, 0, none⟩) 1 1)) := by
  obtain ⟨h1, h2⟩ := set3 x0 x1 (.slice (some ⟨g, 0, none⟩) 1 1) hr
  generalize ((WX.setCell ⟨r, 0, none⟩ x0).setCell ⟨r, 1, none⟩ x1).setCell ⟨r, 2, none⟩ (.slice (some ⟨g, 0, none⟩) 1 1) = WE at h1 h2 ⊢
  have hs := h2.size
  have hlg := lt_of_block hL
  have hl0 := hN.lt
  have hL2 := h2.obj hL (by simp; omega)
  have hN2 := hN.keep h2 (by simp; omega)
  refine ⟨h1, ⟨M, x0, x1, some ⟨g, 0, none⟩, 1, [(xs, g0)], rfl, hM.gr' (M' := M) h2 (fun b hb hm => by have := (hMb b hm).1; simp at hb; omega) (fun _ _ h => h), fun b hm => ?_, rfl, by simp, fun b hb => ?_, ?_⟩, hG.step h2 (fun i hi => .inr (by simp at hi; omega))⟩
  · have h := hMb b hm
    refine ⟨by omega, fun e => ?_, fun e => ?_⟩
    · simp [Value.ownBlock] at e; omega
    · simp at e; omega
  · simp at hb; omega
  · refine ⟨[[.slice (some ⟨g0, 0, none⟩) xs.length c0]], rfl, ?_, ⟨rfl, .inr ⟨g, 1, #[.slice (some ⟨g0, 0, none⟩) xs.length c0], rfl, by omega, hL2, by simp, by simp [maxLen], rfl, rfl⟩⟩, ?_, ?_⟩
    · intro cs hcs
      simp at hcs; subst hcs
      exact ⟨rfl, by simp [Value.oneCell']⟩
    · intro b hb hx
      simp [Value.ownBlock] at hb
      omega
    · intro i cs x hi hx S hS
      have hi0 : i = 0 := by have := (List.getElem?_eq_some_iff.1 hi).1; simp at this; omega
      subst hi0
      simp at hi hx; subst hi hx
      exact ⟨c0, rfl, hN2, fun hm => by rcases hS g0 hm with h | h | h; omega; omega; (simp [Value.ownBlock] at h; omega)⟩


set_option maxRecDepth 100000 in
set_option maxHeartbeats 4000000 in
theorem specNewStore_e (m : Mod) (D : List Nat) (mv : Value) (w : World) (hv : ModV [] w mv m) (hD : VM m D) (hs : m.Small) :
    Calls Tryz.prog 84 #[mv] w fun e w' => ∃ v', e = .returned v' ∧ StoE w.heap.size w'.heap.size w' v' ⟨m, [ints (fix m.cons D)]⟩ ∧ Gr [] w w' := by
  obtain ⟨xo, xc, co, cc, rfl⟩ := hv.slices
  have h20 := heap2 w (.cells #[.slice xo m.doms.length xc, .slice co m.cons.length cc] 26) (.cells #[.slice none 0 0, .slice none 0 0, .slice none 0 0] 29)
  have hg0 : Gr [] w ((w.alloc (.cells #[.slice xo m.doms.length xc, .slice co m.cons.length cc] 26)).alloc (.cells #[.slice none 0 0, .slice none 0 0, .slice none 0 0] 29)) := ((Gr.refl [] w).alloc _).alloc _
  have Hb0 := hid h20.1; have Hr0 := hid h20.2; have Hg0 := hid hg0; have HMa0 := hid (hv.gr hg0); have HD := hid hD; have Hs := hid hs
  have fb0 := fld h20.1
  have hs0 : ((w.alloc (.cells #[.slice xo m.doms.length xc, .slice co m.cons.length cc] 26)).alloc (.cells #[.slice none 0 0, .slice none 0 0, .slice none 0 0] 29)).heap.size = w.heap.size + 2 := by simp
  clear hv h20 hg0 hD hs
  go_enter Tryz.func84, Tryz.ntmps84
  go_wp2_with fail
  have hcall := specValidModel_c m _ _ HMa0.out Hs.out
  (with_reducible refine hcall.mono ?_)
  clear hcall
  rintro e w1 ⟨rfl, hg1⟩
  have Hb1 := hid (hg1.obj Hb0.out (by simp)); have Hr1 := hid (hg1.obj Hr0.out (by simp))
  have fb1 := fld Hb1.out; have fr1 := fld Hr1.out; have ff1 := fldF Hr1.out
  have Hg1 := hid (Hg0.out.trans hg1)
  have HM := hid (HMa0.out.gr hg1)
  have hl1 := lt_of_block Hr1.out
  clear fb0 hg1 hs0 HMa0 Hg0 Hb0 Hr0
  cases hb : validM m
  · exfalso; have := HD.out.valid; rw [hb] at this; cases this
  · have HVM := hid HD.out
    have hD1 := HVM.out.len.1
    have HFL : Hid ((ints (fix m.cons D)).length = D.length) := hid (by rw [ints_len, fix_len HVM.out.cons])
    clear hb HD
    go_wp2_with fail
    have HBX : Hid (∀ W, Gr [] w1 W → W.heap[w.heap.size]? = some (.cells #[.slice xo m.doms.length xc, .slice co m.cons.length cc] 26 (0, 0))) := hid fun W h => h.obj Hb1.out (by simp)
    have HRX : Hid (∀ W, Gr [] w1 W → W.heap[w.heap.size + 1]? = some (.cells #[.slice none 0 0, .slice none 0 0, .slice none 0 0] 29 (0, 0))) := hid fun W h => h.obj Hr1.out (by simp)
    have HS : Hid (∀ W, Gr [w.heap.size + 1] w1 W → (W.cell? ⟨w.heap.size, 0, none⟩ = some (.slice xo m.doms.length xc) ∧ W.cell? ⟨w.heap.size, 1, none⟩ = some (.slice co m.cons.length cc)) ∧ Gr [w.heap.size + 1] w1 W) := hid fun W h => ⟨⟨fld (h.obj Hb1.out (by simp)) 0, fld (h.obj Hb1.out (by simp)) 1⟩, h⟩
    have HDn : Hid (Nums [] w1 .i64 (.slice xo m.doms.length xc) (ints D)) := hid (by rw [← HVM.out.doms]; exact (HM.out.parts).1)
    go_region_held_law (fun W => (W.cell? ⟨w.heap.size, 0, none⟩ = some (.slice xo m.doms.length xc) ∧ W.cell? ⟨w.heap.size, 1, none⟩ = some (.slice co m.cons.length cc)) ∧ Gr [w.heap.size + 1] w1 W)
      ((refine HS.out _ ?_; first | exact Gr.any HGa.out | exact Gr.any HGb.out | exact Gr.any ((Gr.refl [] w1).drew) | exact Gr.any (HGa.out.alloc _) | exact Gr.any (HGb.out.alloc _) | exact Gr.set3 (Gr.any HGa.out) _ _ _ | exact Gr.set3 (Gr.any (HGa.out.alloc _)) _ _ _ | exact Gr.set3 (Gr.any (HGb.out.alloc _)) _ _ _ | assumption | (go_split_ands; first | assumption | exact Gr.drew (by assumption) | exact Gr.alloc (by assumption) _)))
      (first
      | (go_simp; go_at_call 94; refine (copyModel_c m _ _ (HM.out.gr (by first | exact (Gr.refl [] w1).drew | exact HGb.out | exact HGb.out.alloc _)) Hs.out HVM.out.rows).mono ?_; rintro e wa ⟨xoa, xca, coa, cca, rfl, hma, hga⟩; have hgx : Gr [] w1 wa := Gr.trans (by first | exact (Gr.refl [] w1).drew | exact HGb.out | exact HGb.out.alloc _) hga; have HGa := hid hgx; have Hga := hid hga; have HMa := hid hma; have fba := fld (HBX.out _ hgx); have fra := fld (HRX.out _ hgx); have ffa := fldF (HRX.out _ hgx); have hsa := hgx.size; (try (have frz := fld (HRX.out _ (hgx.alloc (.cells #[.slice (some ⟨gb, 0, none⟩) (ints (fix m.cons D)).length vbc] 23))); have ffz := fldF (HRX.out _ (hgx.alloc (.cells #[.slice (some ⟨gb, 0, none⟩) (ints (fix m.cons D)).length vbc] 23))))); clear hga hgx hma; (try dsimp only))
      | (go_simp; go_at_call 48; refine (specFixpoint_c m D _ _ _ (HM.out.gr (by first | exact (Gr.refl [] w1).drew | exact HGa.out)) (HDn.out.gr (by first | exact (Gr.refl [] w1).drew | exact HGa.out)) HVM.out.cons HVM.out.below HVM.out.len.2).mono ?_; rintro e wb ⟨vb, rfl, hob, hgb⟩; obtain ⟨gb, vbc, rfl, hgb6, -, -⟩ := hob.open (by rw [HFL.out]; omega); (try simp at hgb6); have hgx : Gr [] w1 wb := Gr.trans (by first | exact (Gr.refl [] w1).drew | exact HGa.out) hgb; have HGb := hid hgx; have Hgb := hid hgb; have HNb := hid (hob.le (B' := 0) (by omega)); have fbb := fld (HBX.out _ hgx); have frb := fld (HRX.out _ hgx); have ffb := fldF (HRX.out _ hgx); have hsb := hgx.size; have fry := fld (HRX.out _ (hgx.alloc (.cells #[.slice (some ⟨gb, 0, none⟩) (ints (fix m.cons D)).length vbc] 23))); have ffy := fldF (HRX.out _ (hgx.alloc (.cells #[.slice (some ⟨gb, 0, none⟩) (ints (fix m.cons D)).length vbc] 23))); clear hgb hgx hob; (try dsimp only)))
    all_goals
      go_wp2_with fail
      first
      | (obtain ⟨h5, hst, hG⟩ := sto_finE (w := w) (r := w.heap.size + 1) (g := wb.heap.size) (WX := wb.alloc (.cells #[.slice (some ⟨gb, 0, none⟩) (ints (fix m.cons D)).length vbc] 23)) _ ((HMa.out.gr' Hgb.out (by simp) (fun _ _ h => h)).gr' ((Gr.refl [] wb).alloc _) (by simp) (fun _ _ h => h)) (fun b hm => by have h1 := hm.1; have h2 := hm.2; (try simp at h1); simp; omega) (HNb.out.alloc _) (by omega) (heap_alloc_new _ _) (by omega) (HRX.out _ (HGb.out.alloc _)) (Hg1.out.trans (HGb.out.alloc _)) (by omega)
         have flE := fld h5
         refine bodyPost_ret (v := .agg #[.slice xoa m.doms.length xca, .slice coa m.cons.length cca, .slice (some ⟨wb.heap.size, 0, none⟩) 1 1]) (by simp [results, Tryz.results84, go_sem, flE]) rfl ⟨_, rfl, hst, hG⟩)
      | (obtain ⟨h5, hst, hG⟩ := sto_finE (w := w) (r := w.heap.size + 1) (g := wa.heap.size) (WX := wa.alloc (.cells #[.slice (some ⟨gb, 0, none⟩) (ints (fix m.cons D)).length vbc] 23)) _ (HMa.out.gr' ((Gr.refl [] wa).alloc _) (by simp) (fun _ _ h => h)) (fun b hm => by have h1 := hm.1; have h2 := hm.2; (try simp at h1); simp; omega) ((HNb.out.gr Hga.out (by simp)).alloc _) (by omega) (heap_alloc_new _ _) (by omega) (HRX.out _ (HGa.out.alloc _)) (Hg1.out.trans (HGa.out.alloc _)) (by omega)
         have flE := fld h5
         refine bodyPost_ret (v := .agg #[.slice xoa m.doms.length xca, .slice coa m.cons.length cca, .slice (some ⟨wa.heap.size, 0, none⟩) 1 1]) (by simp [results, Tryz.results84, go_sem, flE]) rfl ⟨_, rfl, hst, hG⟩)
      | (obtain ⟨h5, hst, hG⟩ := sto_finE (w := w) (r := w.heap.size + 1) (g := wb.heap.size) (WX := wa) _ HMa.out (fun b hm => by have h1 := hm.1; have h2 := hm.2; (try simp at h1); simp; omega) ((HNb.out.alloc _).gr Hga.out (by simp)) (by omega) (Hga.out.obj (heap_alloc_new _ _) (by simp)) (by omega) (HRX.out _ HGa.out) (Hg1.out.trans HGa.out) (by omega)
         have flE := fld h5
         refine bodyPost_ret (v := .agg #[.slice xoa m.doms.length xca, .slice coa m.cons.length cca, .slice (some ⟨wb.heap.size, 0, none⟩) 1 1]) (by simp [results, Tryz.results84, go_sem, flE]) rfl ⟨_, rfl, hst, hG⟩)

end Go.Proofs.YtihkeihnpiddoaaGreat
