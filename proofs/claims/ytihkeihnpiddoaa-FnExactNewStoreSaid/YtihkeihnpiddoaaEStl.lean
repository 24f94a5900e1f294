/-
  Walks of the program's newStore and NewStore: the cells of whole numbers that the result holds and leads to are all different.
-/
import Derived.Test.YtihkeihnpiddoaaESw
import Derived.Test.YtihkeihnpiddoaaECql
set_option linter.unusedVariables false
set_option linter.unusedSimpArgs false
namespace Go.Proofs.Ytihkeihnpiddoaa
open Go.RowKit

theorem ConsM.leaf {M : Nat → Prop} {w : World} {v : Value} {cs : List Con} (h : ConsM M w v cs) : ∀ a ∈ leavesCs w v, M a.block := by
  obtain ⟨ao, cap, rfl, h1, h2⟩ := id h
  intro a ha
  cases ao with
  | none => simp [leavesCs] at ha
  | some b0 =>
    obtain ⟨b, o, sp⟩ := b0
    simp only [leavesCs, List.mem_flatMap, List.mem_range] at ha
    obtain ⟨i, hi, ha⟩ := ha
    obtain ⟨c, hc⟩ := get_some hi
    obtain ⟨b', o', _, _, _, e, hm, _⟩ := h2 i c hc
    cases e
    obtain ⟨vv, av, rv, ⟨c0, c1, c2, c3, c4⟩, n1, n2, n3⟩ := h.cellE hc
    unfold leavesE at ha
    rw [cellv_of c1, cellv_of c2, cellv_of c4] at ha
    simp only [List.mem_append, List.mem_singleton] at ha
    rcases ha with (((h | h) | h) | h) | h
    · subst h; exact hm
    · exact n1.leaf a h
    · exact n2.leaf a h
    · subst h; exact hm
    · exact n3.leaf a h
theorem ModM.parts {M : Nat → Prop} {w : World} {dv cv : Value} {m : Mod} (h : ModM M w (.agg #[dv, cv]) m) : NumsM M w dv m.doms ∧ ConsM M w cv m.cons := by
  obtain ⟨_, _, e, h1, h2⟩ := h
  simp only [Value.agg.injEq, Array.mk.injEq, List.cons.injEq, and_true] at e
  obtain ⟨rfl, rfl⟩ := e
  exact ⟨h1, h2⟩
theorem nd_keep {M : Nat → Prop} {w w' : World} {dv cv : Value} {m : Mod} (h : ModM M w (.agg #[dv, cv]) m) (hg : Gr [] w w') (hn : (leavesN dv ++ leavesCs w cv).Nodup) : (leavesN dv ++ leavesCs w' cv).Nodup := by
  rw [h.parts.2.leaves_gr hg (by simp)]; exact hn
/-- A store whose blocks lie between B and E, and whose cells of whole numbers are all different. -/
def StoF (B E : Nat) (w : World) (v : Value) (s : Sto) : Prop :=
  ∃ dv cv lv, v = .agg #[dv, cv, lv] ∧ ModM (fun b => B ≤ b ∧ b < E) w (.agg #[dv, cv]) s.mod ∧ RowsM (fun b => B ≤ b ∧ b < E) w lv s.lv ∧ (leavesN dv ++ leavesCs w cv ++ leavesR w lv).Nodup
theorem StoF.gr {B E : Nat} {S : List Nat} {w w' : World} {v : Value} {s : Sto} (h : StoF B E w v s) (hg : Gr S w w') (hS : ∀ b ∈ S, b < B ∨ E ≤ b) : StoF B E w' v s := by
  obtain ⟨dv, cv, lv, e, h1, h2, h3⟩ := h
  have k : ∀ b ∈ S, ¬ (B ≤ b ∧ b < E) := fun b hb h => by have := hS b hb; omega
  refine ⟨dv, cv, lv, e, h1.gr' hg k (fun _ _ h => h), h2.gr' hg k (fun _ _ h => h), ?_⟩
  rw [h1.parts.2.leaves_gr hg k, h2.leaves_gr hg k]; exact h3
theorem StoF.imp {B E B' E' : Nat} {w : World} {v : Value} {s : Sto} (h : StoF B E w v s) (hB : B' ≤ B) (hE : E ≤ E') : StoF B' E' w v s := by
  obtain ⟨dv, cv, lv, e, h1, h2, h3⟩ := h
  exact ⟨dv, cv, lv, e, h1.gr' (Gr.refl [] w) (by simp) (fun _ _ h => by omega), h2.gr' (Gr.refl [] w) (by simp) (fun _ _ h => by omega), h3⟩
theorem StoF.sto {B E : Nat} {w : World} {v : Value} {s : Sto} (h : StoF B E w v s) {S : List Nat} (hS : ∀ b ∈ S, b < B ∨ E ≤ b) : StoV S w v s := by
  obtain ⟨dv, cv, lv, rfl, h1, h2, h3⟩ := h
  have k : ∀ b ∈ S, ¬ (B ≤ b ∧ b < E) := fun b hb h => by have := hS b hb; omega
  exact StoV.mk (h1.mod k) (h2.rows k)
theorem StoF.zero (B E : Nat) (w : World) : StoF B E w (.agg #[.slice none 0 0, .slice none 0 0, .slice none 0 0]) zeroSto :=
  ⟨_, _, _, rfl, ⟨_, _, rfl, NumsM.nil _ _, ⟨none, 0, rfl, by simp [zeroSto], fun i x h => by simp [zeroSto] at h⟩⟩, RowsM.nil _ _, by simp [leavesN, leavesCs, leavesR]⟩
/-- What stands behind a new store's three stores into its result. -/
theorem sto_finL {m : Mod} {w WX : World} {r g : Nat} {x0 x1 vb : Value} {xs : List Int} {t t2 : TypeId} (M : Nat → Prop) (hM : ModM M WX (.agg #[x0, x1]) m) (hMr : ∀ b, M b → r < b ∧ b < WX.heap.size ∧ b ≠ g) (hnd : (leavesN x0 ++ leavesCs WX x1).Nodup)
    (M2 : Nat → Prop) (hN : NumsM M2 WX vb xs) (hM2 : ∀ b, M2 b → r < b ∧ b < WX.heap.size ∧ b ≠ g ∧ ¬ M b) (hL : WX.heap[g]? = some (.cells #[vb] t (0, 0))) (hgr : r < g)
    (hr : WX.heap[r]? = some (.cells #[.slice none 0 0, .slice none 0 0, .slice none 0 0] t2 (0, 0))) (hG : Gr [] w WX) (hwr : w.heap.size ≤ r) :
    (((WX.setCell ⟨r, 0, none⟩ x0).setCell ⟨r, 1, none⟩ x1).setCell ⟨r, 2, none⟩ (.slice (some ⟨g, 0, none⟩) 1 1)).heap[r]? = some (.cells #[x0, x1, .slice (some ⟨g, 0, none⟩) 1 1] t2 (0, 0)) ∧
    StoF w.heap.size (((WX.setCell ⟨r, 0, none⟩ x0).setCell ⟨r, 1, none⟩ x1).setCell ⟨r, 2, none⟩ (.slice (some ⟨g, 0, none⟩) 1 1)).heap.size (((WX.setCell ⟨r, 0, none⟩ x0).setCell ⟨r, 1, none⟩ x1).setCell ⟨r, 2, none⟩ (.slice (some ⟨g, 0, none⟩) 1 1)) (.agg #[x0, x1, .slice (some ⟨g, 0, none⟩) 1 1]) ⟨m, [xs]⟩ ∧
    Gr [] w (((WX.setCell ⟨r, 0, none⟩ x0).setCell ⟨r, 1, none⟩ x1).setCell ⟨r, 2, none⟩ (.slice (some ⟨g, 0, none⟩) 1 1)) := by
  obtain ⟨h1, h2⟩ := set3 x0 x1 (.slice (some ⟨g, 0, none⟩) 1 1) hr
  generalize ((WX.setCell ⟨r, 0, none⟩ x0).setCell ⟨r, 1, none⟩ x1).setCell ⟨r, 2, none⟩ (.slice (some ⟨g, 0, none⟩) 1 1) = WE at h1 h2 ⊢
  have hs := h2.size
  have hlg := lt_of_block hL
  have hL2 := h2.obj hL (by simp; omega)
  have hc : WE.cell? ⟨g, 0, none⟩ = some vb := fld hL2 0
  have hGs := hG.size
  refine ⟨h1, ⟨x0, x1, _, rfl, hM.gr' h2 (fun b hb hm => by have := (hMr b hm).1; simp at hb; omega) (fun b _ hm => by have := hMr b hm; omega), ⟨some ⟨g, 0, none⟩, 1, rfl, by simp, fun i x hi => ?_⟩, ?_⟩, hG.step h2 (fun i hi => .inr (by simp at hi; omega))⟩
  · have hi0 : i = 0 := by have := (List.getElem?_eq_some_iff.1 hi).1; simp at this; omega
    subst hi0
    simp at hi; subst hi
    exact ⟨g, 0, vb, rfl, by omega, hc, by simp [World.frozen?, hL2], hN.gr' h2 (fun b hb hm => by have := (hM2 b hm).1; simp at hb; omega) (fun b _ hm => by have := hM2 b hm; exact ⟨by omega, this.2.2.1⟩)⟩
  · have e1 : leavesCs WE x1 = leavesCs WX x1 := hM.parts.2.leaves_gr h2 (fun b hb hm => by have := (hMr b hm).1; simp at hb; omega)
    have e2 : leavesR WE (.slice (some ⟨g, 0, none⟩) 1 1) = leavesN vb := by
      simp [leavesR, cellv_of hc]
    rw [e1, e2]
    refine List.nodup_append.2 ⟨hnd, leavesN_nodup _, fun a ha b hb e => ?_⟩
    subst e
    refine (hM2 _ (hN.leaf a hb)).2.2.2 ?_
    rcases List.mem_append.1 ha with h | h
    · exact hM.parts.1.leaf a h
    · exact hM.parts.2.leaf a h


set_option maxRecDepth 100000 in
set_option maxHeartbeats 4000000 in
theorem newStore_l (m : Mod) (D : List Nat) (mv : Value) (w : World) (hv : ModV [] w mv m) (hVM : VM m D) (hs : m.Small) :
    Calls Try.prog 21 #[mv] w fun e w' => ∃ v', e = .returned v' ∧ StoF w.heap.size w'.heap.size w' v' ⟨m, [ints (fix m.cons D)]⟩ ∧ Gr [] w w' := by
  obtain ⟨xo, xc, co, cc, rfl⟩ := hv.slices
  have h20 := heap2 w (.cells #[.slice xo m.doms.length xc, .slice co m.cons.length cc] 29) (.cells #[.slice none 0 0, .slice none 0 0, .slice none 0 0] 32)
  have hg0 : Gr [] w ((w.alloc (.cells #[.slice xo m.doms.length xc, .slice co m.cons.length cc] 29)).alloc (.cells #[.slice none 0 0, .slice none 0 0, .slice none 0 0] 32)) := ((Gr.refl [] w).alloc _).alloc _
  have hs0 : ((w.alloc (.cells #[.slice xo m.doms.length xc, .slice co m.cons.length cc] 29)).alloc (.cells #[.slice none 0 0, .slice none 0 0, .slice none 0 0] 32)).heap.size = w.heap.size + 2 := by simp
  have Hb0 := hid h20.1; have Hr0 := hid h20.2; have Hg0 := hid hg0; have HM := hid (hv.gr hg0); have HVM := hid hVM; have Hs := hid hs
  have fb0 := fld h20.1
  clear hv h20 hg0 hVM hs
  go_enter Try.func21, Try.ntmps21
  go_wp2_with fail
  generalize hW0 : (w.alloc (.cells #[.slice xo m.doms.length xc, .slice co m.cons.length cc] 29)).alloc (.cells #[.slice none 0 0, .slice none 0 0, .slice none 0 0] 32) = w0 at *
  clear hW0
  have HBX : Hid (∀ W, Gr [] w0 W → W.heap[w.heap.size]? = some (.cells #[.slice xo m.doms.length xc, .slice co m.cons.length cc] 29 (0, 0))) := hid fun W h => h.obj Hb0.out (by simp)
  have HRX : Hid (∀ W, Gr [] w0 W → W.heap[w.heap.size + 1]? = some (.cells #[.slice none 0 0, .slice none 0 0, .slice none 0 0] 32 (0, 0))) := hid fun W h => h.obj Hr0.out (by simp)
  have HS : Hid (∀ W, Gr [w.heap.size + 1] w0 W → (W.cell? ⟨w.heap.size, 0, none⟩ = some (.slice xo m.doms.length xc) ∧ W.cell? ⟨w.heap.size, 1, none⟩ = some (.slice co m.cons.length cc)) ∧ Gr [w.heap.size + 1] w0 W) := hid fun W h => ⟨⟨fld (h.obj Hb0.out (by simp)) 0, fld (h.obj Hb0.out (by simp)) 1⟩, h⟩
  have HDn : Hid (Nums [] w0 .i64 (.slice xo m.doms.length xc) (ints D)) := hid (by rw [← HVM.out.doms]; exact (HM.out.parts).1)
  go_region_held_law (fun W => (W.cell? ⟨w.heap.size, 0, none⟩ = some (.slice xo m.doms.length xc) ∧ W.cell? ⟨w.heap.size, 1, none⟩ = some (.slice co m.cons.length cc)) ∧ Gr [w.heap.size + 1] w0 W)
    ((refine HS.out _ ?_; first | exact Gr.any HGa.out | exact Gr.any HGb.out | exact Gr.any ((Gr.refl [] w0).drew) | exact Gr.any (HGa.out.alloc _) | exact Gr.any (HGb.out.alloc _) | exact Gr.set3 (Gr.any HGa.out) _ _ _ | exact Gr.set3 (Gr.any (HGa.out.alloc _)) _ _ _ | exact Gr.set3 (Gr.any (HGb.out.alloc _)) _ _ _ | assumption | (go_split_ands; first | assumption | exact Gr.drew (by assumption) | exact Gr.alloc (by assumption) _)))
    (first
    | (go_simp; go_at_call 44; refine (modCopied_l m _ _ (HM.out.gr (by first | exact (Gr.refl [] w0).drew | exact HGb.out | exact HGb.out.alloc _)) Hs.out).mono ?_; rintro e wa ⟨xoa, xca, coa, cca, rfl, hma, hnda, hga⟩; have hgx : Gr [] w0 wa := Gr.trans (by first | exact (Gr.refl [] w0).drew | exact HGb.out | exact HGb.out.alloc _) hga; have HGa := hid hgx; have Hga := hid hga; have HMa := hid hma; have HNDa := hid hnda; have fba := fld (HBX.out _ hgx); have fra := fld (HRX.out _ hgx); have ffa := fldF (HRX.out _ hgx); have hsa := hgx.size; (try (have frz := fld (HRX.out _ (hgx.alloc (.cells #[.slice vbo (ints (fix m.cons D)).length vbc] 22))); have ffz := fldF (HRX.out _ (hgx.alloc (.cells #[.slice vbo (ints (fix m.cons D)).length vbc] 22))))); clear hga hgx hma hnda; (try dsimp only))
    | (go_simp; go_at_call 45; refine (propagate_c m D _ _ _ (HM.out.gr (by first | exact (Gr.refl [] w0).drew | exact HGa.out)) (HDn.out.gr (by first | exact (Gr.refl [] w0).drew | exact HGa.out)) HVM.out.cons HVM.out.below HVM.out.len.2).mono ?_; rintro e wb ⟨vb, rfl, hob, hgb⟩; obtain ⟨vbo, vbc, rfl⟩ := hob.form; have hgx : Gr [] w0 wb := Gr.trans (by first | exact (Gr.refl [] w0).drew | exact HGa.out) hgb; have HGb := hid hgx; have Hgb := hid hgb; have HNb := hid hob.numsM; have fbb := fld (HBX.out _ hgx); have frb := fld (HRX.out _ hgx); have ffb := fldF (HRX.out _ hgx); have hsb := hgx.size; have fry := fld (HRX.out _ (hgx.alloc (.cells #[.slice vbo (ints (fix m.cons D)).length vbc] 22))); have ffy := fldF (HRX.out _ (hgx.alloc (.cells #[.slice vbo (ints (fix m.cons D)).length vbc] 22))); clear hgb hgx hob; (try dsimp only)))
  all_goals
    go_wp2_with fail
    first
    | (obtain ⟨h5, hst, hG⟩ := sto_finL (w := w) (r := w.heap.size + 1) (g := wb.heap.size) (WX := wb.alloc (.cells #[.slice vbo (ints (fix m.cons D)).length vbc] 22)) _ ((HMa.out.gr' Hgb.out (by simp) (fun _ _ h => h)).gr' ((Gr.refl [] wb).alloc _) (by simp) (fun _ _ h => h)) (fun b hm => by have h9 := Hgb.out.size; (try simp at h9); have h1 := hm.1; have h2 := hm.2; (try simp at h1); simp; omega) (nd_keep HMa.out (Hgb.out.alloc _) HNDa.out) _ (HNb.out.gr' ((Gr.refl [] wb).alloc _) (by simp) (fun _ _ h => h)) (fun b hm => by have h9 := Hgb.out.size; (try simp at h9); have h1 := hm.1; have h2 := hm.2; (try simp at h1); refine ⟨by omega, by simp; omega, by omega, fun hq => ?_⟩; have h3 := hq.1; have h4 := hq.2; (try simp at h3); omega) (heap_alloc_new _ _) (by omega) (HRX.out _ (HGb.out.alloc _)) (Hg0.out.trans (HGb.out.alloc _)) (by omega)
       have flE := fld h5
       refine bodyPost_ret (v := .agg #[.slice xoa m.doms.length xca, .slice coa m.cons.length cca, .slice (some ⟨wb.heap.size, 0, none⟩) 1 1]) (by simp [results, Try.results21, go_sem, flE]) rfl ⟨_, rfl, hst, hG⟩)
    | (obtain ⟨h5, hst, hG⟩ := sto_finL (w := w) (r := w.heap.size + 1) (g := wa.heap.size) (WX := wa.alloc (.cells #[.slice vbo (ints (fix m.cons D)).length vbc] 22)) _ (HMa.out.gr' ((Gr.refl [] wa).alloc _) (by simp) (fun _ _ h => h)) (fun b hm => by have h9 := Hga.out.size; (try simp at h9); have h1 := hm.1; have h2 := hm.2; (try simp at h1); simp; omega) (nd_keep HMa.out ((Gr.refl [] wa).alloc _) HNDa.out) _ ((HNb.out.gr' Hga.out (by simp) (fun _ _ h => h)).gr' ((Gr.refl [] wa).alloc _) (by simp) (fun _ _ h => h)) (fun b hm => by have h9 := Hga.out.size; (try simp at h9); have h1 := hm.1; have h2 := hm.2; (try simp at h1); refine ⟨by omega, by simp; omega, by omega, fun hq => ?_⟩; have h3 := hq.1; have h4 := hq.2; (try simp at h3); omega) (heap_alloc_new _ _) (by omega) (HRX.out _ (HGa.out.alloc _)) (Hg0.out.trans (HGa.out.alloc _)) (by omega)
       have flE := fld h5
       refine bodyPost_ret (v := .agg #[.slice xoa m.doms.length xca, .slice coa m.cons.length cca, .slice (some ⟨wa.heap.size, 0, none⟩) 1 1]) (by simp [results, Try.results21, go_sem, flE]) rfl ⟨_, rfl, hst, hG⟩)
    | (obtain ⟨h5, hst, hG⟩ := sto_finL (w := w) (r := w.heap.size + 1) (g := wb.heap.size) (WX := wa) _ HMa.out (fun b hm => by have h9 := Hga.out.size; (try simp at h9); have h1 := hm.1; have h2 := hm.2; (try simp at h1); simp; omega) HNDa.out _ ((HNb.out.gr' ((Gr.refl [] wb).alloc _) (by simp) (fun _ _ h => h)).gr' Hga.out (by simp) (fun _ _ h => h)) (fun b hm => by have h9 := Hga.out.size; (try simp at h9); have h1 := hm.1; have h2 := hm.2; (try simp at h1); refine ⟨by omega, by simp; omega, by omega, fun hq => ?_⟩; have h3 := hq.1; have h4 := hq.2; (try simp at h3); omega) (Hga.out.obj (heap_alloc_new _ _) (by simp)) (by omega) (HRX.out _ HGa.out) (Hg0.out.trans HGa.out) (by omega)
       have flE := fld h5
       refine bodyPost_ret (v := .agg #[.slice xoa m.doms.length xca, .slice coa m.cons.length cca, .slice (some ⟨wb.heap.size, 0, none⟩) 1 1]) (by simp [results, Try.results21, go_sem, flE]) rfl ⟨_, rfl, hst, hG⟩)


set_option maxRecDepth 100000 in
set_option maxHeartbeats 1000000 in
theorem NewStore_l (m : Mod) (D : List Nat) (mv : Value) (w : World) (hv : ModV [] w mv m) (hD : validM m = true → VM m D) (hs : m.Small) :
    Calls Try.prog 7 #[mv] w fun e w' => ∃ v', e = .returned v' ∧ StoF w.heap.size w'.heap.size w' v' (newSto m D) ∧ Gr [] w w' := by
  obtain ⟨xo, xc, co, cc, rfl⟩ := hv.slices
  have h20 := heap2 w (.cells #[.slice xo m.doms.length xc, .slice co m.cons.length cc] 29) (.cells #[.slice none 0 0, .slice none 0 0, .slice none 0 0] 32)
  have hg0 : Gr [] w ((w.alloc (.cells #[.slice xo m.doms.length xc, .slice co m.cons.length cc] 29)).alloc (.cells #[.slice none 0 0, .slice none 0 0, .slice none 0 0] 32)) := ((Gr.refl [] w).alloc _).alloc _
  have Hb0 := hid h20.1; have Hr0 := hid h20.2; have Hg0 := hid hg0; have HM := hid (hv.gr hg0); have HD := hid hD; have Hs := hid hs
  have fb0 := fld h20.1
  have hs0 : ((w.alloc (.cells #[.slice xo m.doms.length xc, .slice co m.cons.length cc] 29)).alloc (.cells #[.slice none 0 0, .slice none 0 0, .slice none 0 0] 32)).heap.size = w.heap.size + 2 := by simp
  clear hv h20 hg0 hD hs
  go_enter Try.func7, Try.ntmps7
  go_wp2_with fail
  have hcall := ValidModel_c m _ _ HM.out
  (with_reducible refine hcall.mono ?_)
  clear hcall
  rintro e w1 ⟨rfl, hg1⟩
  have Hr1 := hid (hg1.obj Hr0.out (by simp))
  have fb1 := fld (hg1.obj Hb0.out (by simp)); have fr1 := fld Hr1.out; have ff1 := fldF Hr1.out
  have Hg1 := hid (Hg0.out.trans hg1)
  have HM1 := hid (HM.out.gr hg1)
  have hl1 := lt_of_block Hr1.out
  clear fb0 hg1 hs0
  cases hb : validM m
  · go_wp2_with fail
    obtain ⟨h5, hG5⟩ := set3 (.slice none 0 0) (.slice none 0 0) (.slice none 0 0) Hr1.out
    have flE := fld h5
    refine bodyPost_ret (v := .agg #[.slice none 0 0, .slice none 0 0, .slice none 0 0]) (by simp [results, Try.results7, go_sem, flE]) rfl ⟨_, rfl, by unfold newSto; rw [hb]; exact StoF.zero _ _ _, Hg1.out.step hG5 (fun i hi => .inr (by simp at hi; omega))⟩
  · have HVM := hid (HD.out hb); have Hb := hid hb
    clear hb
    go_wp2_with fail
    have hcall := newStore_l m D _ _ HM1.out HVM.out Hs.out
    (with_reducible refine hcall.mono ?_)
    clear hcall
    rintro e w2 ⟨v2, rfl, hst, hg2⟩
    obtain ⟨yo, yc, zo, zc, lo, lc, rfl, -, -⟩ := (hst.sto (S := []) (by simp)).open
    have Hr2 := hid (hg2.obj Hr1.out (by simp))
    have fr2 := fld Hr2.out; have ff2 := fldF Hr2.out
    have Hst := hid hst; have Hg2 := hid hg2
    clear hst hg2 fr1 ff1 fb1
    go_wp2_with fail
    obtain ⟨h5, hG5⟩ := set3 (.slice yo m.doms.length yc) (.slice zo m.cons.length zc) (.slice lo 1 lc) Hr2.out
    have flE := fld h5
    refine bodyPost_ret (v := .agg #[.slice yo m.doms.length yc, .slice zo m.cons.length zc, .slice lo 1 lc]) (by simp [results, Try.results7, go_sem, flE]) rfl ⟨_, rfl, by unfold newSto; rw [if_pos Hb.out]; exact (Hst.out.gr hG5 (by simp; omega)).imp (by omega) hG5.size, (Hg1.out.trans Hg2.out).step hG5 (fun i hi => .inr (by simp at hi; omega))⟩

end Go.Proofs.Ytihkeihnpiddoaa
