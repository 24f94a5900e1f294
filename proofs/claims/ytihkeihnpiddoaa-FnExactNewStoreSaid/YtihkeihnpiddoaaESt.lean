/-
  Stores as plain data; how they are read in memory; walks of the laws' comparisons of stores, and of new stores, of the program's and of the reference's.
-/
import Derived.Test.YtihkeihnpiddoaaECq
import Derived.Test.YtihkeihnpiddoaaESy4ToIsB
import Derived.Test.YtihkeihnpiddoaaELtStP
import Derived.Test.YtihkeihnpiddoaaESy1ToRe
set_option linter.unusedVariables false
set_option linter.unusedSimpArgs false
namespace Go.Proofs.Ytihkeihnpiddoaa
open Go.RowKit

structure Sto where
  mod : Mod
  lv : List (List Int)
def StoV (S : List Nat) (w : World) (v : Value) (s : Sto) : Prop :=
  ∃ dv cv lv, v = .agg #[dv, cv, lv] ∧ Nums S w .i64 dv s.mod.doms ∧ ConsV S w cv s.mod.cons ∧ RowsV S w lv s.lv
theorem StoV.gr {S : List Nat} {w w' : World} {v : Value} {s : Sto} (h : StoV S w v s) (hg : Gr S w w') : StoV S w' v s :=
  let ⟨dv, cv, lv, e, h1, h2, h3⟩ := h; ⟨dv, cv, lv, e, h1.gr hg, h2.gr hg, h3.gr hg⟩
theorem StoV.sub {S S' : List Nat} {w : World} {v : Value} {s : Sto} (h : StoV S w v s) (hs : ∀ b, b < w.heap.size → b ∈ S' → b ∈ S) : StoV S' w v s :=
  let ⟨dv, cv, lv, e, h1, h2, h3⟩ := h; ⟨dv, cv, lv, e, h1.sub hs, h2.sub hs, h3.sub hs⟩
theorem RowsV.slice {S : List Nat} {w : World} {v : Value} {rows : List (List Int)} (h : RowsV S w v rows) : ∃ a b, v = .slice a rows.length b := by
  obtain ⟨ao, cap, e, -, -⟩ := h; exact ⟨ao, cap, e⟩
theorem StoV.open {S : List Nat} {w : World} {v : Value} {s : Sto} (h : StoV S w v s) :
    ∃ xo xc co cc lo lc, v = .agg #[.slice xo s.mod.doms.length xc, .slice co s.mod.cons.length cc, .slice lo s.lv.length lc] ∧
      ModV S w (.agg #[.slice xo s.mod.doms.length xc, .slice co s.mod.cons.length cc]) s.mod ∧ RowsV S w (.slice lo s.lv.length lc) s.lv := by
  obtain ⟨dv, cv, lv, rfl, h1, h2, h3⟩ := h
  obtain ⟨xo, xc, rfl, -, -⟩ := id h1
  obtain ⟨co, cc, rfl, -, -⟩ := id h2
  obtain ⟨lo, lc, rfl⟩ := h3.slice
  exact ⟨xo, xc, co, cc, lo, lc, rfl, ⟨_, _, rfl, h1, h2⟩, h3⟩
theorem StoV.mk {S : List Nat} {w : World} {dv cv lv : Value} {s : Sto} (h : ModV S w (.agg #[dv, cv]) s.mod) (hl : RowsV S w lv s.lv) : StoV S w (.agg #[dv, cv, lv]) s := by
  obtain ⟨h1, h2⟩ := h.parts
  exact ⟨_, _, _, rfl, h1, h2, hl⟩
def zeroSto : Sto := ⟨⟨[], []⟩, []⟩
theorem StoV.zero (S : List Nat) (w : World) : StoV S w (.agg #[.slice none 0 0, .slice none 0 0, .slice none 0 0]) zeroSto :=
  ⟨_, _, _, rfl, ⟨none, 0, rfl, by simp [zeroSto], fun i x h => by simp [zeroSto] at h⟩, ⟨none, 0, rfl, by simp [zeroSto], fun i x h => by simp [zeroSto] at h⟩, ⟨none, 0, rfl, by simp [zeroSto], fun i x h => by simp [zeroSto] at h⟩⟩
/-! ### The laws' comparisons -/



/-! ### New stores -/
def newSto (m : Mod) (D : List Nat) : Sto := if validM m then ⟨m, [ints (fix m.cons D)]⟩ else zeroSto
theorem set3 {w : World} {r : Nat} {t : TypeId} {z0 z1 z2 : Value} (x0 x1 x2 : Value) (h : w.heap[r]? = some (.cells #[z0, z1, z2] t (0, 0))) :
    (((w.setCell ⟨r, 0, none⟩ x0).setCell ⟨r, 1, none⟩ x1).setCell ⟨r, 2, none⟩ x2).heap[r]? = some (.cells #[x0, x1, x2] t (0, 0)) ∧ Gr [r] w (((w.setCell ⟨r, 0, none⟩ x0).setCell ⟨r, 1, none⟩ x1).setCell ⟨r, 2, none⟩ x2) := by
  have h3 := block_cells (cur' := #[]) (block_cells (cur' := #[]) (block_cells (cur' := #[]) h 0 x0) 1 x1) 2 x2
  exact ⟨by simpa using h3, (((Gr.refl _ _).setCell _ _ (.inl (by simp))).setCell _ _ (.inl (by simp))).setCell _ _ (.inl (by simp))⟩
theorem Gr.set3 {a w : World} {r : Nat} (h : Gr [r] a w) (x0 x1 x2 : Value) : Gr [r] a (((w.setCell ⟨r, 0, none⟩ x0).setCell ⟨r, 1, none⟩ x1).setCell ⟨r, 2, none⟩ x2) :=
  ((h.setCell _ _ (.inl (by simp))).setCell _ _ (.inl (by simp))).setCell _ _ (.inl (by simp))
/-- What stands behind a new store's three stores into its result. -/
theorem sto_fin {m : Mod} {w WX : World} {r g : Nat} {x0 x1 vb : Value} {xs : List Int} {t t2 : TypeId} (hM : ModM (fun b => r < b) WX (.agg #[x0, x1]) m) (hN : NumsM (fun b => r < b) WX vb xs) (hL : WX.heap[g]? = some (.cells #[vb] t (0, 0))) (hgr : r < g)
    (hr : WX.heap[r]? = some (.cells #[.slice none 0 0, .slice none 0 0, .slice none 0 0] t2 (0, 0))) (hG : Gr [] w WX) (hwr : w.heap.size ≤ r) :
    (((WX.setCell ⟨r, 0, none⟩ x0).setCell ⟨r, 1, none⟩ x1).setCell ⟨r, 2, none⟩ (.slice (some ⟨g, 0, none⟩) 1 1)).heap[r]? = some (.cells #[x0, x1, .slice (some ⟨g, 0, none⟩) 1 1] t2 (0, 0)) ∧
    (∀ S : List Nat, (∀ b ∈ S, b ≤ r) → StoV S (((WX.setCell ⟨r, 0, none⟩ x0).setCell ⟨r, 1, none⟩ x1).setCell ⟨r, 2, none⟩ (.slice (some ⟨g, 0, none⟩) 1 1)) (.agg #[x0, x1, .slice (some ⟨g, 0, none⟩) 1 1]) ⟨m, [xs]⟩) ∧
    Gr [] w (((WX.setCell ⟨r, 0, none⟩ x0).setCell ⟨r, 1, none⟩ x1).setCell ⟨r, 2, none⟩ (.slice (some ⟨g, 0, none⟩) 1 1)) := by
  obtain ⟨h1, h2⟩ := set3 x0 x1 (.slice (some ⟨g, 0, none⟩) 1 1) hr
  refine ⟨h1, fun S hS => StoV.mk ((hM.gr' (M' := fun b => r < b) h2 (by simp) (fun _ _ h => h)).mod (fun b hb h => by have := hS b hb; omega)) ⟨_, _, rfl, by simp, fun i x hi => ?_⟩, hG.step h2 (fun i hi => .inr (by simp at hi; omega))⟩
  have hi0 : i = 0 := by have := (List.getElem?_eq_some_iff.1 hi).1; simp at this; omega
  subst hi0
  simp at hi; subst hi
  exact ⟨g, 0, vb, rfl, fun h => by have := hS _ h; omega, by have := fld (h2.obj hL (by simp; omega)) 0; simpa using this, (hN.gr' (M' := fun b => r < b) h2 (by simp) (fun _ _ h => h)).nums (fun b hb h => by have := hS b hb; omega)⟩

set_option maxRecDepth 100000 in
set_option maxHeartbeats 4000000 in
theorem newStore_c (m : Mod) (D : List Nat) (mv : Value) (w : World) (hv : ModV [] w mv m) (hVM : VM m D) (hs : m.Small) :
    Calls Try.prog 21 #[mv] w fun e w' => ∃ v', e = .returned v' ∧ (∀ S : List Nat, (∀ b ∈ S, b < w.heap.size) → StoV S w' v' ⟨m, [ints (fix m.cons D)]⟩) ∧ Gr [] w w' := by
  obtain ⟨xo, xc, co, cc, rfl⟩ := hv.slices
  have h20 := heap2 w (.cells #[.slice xo m.doms.length xc, .slice co m.cons.length cc] 29) (.cells #[.slice none 0 0, .slice none 0 0, .slice none 0 0] 32)
  have hg0 : Gr [] w ((w.alloc (.cells #[.slice xo m.doms.length xc, .slice co m.cons.length cc] 29)).alloc (.cells #[.slice none 0 0, .slice none 0 0, .slice none 0 0] 32)) := ((Gr.refl [] w).alloc _).alloc _
  have hs0 : ((w.alloc (.cells #[.slice xo m.doms.length xc, .slice co m.cons.length cc] 29)).alloc (.cells #[.slice none 0 0, .slice none 0 0, .slice none 0 0] 32)).heap.size = w.heap.size + 2 := by simp
  have Hb0 := hid h20.1; have Hr0 := hid h20.2; have Hg0 := hid hg0; have HM := hid (hv.gr hg0); have HVM := hid hVM; have Hs := hid hs
  have fb0 := fld h20.1
  clear hv h20 hg0 hVM hs
  go_enter Try.func21, Try.ntmps21
  go_wp2_with fail
  generalize hW0 : (w.alloc (.cells #[.slice xo m.doms.length xc, .slice co m.cons.length cc] 29)).alloc (.cells #[.slice none 0 0, .slice none 0 0, .slice none 0 0] 32) = w0 at *
  clear hW0
  have HBX : Hid (∀ W, Gr [] w0 W → W.heap[w.heap.size]? = some (.cells #[.slice xo m.doms.length xc, .slice co m.cons.length cc] 29 (0, 0))) := hid fun W h => h.obj Hb0.out (by simp)
  have HRX : Hid (∀ W, Gr [] w0 W → W.heap[w.heap.size + 1]? = some (.cells #[.slice none 0 0, .slice none 0 0, .slice none 0 0] 32 (0, 0))) := hid fun W h => h.obj Hr0.out (by simp)
  have HS : Hid (∀ W, Gr [w.heap.size + 1] w0 W → (W.cell? ⟨w.heap.size, 0, none⟩ = some (.slice xo m.doms.length xc) ∧ W.cell? ⟨w.heap.size, 1, none⟩ = some (.slice co m.cons.length cc)) ∧ Gr [w.heap.size + 1] w0 W) := hid fun W h => ⟨⟨fld (h.obj Hb0.out (by simp)) 0, fld (h.obj Hb0.out (by simp)) 1⟩, h⟩
  have HDn : Hid (Nums [] w0 .i64 (.slice xo m.doms.length xc) (ints D)) := hid (by rw [← HVM.out.doms]; exact (HM.out.parts).1)
  go_region_held_law (fun W => (W.cell? ⟨w.heap.size, 0, none⟩ = some (.slice xo m.doms.length xc) ∧ W.cell? ⟨w.heap.size, 1, none⟩ = some (.slice co m.cons.length cc)) ∧ Gr [w.heap.size + 1] w0 W)
    ((refine HS.out _ ?_; first | exact Gr.any HGa.out | exact Gr.any HGb.out | exact Gr.any ((Gr.refl [] w0).drew) | exact Gr.any (HGa.out.alloc _) | exact Gr.any (HGb.out.alloc _) | exact Gr.set3 (Gr.any HGa.out) _ _ _ | exact Gr.set3 (Gr.any (HGa.out.alloc _)) _ _ _ | exact Gr.set3 (Gr.any (HGb.out.alloc _)) _ _ _ | assumption | (go_split_ands; first | assumption | exact Gr.drew (by assumption) | exact Gr.alloc (by assumption) _)))
    (first
    | (go_simp; go_at_call 44; refine (modCopied_c m _ _ (HM.out.gr (by first | exact (Gr.refl [] w0).drew | exact HGb.out | exact HGb.out.alloc _)) Hs.out).mono ?_; rintro e wa ⟨xoa, xca, coa, cca, rfl, hma, hga⟩; have hgx : Gr [] w0 wa := Gr.trans (by first | exact (Gr.refl [] w0).drew | exact HGb.out | exact HGb.out.alloc _) hga; have HGa := hid hgx; have Hga := hid hga; have HMa : Hid (ModM (fun b => w.heap.size + 1 < b) wa (.agg #[.slice xoa m.doms.length xca, .slice coa m.cons.length cca]) m) := hid (hma.gr' (Gr.refl [] wa) (by simp) (fun b _ h => by have h1 := h.1; (try simp at h1); first | omega | (have := HGb.out.size; omega))); have fba := fld (HBX.out _ hgx); have fra := fld (HRX.out _ hgx); have ffa := fldF (HRX.out _ hgx); have hsa := hgx.size; (try (have frz := fld (HRX.out _ (hgx.alloc (.cells #[.slice vbo (ints (fix m.cons D)).length vbc] 22))); have ffz := fldF (HRX.out _ (hgx.alloc (.cells #[.slice vbo (ints (fix m.cons D)).length vbc] 22))))); clear hga hgx hma; (try dsimp only))
    | (go_simp; go_at_call 45; refine (propagate_c m D _ _ _ (HM.out.gr (by first | exact (Gr.refl [] w0).drew | exact HGa.out)) (HDn.out.gr (by first | exact (Gr.refl [] w0).drew | exact HGa.out)) HVM.out.cons HVM.out.below HVM.out.len.2).mono ?_; rintro e wb ⟨vb, rfl, hob, hgb⟩; obtain ⟨vbo, vbc, rfl⟩ := hob.form; have hgx : Gr [] w0 wb := Gr.trans (by first | exact (Gr.refl [] w0).drew | exact HGa.out) hgb; have HGb := hid hgx; have Hgb := hid hgb; have HNb : Hid (NumsM (fun b => w.heap.size + 1 < b) wb (.slice vbo (ints (fix m.cons D)).length vbc) (ints (fix m.cons D))) := hid (hob.numsM.gr' (Gr.refl [] wb) (by simp) (fun b _ h => by have h1 := h.1; (try simp at h1); first | omega | (have := HGa.out.size; omega))); have fbb := fld (HBX.out _ hgx); have frb := fld (HRX.out _ hgx); have ffb := fldF (HRX.out _ hgx); have hsb := hgx.size; have fry := fld (HRX.out _ (hgx.alloc (.cells #[.slice vbo (ints (fix m.cons D)).length vbc] 22))); have ffy := fldF (HRX.out _ (hgx.alloc (.cells #[.slice vbo (ints (fix m.cons D)).length vbc] 22))); clear hgb hgx hob; (try dsimp only)))
  all_goals
    go_wp2_with fail
    first
    | (obtain ⟨h5, hst, hG⟩ := sto_fin (w := w) (r := w.heap.size + 1) (g := wb.heap.size) (WX := wb.alloc (.cells #[.slice vbo (ints (fix m.cons D)).length vbc] 22)) ((HMa.out.gr' (M' := fun b => w.heap.size + 1 < b) Hgb.out (by simp) (fun _ _ h => h)).gr' (M' := fun b => w.heap.size + 1 < b) ((Gr.refl [] wb).alloc _) (by simp) (fun _ _ h => h)) (HNb.out.gr' (M' := fun b => w.heap.size + 1 < b) ((Gr.refl [] wb).alloc _) (by simp) (fun _ _ h => h)) (heap_alloc_new _ _) (by omega) (HRX.out _ (HGb.out.alloc _)) (Hg0.out.trans (HGb.out.alloc _)) (by omega)
       have flE := fld h5
       refine bodyPost_ret (v := .agg #[.slice xoa m.doms.length xca, .slice coa m.cons.length cca, .slice (some ⟨wb.heap.size, 0, none⟩) 1 1]) (by simp [results, Try.results21, go_sem, flE]) rfl ⟨_, rfl, fun S hS => hst S (fun b hb => by have := hS b hb; omega), hG⟩)
    | (obtain ⟨h5, hst, hG⟩ := sto_fin (w := w) (r := w.heap.size + 1) (g := wa.heap.size) (WX := wa.alloc (.cells #[.slice vbo (ints (fix m.cons D)).length vbc] 22)) (HMa.out.gr' (M' := fun b => w.heap.size + 1 < b) ((Gr.refl [] wa).alloc _) (by simp) (fun _ _ h => h)) ((HNb.out.gr' (M' := fun b => w.heap.size + 1 < b) Hga.out (by simp) (fun _ _ h => h)).gr' (M' := fun b => w.heap.size + 1 < b) ((Gr.refl [] wa).alloc _) (by simp) (fun _ _ h => h)) (heap_alloc_new _ _) (by omega) (HRX.out _ (HGa.out.alloc _)) (Hg0.out.trans (HGa.out.alloc _)) (by omega)
       have flE := fld h5
       refine bodyPost_ret (v := .agg #[.slice xoa m.doms.length xca, .slice coa m.cons.length cca, .slice (some ⟨wa.heap.size, 0, none⟩) 1 1]) (by simp [results, Try.results21, go_sem, flE]) rfl ⟨_, rfl, fun S hS => hst S (fun b hb => by have := hS b hb; omega), hG⟩)
    | (obtain ⟨h5, hst, hG⟩ := sto_fin (w := w) (r := w.heap.size + 1) (g := wb.heap.size) (WX := wa) HMa.out ((HNb.out.gr' (M' := fun b => w.heap.size + 1 < b) ((Gr.refl [] wb).alloc _) (by simp) (fun _ _ h => h)).gr' (M' := fun b => w.heap.size + 1 < b) Hga.out (by simp) (fun _ _ h => h)) (Hga.out.obj (heap_alloc_new _ _) (by simp)) (by omega) (HRX.out _ HGa.out) (Hg0.out.trans HGa.out) (by omega)
       have flE := fld h5
       refine bodyPost_ret (v := .agg #[.slice xoa m.doms.length xca, .slice coa m.cons.length cca, .slice (some ⟨wb.heap.size, 0, none⟩) 1 1]) (by simp [results, Try.results21, go_sem, flE]) rfl ⟨_, rfl, fun S hS => hst S (fun b hb => by have := hS b hb; omega), hG⟩)

end Go.Proofs.Ytihkeihnpiddoaa
