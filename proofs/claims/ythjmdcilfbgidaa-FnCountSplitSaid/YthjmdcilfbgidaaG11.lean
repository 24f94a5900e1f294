/-
  Walks of the generators DrawSolve and DrawCountSolutions.
-/
import Derived.Test.YthjmdcilfbgidaaG10
set_option linter.unusedVariables false
namespace Go.Proofs.Ythjmdcilfbgidaa
open Go.RowKit

/-- A model in memory of the call's own. -/
def DrawPostF (w : World) (e : Ending) (w' : World) : Prop := ∃ (m : Mod) (mv : Value), e = .returned mv ∧ (∀ S : List Nat, (∀ b ∈ S, b < w.heap.size) → ModV S w' mv m) ∧ m.Small ∧ Gr [] w w'
theorem mod_small8 {m : Mod} (h1 : m.doms.length ≤ 4) (h2 : m.cons.length ≤ 8) (h3 : ∀ c ∈ m.cons, c.Small) : m.Small := ⟨by omega, by omega, fun c hc => h3 c hc⟩
set_option maxRecDepth 100000 in
set_option maxHeartbeats 1000000 in
theorem DrawSolve_c (v : Value) (bs : List Int) (w : World) (ao : Option Addr) (cap : Nat) (hv : v = .slice ao bs.length cap) (hlen : bs.length ≤ 9223372036854775807) (hcap : bs.length ≤ cap) (hc : Cells [] w .u8 ao bs) (hb : ∀ b ∈ bs, 0 ≤ b ∧ b ≤ 255) :
    Calls Try.prog 80 #[v] w (DrawPostF w) := by
  subst hv
  have Hc := hid hc; have Hb := hid hb; clear hc hb
  have hg0 : Gr [] w (w.alloc (.cells #[.slice none 0 0, .slice none 0 0] 26)) := (Gr.refl _ _).alloc _
  have hr0 : (w.alloc (.cells #[.slice none 0 0, .slice none 0 0] 26)).heap[w.heap.size]? = some (.cells #[.slice none 0 0, .slice none 0 0] 26 (0, 0)) := heap_alloc_new _ _
  have Hr0 := hid hr0; have Hg0 := hid hg0; clear hr0 hg0
  go_enter Try.func80, Try.ntmps80
  go_wp2_with fail
  have hcall := newReader_c _ bs _ ao cap rfl hlen hcap (Hc.out.gr Hg0.out) Hb.out
  (with_reducible refine hcall.mono ?_)
  clear hcall
  rintro e w1 ⟨⟨R, cs, rfl, hR, hrd1⟩, hg1⟩
  simp only [World.size_alloc] at hR
  have hr1 := hg1.obj Hr0.out (by simp)
  have HG1 := hid (Hg0.out.trans hg1)
  have Hr1 := hid hr1
  clear hg1 hr1
  go_wp2_with fail
  have hcall := pick_c R cs 0 3 _ hrd1 (by omega) (by omega)
  (with_reducible refine hcall.mono ?_)
  clear hcall
  rintro e w2 ⟨⟨r2, rfl, hr20, hr2n⟩, hrd2, hg2⟩
  have HG2 : Hid (Gr [] w w2) := hid (HG1.out.step hg2 (fun i hi => .inr (by simp at hi; omega)))
  have Hr2 := hid (hg2.obj Hr1.out (by simp; omega))
  have hs2 := lt_of_block Hr2.out
  clear hg2 hr20 hr2n Hr1
  cases h0 : (r2 == 0)
  · go_wp2_with fail
    have hcall := anyModel_c R cs (0 + 1) _ hrd2 (by omega)
    (with_reducible refine hcall.mono ?_)
    clear hcall
    rintro e w3 ⟨m, M, bo, ac, co, cc, rfl, hown, hdM, ⟨hM1, hM2⟩, hcs, ⟨hd1, hd4⟩, hc4, htv, hrd3, hg3⟩
    have hr3 := hg3.obj Hr2.out (by simp; omega)
    have Hown := hid hown; have Hcs := hid hcs; have Htv := hid htv; have Hr3 := hid hr3
    have HG : Hid (Gr [] w w3) := hid (HG2.out.step hg3 (fun i hi => .inr (by simp at hi; omega)))
    clear hown hcs htv hr3 hg3 hrd2 hrd3
    go_wp2_with ((with_reducible show wpList _ _ _ (⟨none, Op.store _ (Operand.tmp 2) (Operand.tmp 12), _, _, _, none⟩ :: _) _ _); refine wp_storeT 26 2 12 w.heap.size #[.slice bo m.doms.length ac, .slice co m.cons.length cc] 26 #[.slice none 0 0, .slice none 0 0] Hr3.out ⟨sizeM, rfl, rfl, rfl, one2 _ _ _ _ _ _⟩ ?_; intro wE hbE hgE)
    have flE := fld hbE
    refine bodyPost_ret (v := .agg #[.slice bo m.doms.length ac, .slice co m.cons.length cc]) ?_ rfl ?_
    · simp [results, Try.results80, go_sem, flE]
    · exact ⟨m, _, rfl, fun S hS => ModPost.modv (fun b hb => .inl (by have := hS b hb; omega)) hM1 (Hown.out.gr hgE (by simp; omega)) (Hcs.out.gr elCon_ok hgE (by simp; omega)), mod_small hd4 hc4 Htv.out, HG.out.step hgE (fun i hi => .inr (by simp at hi; omega))⟩
  · go_wp2_with fail
    have hcall := hardModel_c R cs (0 + 1) _ hrd2 (by omega)
    (with_reducible refine hcall.mono ?_)
    clear hcall
    rintro e w3 ⟨m, M, bo, ac, co, cc, rfl, hown, hdM, ⟨hM1, hM2⟩, hcs, ⟨hd1, hd4⟩, hc4, htv, hrd3, hg3⟩
    have hr3 := hg3.obj Hr2.out (by simp; omega)
    have Hown := hid hown; have Hcs := hid hcs; have Htv := hid htv; have Hr3 := hid hr3
    have HG : Hid (Gr [] w w3) := hid (HG2.out.step hg3 (fun i hi => .inr (by simp at hi; omega)))
    clear hown hcs htv hr3 hg3 hrd2 hrd3
    go_wp2_with ((with_reducible show wpList _ _ _ (⟨none, Op.store _ (Operand.tmp 2) (Operand.tmp 10), _, _, _, none⟩ :: _) _ _); refine wp_storeT 26 2 10 w.heap.size #[.slice bo m.doms.length ac, .slice co m.cons.length cc] 26 #[.slice none 0 0, .slice none 0 0] Hr3.out ⟨sizeM, rfl, rfl, rfl, one2 _ _ _ _ _ _⟩ ?_; intro wE hbE hgE)
    have flE := fld hbE
    refine bodyPost_ret (v := .agg #[.slice bo m.doms.length ac, .slice co m.cons.length cc]) ?_ rfl ?_
    · simp [results, Try.results80, go_sem, flE]
    · exact ⟨m, _, rfl, fun S hS => ModPost.modv (fun b hb => .inl (by have := hS b hb; omega)) hM1 (Hown.out.gr hgE (by simp; omega)) (Hcs.out.gr elCon_ok hgE (by simp; omega)), mod_small8 hd4 hc4 (fun c hc => (Htv.out c hc).1.small), HG.out.step hgE (fun i hi => .inr (by simp at hi; omega))⟩

theorem ModV.two {S : List Nat} {w : World} {v : Value} {m : Mod} (h : ModV S w v m) : ∃ a n b c k d, v = .agg #[.slice a n b, .slice c k d] := by
  obtain ⟨dv, cv, rfl, ⟨ao, ac, rfl, _⟩, ⟨co, cc, rfl, _⟩⟩ := h
  exact ⟨_, _, _, _, _, _, rfl⟩
set_option maxRecDepth 100000 in
theorem DrawCountSolutions_c (v : Value) (bs : List Int) (w : World) (ao : Option Addr) (cap : Nat) (hv : v = .slice ao bs.length cap) (hlen : bs.length ≤ 9223372036854775807) (hcap : bs.length ≤ cap) (hc : Cells [] w .u8 ao bs) (hb : ∀ b ∈ bs, 0 ≤ b ∧ b ≤ 255) :
    Calls Try.prog 35 #[v] w (DrawPost w) := by
  subst hv
  have Hc := hid hc; have Hb := hid hb; clear hc hb
  have hg0 : Gr [] w (w.alloc (.cells #[.slice none 0 0, .slice none 0 0] 26)) := (Gr.refl _ _).alloc _
  have hr0 : (w.alloc (.cells #[.slice none 0 0, .slice none 0 0] 26)).heap[w.heap.size]? = some (.cells #[.slice none 0 0, .slice none 0 0] 26 (0, 0)) := heap_alloc_new _ _
  have Hr0 := hid hr0; have Hg0 := hid hg0; clear hr0 hg0
  go_enter Try.func35, Try.ntmps35
  go_wp2_with fail
  have hcall := DrawSolve_c _ bs _ ao cap rfl hlen hcap (Hc.out.gr Hg0.out) Hb.out
  (with_reducible refine hcall.mono ?_)
  clear hcall
  rintro e w1 ⟨m, mv, rfl, hmv, hms, hg1⟩
  obtain ⟨a, n, b, c, k, d, rfl⟩ := (hmv [] (by simp)).two
  have hr1 := hg1.obj Hr0.out (by simp)
  have Hmv := hid (hmv [w.heap.size] (by simp)); have Hms := hid hms; have Hr1 := hid hr1
  have HG := hid (Hg0.out.trans hg1)
  clear hmv hms hr1 hg1
  go_wp2_with ((with_reducible show wpList _ _ _ (⟨none, Op.store _ (Operand.tmp 2) (Operand.tmp 4), _, _, _, none⟩ :: _) _ _); refine wp_storeT 26 2 4 w.heap.size #[.slice a n b, .slice c k d] 26 #[.slice none 0 0, .slice none 0 0] Hr1.out ⟨sizeM, rfl, rfl, rfl, one2 _ _ _ _ _ _⟩ ?_; intro wE hbE hgE)
  have flE := fld hbE
  refine bodyPost_ret (v := .agg #[.slice a n b, .slice c k d]) ?_ rfl ?_
  · simp [results, Try.results35, go_sem, flE]
  · exact ⟨m, _, rfl, (Hmv.out.gr hgE).sub0, Hms.out, HG.out.step hgE (fun i hi => .inr (by simp at hi; omega))⟩
end Go.Proofs.Ythjmdcilfbgidaa
