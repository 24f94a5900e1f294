/-
  Walk of DrawDecide.
-/
import Derived.Test.YtihkeihnpiddoaaGreatDAs
set_option linter.unusedVariables false
set_option linter.unusedSimpArgs false
namespace Go.Proofs.YtihkeihnpiddoaaGreat
open Go.RowKit

theorem decB_mk {s : Sto} {k : Lit} (hv : validS s = true) (hk : litOk s.mod.doms.length k = true) (h12 : s.lv.length ≠ 12) : decB s k = true := by
  unfold decB; rw [hv, hk]; simp [h12]
theorem decB_step {s : Sto} {l k : Lit} {C : List Nat} (hl : decB s l = true) (hk : litOk s.mod.doms.length k = true) (hC : Cur s C) : decB (decS s l C) k = !decide (s.lv.length + 1 = 12) := by
  have h1 : (decS s l C).lv.length = s.lv.length + 1 := by rw [decS_eq]; simp
  have h2 : litOk (decS s l C).mod.doms.length k = true := hk
  unfold decB
  rw [decS_valid hl hC, h2, h1]; rfl
def DrawDecPost (w : World) (e : Ending) (w' : World) : Prop :=
  ∃ (s : Sto) (sv : Value) (l : Lit), e = .returned (.tuple #[sv, .agg #[.int .i64 l.var, .int .i64 l.val, .bool l.neg]]) ∧ StoV [] w' sv s ∧ s.mod.Small ∧ s.mod.doms.length ≤ 4 ∧ Gr [] w w'


set_option maxRecDepth 100000 in
set_option maxHeartbeats 8000000 in
theorem DrawDecide_c (v : Value) (bs : List Int) (w : World) (ao : Option Addr) (cap : Nat) (hv : v = .slice ao bs.length cap) (hlen : bs.length ≤ 9223372036854775807) (hcap : bs.length ≤ cap) (hc : Cells [] w .u8 ao bs) (hb : ∀ b ∈ bs, 0 ≤ b ∧ b ≤ 255) :
    Calls Tryz.prog 7 #[v] w (DrawDecPost w) := by
  subst hv
  have Hc := hid hc; have Hb := hid hb; clear hc hb
  have h20 := heap2 w (.cells #[.slice none 0 0, .slice none 0 0, .slice none 0 0] 29) (.cells #[.int .i64 0, .int .i64 0, .bool false] 31)
  have hg0 : Gr [] w ((w.alloc (.cells #[.slice none 0 0, .slice none 0 0, .slice none 0 0] 29)).alloc (.cells #[.int .i64 0, .int .i64 0, .bool false] 31)) := ((Gr.refl [] w).alloc _).alloc _
  have hs0 : ((w.alloc (.cells #[.slice none 0 0, .slice none 0 0, .slice none 0 0] 29)).alloc (.cells #[.int .i64 0, .int .i64 0, .bool false] 31)).heap.size = w.heap.size + 2 := by simp
  have Ha0 := hid h20.1; have Hl0 := hid h20.2; have Hg0 := hid hg0; have Hs0 := hid hs0
  clear h20 hg0 hs0
  go_enter Tryz.func7, Tryz.ntmps7
  go_wp2_with fail
  have hcall := newReader_c _ bs _ ao cap rfl hlen hcap (Hc.out.gr Hg0.out) Hb.out
  (with_reducible refine hcall.mono ?_)
  clear hcall
  rintro e w1 ⟨⟨R, cs, rfl, hR, hrd1⟩, hg1⟩
  have hs0 := Hs0.out
  have hs1 := hg1.size
  have hR1 := hrd1.lt
  have hR2 : w.heap.size + 2 ≤ R := by omega
  have Ha1 := hid (hg1.obj Ha0.out (by simp)); have Hl1 := hid (hg1.obj Hl0.out (by simp)); have Hg1 := hid (Hg0.out.trans hg1); have Hrd1 := hid hrd1
  clear hg1 hrd1
  go_wp2_with fail
  have hcall := anyStore_c R cs 0 _ Hrd1.out (by omega)
  (with_reducible refine hcall.mono ?_)
  clear hcall
  rintro e w2 ⟨s, sv, rfl, hst, hsm, hd4, hrd2, hg2⟩
  have hs2 := hg2.size
  obtain ⟨xo, xc, yo, yc, lo, lc, rfl, -, -⟩ := (hst [] (by simp)).open
  have ha3 : Gr [] w2 (w2.alloc (.cells #[.slice xo s.mod.doms.length xc, .slice yo s.mod.cons.length yc, .slice lo s.lv.length lc] 29)) := (Gr.refl _ _).alloc _
  have hb3 := sto3 w2 (.slice xo s.mod.doms.length xc) (.slice yo s.mod.cons.length yc) (.slice lo s.lv.length lc)
  have hs3 : (w2.alloc (.cells #[.slice xo s.mod.doms.length xc, .slice yo s.mod.cons.length yc, .slice lo s.lv.length lc] 29)).heap.size = w2.heap.size + 1 := by simp
  have Ha3 := hid (ha3.obj (hg2.obj Ha1.out (by simp; omega)) (by simp)); have Hl3 := hid (ha3.obj (hg2.obj Hl1.out (by simp; omega)) (by simp)); have HB3 := hid hb3
  have Hst3 := hid ((hst [R, w.heap.size, w.heap.size + 1] (by simp; omega)).gr ha3.any)
  have Hrd3 := hid (hrd2.gr ha3)
  have Hg3 : Hid (Gr [] w (w2.alloc (.cells #[.slice xo s.mod.doms.length xc, .slice yo s.mod.cons.length yc, .slice lo s.lv.length lc] 29))) := hid ((Hg1.out.step hg2 (fun i hi => .inr (by simp at hi; omega))).trans ha3)
  have Hsm := hid hsm; have Hd4 := hid hd4
  clear hst ha3 hb3 hg2 hrd2 hsm Ha1 Hl1 Hg1 Hrd1 Ha0 Hl0 Hg0 hs0
  go_wp2_with fail
  generalize hW3 : w2.alloc (.cells #[.slice xo s.mod.doms.length xc, .slice yo s.mod.cons.length yc, .slice lo s.lv.length lc] 29) = w3 at *
  clear hW3
  have HBX : Hid (∀ W, Gr [R, w.heap.size, w.heap.size + 1] w3 W → W.heap[w2.heap.size]? = some (.cells #[.slice xo s.mod.doms.length xc, .slice yo s.mod.cons.length yc, .slice lo s.lv.length lc] 29 (0, 0))) := hid fun W h => h.obj HB3.out (by simp; omega)
  have HS : Hid (∀ W, Gr [R, w.heap.size, w.heap.size + 1] w3 W → (W.cell? ⟨w2.heap.size, 0, none⟩ = some (.slice xo s.mod.doms.length xc) ∧ W.cell? ⟨w2.heap.size, 1, none⟩ = some (.slice yo s.mod.cons.length yc) ∧ W.cell? ⟨w2.heap.size, 2, none⟩ = some (.slice lo s.lv.length lc)) ∧ Gr [R, w.heap.size, w.heap.size + 1] w3 W) :=
    hid fun W h => ⟨⟨fld (HBX.out W h) 0, fld (HBX.out W h) 1, fld (HBX.out W h) 2⟩, h⟩
  have HG0 : Hid (Gr [R, w.heap.size, w.heap.size + 1] w3 w3.drew) := hid (Gr.refl _ w3).drew
  have HRD0 : Hid (Rd w3.drew R cs (0 + 2000)) := hid Hrd3.out.drew
  have HFA0 : Hid (w3.drew.heap[w.heap.size]? = some (.cells #[.slice none 0 0, .slice none 0 0, .slice none 0 0] 29 (0, 0))) := Ha3
  have HFL0 : Hid (w3.drew.heap[w.heap.size + 1]? = some (.cells #[.int .i64 0, .int .i64 0, .bool false] 31 (0, 0))) := Hl3
  have fa := fld HFA0.out; have ffa := fldF HFA0.out; have fl := fld HFL0.out; have ffl := fldF HFL0.out
  clear Hrd3
  go_region_held_law (fun W => (W.cell? ⟨w2.heap.size, 0, none⟩ = some (.slice xo s.mod.doms.length xc) ∧ W.cell? ⟨w2.heap.size, 1, none⟩ = some (.slice yo s.mod.cons.length yc) ∧ W.cell? ⟨w2.heap.size, 2, none⟩ = some (.slice lo s.lv.length lc)) ∧ Gr [R, w.heap.size, w.heap.size + 1] w3 W)
    ((refine HS.out _ ?_; with_reducible first | exact HG0.out | exact HG0.out.set3s (by simp) _ _ _ | exact (HG0.out.set3s (by simp) _ _ _).set3s (by simp) _ _ _ | exact HG1.out | exact HG1.out.set3s (by simp) _ _ _ | exact (HG1.out.set3s (by simp) _ _ _).set3s (by simp) _ _ _ | exact HG2.out | exact HG2.out.set3s (by simp) _ _ _ | exact (HG2.out.set3s (by simp) _ _ _).set3s (by simp) _ _ _ | exact HG3.out | exact HG3.out.set3s (by simp) _ _ _ | exact (HG3.out.set3s (by simp) _ _ _).set3s (by simp) _ _ _ | exact HG4.out | exact HG4.out.set3s (by simp) _ _ _ | exact (HG4.out.set3s (by simp) _ _ _).set3s (by simp) _ _ _ | assumption))
    (first
    | (have hrdx := HRD0.out; clear hrdx; go_simp; go_at_call 36; have hcall := pick_c R cs _ (IntKind.i64.wrap ((s.mod.doms.length : Int) + 1)) _ HRD0.out (by omega) (by first | omega | (have := Hd4.out; rw [IntKind.wrap_i64]; omega)); (with_reducible refine hcall.mono ?_); clear hcall; rintro e wa ⟨⟨r1, rfl, hr⟩, hrdx, hgx⟩; have HG1 := hid (HG0.out.trans (hgx.subL (by simp))); have HFA1 := hid (hgx.obj HFA0.out (by first | (simp; done) | (simp; omega))); have HFL1 := hid (hgx.obj HFL0.out (by first | (simp; done) | (simp; omega))); have HRD1 := hid hrdx; clear fa ffa fl ffl HRD0 HG0 HFA0 HFL0 hrdx hgx hr; have fa := fld HFA1.out; have ffa := fldF HFA1.out; have fl := fld HFL1.out; have ffl := fldF HFL1.out; (try dsimp only))
    | (have hrdx := HRD1.out; clear hrdx; go_simp; go_at_call 36; have hcall := pick_c R cs _ 2 _ HRD1.out (by omega) (by first | omega | (have := Hd4.out; rw [IntKind.wrap_i64]; omega)); (with_reducible refine hcall.mono ?_); clear hcall; rintro e wb ⟨⟨r2, rfl, hr⟩, hrdx, hgx⟩; have HG2 := hid (HG1.out.trans (hgx.subL (by simp))); have HFA2 := hid (hgx.obj HFA1.out (by first | (simp; done) | (simp; omega))); have HFL2 := hid (hgx.obj HFL1.out (by first | (simp; done) | (simp; omega))); have HRD2 := hid hrdx; clear fa ffa fl ffl HRD1 HG1 HFA1 HFL1 hrdx hgx hr; have fa := fld HFA2.out; have ffa := fldF HFA2.out; have fl := fld HFL2.out; have ffl := fldF HFL2.out; (try dsimp only))
    | (have hrdx := HRD2.out; clear hrdx; go_simp; go_at_call 36; have hcall := pick_c R cs _ 7 _ HRD2.out (by omega) (by first | omega | (have := Hd4.out; rw [IntKind.wrap_i64]; omega)); (with_reducible refine hcall.mono ?_); clear hcall; rintro e wc ⟨⟨r3, rfl, hr⟩, hrdx, hgx⟩; have HG3 := hid (HG2.out.trans (hgx.subL (by simp))); have HFA3 := hid (hgx.obj HFA2.out (by first | (simp; done) | (simp; omega))); have HFL3 := hid (hgx.obj HFL2.out (by first | (simp; done) | (simp; omega))); have HRD3 := hid hrdx; clear fa ffa fl ffl HRD2 HG2 HFA2 HFL2 hrdx hgx hr; have fa := fld HFA3.out; have ffa := fldF HFA3.out; have fl := fld HFL3.out; have ffl := fldF HFL3.out; (try dsimp only))
    | (have hrdx := HRD3.out; clear hrdx; go_simp; go_at_call 36; have hcall := pick_c R cs _ 2 _ HRD3.out (by omega) (by first | omega | (have := Hd4.out; rw [IntKind.wrap_i64]; omega)); (with_reducible refine hcall.mono ?_); clear hcall; rintro e wd ⟨⟨r4, rfl, hr⟩, hrdx, hgx⟩; have HG4 := hid (HG3.out.trans (hgx.subL (by simp))); have HFA4 := hid (hgx.obj HFA3.out (by first | (simp; done) | (simp; omega))); have HFL4 := hid (hgx.obj HFL3.out (by first | (simp; done) | (simp; omega))); have HRD4 := hid hrdx; clear fa ffa fl ffl HRD3 HG3 HFA3 HFL3 hrdx hgx hr; have fa := fld HFA4.out; have ffa := fldF HFA4.out; have fl := fld HFL4.out; have ffl := fldF HFL4.out; (try dsimp only)))
  all_goals
    go_wp2_with fail
    obtain ⟨h5, hG5⟩ := set3 (.slice xo s.mod.doms.length xc) (.slice yo s.mod.cons.length yc) (.slice lo s.lv.length lc) HFA4.out
    obtain ⟨h6, hG6⟩ := set3 (.int .i64 (IntKind.i64.wrap (r1 - r2))) (.int .i64 r3) (.bool (r4 == 0)) (hG5.obj HFL4.out (by first | (simp; done) | (simp; omega)))
    have hA := hG6.obj h5 (by first | (simp; done) | (simp; omega))
    have flA := fld hA; have flL := fld h6
    have hGE := (HG4.out.trans (hG5.subL (by simp))).trans (hG6.subL (by simp))
    refine bodyPost_ret (v := .tuple #[.agg #[.slice xo s.mod.doms.length xc, .slice yo s.mod.cons.length yc, .slice lo s.lv.length lc], .agg #[.int .i64 (IntKind.i64.wrap (r1 - r2)), .int .i64 r3, .bool (r4 == 0)]]) (by simp [results, Tryz.results7, go_sem, flA, flL]) rfl ⟨s, _, ⟨_, _, _⟩, rfl, (Hst3.out.gr hGE).sub (by simp), Hsm.out, Hd4.out, Hg3.out.step hGE (fun i hi => .inr (by simp at hi; omega))⟩

end Go.Proofs.YtihkeihnpiddoaaGreat
