/-
  Walk of FnDecideOrder.
-/
import Derived.Test.YtihkeihnpiddoaaGreatDDrD
import Derived.Test.YtihkeihnpiddoaaGreatDSy4ToIsB
import Derived.Deep.RegionHeldLaw
set_option linter.unusedVariables false
set_option linter.unusedSimpArgs false
namespace Go.Proofs.YtihkeihnpiddoaaGreat
open Go.RowKit


set_option maxRecDepth 100000 in
set_option maxHeartbeats 8000000 in
theorem FnDecideOrder_c (code : Value) (bs : List Int) (ao : Option Addr) (cap : Nat) (bo : Option Addr) (ml mc : Nat) (w : World) (hv : code = .slice ao bs.length cap) (hlen : bs.length ≤ 9223372036854775807) (hcap : bs.length ≤ cap) (hc : Cells [] w .u8 ao bs) (hb : ∀ b ∈ bs, 0 ≤ b ∧ b ≤ 255) (hml : ml ≤ 9223372036854775807) :
    Calls Tryz.prog 3 #[code, .slice bo ml mc] w (fun e w' => e = .returned (.bool true) ∧ Gr [] w w') := by
  subst hv
  have Hc := hid hc; have Hb := hid hb; clear hc hb
  by_cases hbig : 1048576 < bs.length
  · go_enter Tryz.func3, Tryz.ntmps3
    go_wp2_with fail
    go_ret
    exact ⟨rfl, Gr.refl _ _⟩
  have hbig' : decide ((1048576 : Int) < (bs.length : Int)) = false := by simp; omega
  by_cases hbig2 : 1048576 < ml
  · go_enter Tryz.func3, Tryz.ntmps3
    go_wp2_with fail
    go_ret
    exact ⟨rfl, Gr.refl _ _⟩
  have hbig2' : decide ((1048576 : Int) < (ml : Int)) = false := by simp; omega
  go_enter Tryz.func3, Tryz.ntmps3
  go_wp2_with fail
  have hcall := DrawDecide_c _ bs w ao cap rfl hlen hcap Hc.out Hb.out
  (with_reducible refine hcall.mono ?_)
  clear hcall
  rintro e w1 ⟨s, sv, l, rfl, hst, hsm, hd4, hg1⟩
  obtain ⟨xo, xc, yo, yc, lo, lc, rfl, -, -⟩ := hst.open
  have h20 := heap2 w1 (.cells #[.slice xo s.mod.doms.length xc, .slice yo s.mod.cons.length yc, .slice lo s.lv.length lc] 29) (.cells #[.int .i64 l.var, .int .i64 l.val, .bool l.neg] 31)
  have hg20 : Gr [] w1 ((w1.alloc (.cells #[.slice xo s.mod.doms.length xc, .slice yo s.mod.cons.length yc, .slice lo s.lv.length lc] 29)).alloc (.cells #[.int .i64 l.var, .int .i64 l.val, .bool l.neg] 31)) := ((Gr.refl [] w1).alloc _).alloc _
  obtain ⟨C, hC⟩ := cur_any s
  have HB2 := hid h20.1; have HL2 := hid h20.2; have Hst := hid (hst.gr hg20); have Hsm := hid hsm; have Hd4 := hid hd4; have HG2 := hid (hg1.trans hg20); have HC := hid hC
  clear hst hsm hd4 hg1 hbig hbig2 h20 hg20 hC
  go_wp2_with fail
  generalize hW2 : (w1.alloc (.cells #[.slice xo s.mod.doms.length xc, .slice yo s.mod.cons.length yc, .slice lo s.lv.length lc] 29)).alloc (.cells #[.int .i64 l.var, .int .i64 l.val, .bool l.neg] 31) = w2 at *
  clear hW2
  have HBX : Hid (∀ W, Gr [] w2 W → W.heap[w1.heap.size]? = some (.cells #[.slice xo s.mod.doms.length xc, .slice yo s.mod.cons.length yc, .slice lo s.lv.length lc] 29 (0, 0))) := hid fun W h => h.obj HB2.out (by simp)
  have HLX : Hid (∀ W, Gr [] w2 W → W.heap[w1.heap.size + 1]? = some (.cells #[.int .i64 l.var, .int .i64 l.val, .bool l.neg] 31 (0, 0))) := hid fun W h => h.obj HL2.out (by simp)
  have hcall := Decide_c s l C _ _ Hst.out Hsm.out HC.out
  (with_reducible refine hcall.mono ?_)
  clear hcall
  rintro e w3 ⟨xv, rfl, hx3, hg3⟩
  obtain ⟨po, pc, qo, qc, ro, rc, rfl, -, -⟩ := hx3.open
  have ha4 : Gr [] w3 (w3.alloc (.cells #[.slice po (decR s l C).mod.doms.length pc, .slice qo (decR s l C).mod.cons.length qc, .slice ro (decR s l C).lv.length rc] 29)) := (Gr.refl _ _).alloc _
  have hx4 := sto3 w3 (.slice po (decR s l C).mod.doms.length pc) (.slice qo (decR s l C).mod.cons.length qc) (.slice ro (decR s l C).lv.length rc)
  have HX4 := hid hx4; have HS4 := hid (hx3.gr ha4); have HG4 := hid (hg3.trans ha4)
  have fb4 := fld (HBX.out _ (hg3.trans ha4)); have fl4 := fld (HLX.out _ (hg3.trans ha4))
  clear ha4 hx4 hx3 hg3
  go_wp2_with fail
  generalize hW4 : w3.alloc (.cells #[.slice po (decR s l C).mod.doms.length pc, .slice qo (decR s l C).mod.cons.length qc, .slice ro (decR s l C).lv.length rc] 29) = w4 at *
  clear hW4
  have hcall := specDecide_c s l C _ _ (Hst.out.gr HG4.out) Hsm.out HC.out
  (with_reducible refine hcall.mono ?_)
  clear hcall
  rintro e w5 ⟨wv, rfl, hx5, -, hg5⟩
  obtain ⟨po', pc', qo', qc', ro', rc', rfl, -, -⟩ := hx5.open
  have ha6 : Gr [] w5 (w5.alloc (.cells #[.slice po' (decR s l C).mod.doms.length pc', .slice qo' (decR s l C).mod.cons.length qc', .slice ro' (decR s l C).lv.length rc'] 29)) := (Gr.refl _ _).alloc _
  have hx6 := sto3 w5 (.slice po' (decR s l C).mod.doms.length pc') (.slice qo' (decR s l C).mod.cons.length qc') (.slice ro' (decR s l C).lv.length rc')
  have HY6 := hid hx6; have HT6 := hid (hx5.gr ha6); have HG46 := hid (hg5.trans ha6)
  have HX6 := hid ((hg5.trans ha6).obj HX4.out (by simp))
  have HS6 := hid (HS4.out.gr (hg5.trans ha6)); have HG6 := hid (HG4.out.trans (hg5.trans ha6))
  clear ha6 hx6 hx5 hg5 fb4 fl4
  have fx6 := fld HX6.out; have fy6 := fld HY6.out
  cases hdb : decB s l
  · go_wp2_with fail
    have hcall := equalStores_t (decR s l C) _ _ _ HS6.out HT6.out
    (with_reducible refine hcall.mono ?_)
    clear hcall
    rintro e w7 ⟨rfl, hg7⟩
    have fx7 := fld (hg7.obj HX6.out (by simp)); have fy7 := fld (hg7.obj HY6.out (by simp))
    have HG7 := hid hg7
    clear hg7 fx6 fy6
    go_wp2_with fail
    have hcall := equalStores_t (decR s l C) _ _ _ (HS6.out.gr HG7.out) (HT6.out.gr HG7.out)
    (with_reducible refine hcall.mono ?_)
    clear hcall
    rintro e w8 ⟨rfl, hg8⟩
    go_wp2_with fail
    go_ret
    exact ⟨rfl, ((HG2.out.trans HG6.out).trans HG7.out).trans hg8⟩
  · have hdr := decR_of (C := C) hdb
    have Hdb := hid hdb
    obtain ⟨hval, hlok, h12⟩ := decB_lv hdb
    have hcur := HC.out hval
    have hn := hcur.len; have hn4 := hcur.small
    have HCu := hid hcur; have Hval := hid hval; have Hlok := hid hlok; have Hn := hid hn
    rw [hdr] at HX6 HS6 HT6 HY6 HG6 HG46 fx6 fy6 ⊢
    have hnd : 1 ≤ s.mod.doms.length := by omega
    have hnd4 : s.mod.doms.length ≤ 4 := by omega
    clear hdb hdr hval hlok hcur hn hn4
    go_wp2_with fail
    have hcall := equalStores_t (decS s l C) _ _ _ HS6.out HT6.out
    (with_reducible refine hcall.mono ?_)
    clear hcall
    rintro e w7 ⟨rfl, hg7⟩
    have ha8 : Gr [] w7 (w7.alloc (.cells #[.int .i64 ((ml : Int) % (s.mod.doms.length : Int)), .int .i64 ((ml : Int) % 6), .bool (decide (1 < (ml : Int) % 4))] 31)) := (Gr.refl _ _).alloc _
    have hk8 : (w7.alloc (.cells #[.int .i64 ((ml : Int) % (s.mod.doms.length : Int)), .int .i64 ((ml : Int) % 6), .bool (decide (1 < (ml : Int) % 4))] 31)).heap[w7.heap.size]? = some (.cells #[.int .i64 ((ml : Int) % (s.mod.doms.length : Int)), .int .i64 ((ml : Int) % 6), .bool (decide (1 < (ml : Int) % 4))] 31 (0, 0)) := heap_alloc_new _ _
    have HG8 := hid (HG6.out.trans (hg7.trans ha8))
    have HX8 := hid ((hg7.trans ha8).obj HX6.out (by simp)); have HS8 := hid (HS6.out.gr (hg7.trans ha8)); have HK8 := hid hk8
    have fb7 := fld (HBX.out _ (HG6.out.trans hg7)); have fx8 := fld HX8.out; have fl8 := fld (HLX.out _ HG8.out); have fk8 := fld hk8; have fb8 := fld (HBX.out _ HG8.out)
    obtain ⟨k, hk⟩ : ∃ k : Lit, k = ⟨(ml : Int) % (s.mod.doms.length : Int), (ml : Int) % 6, decide (1 < (ml : Int) % 4)⟩ := ⟨_, rfl⟩
    have hkok : litOk (s.mod.doms.length : Int) k = true := by
      rw [hk]
      have h1 := Int.emod_nonneg (ml : Int) (b := (s.mod.doms.length : Int)) (by omega)
      have h2 := Int.emod_lt_of_pos (ml : Int) (b := (s.mod.doms.length : Int)) (by omega)
      exact litOk_iff.2 ⟨⟨h1, by dsimp only; omega⟩, by dsimp only; omega⟩
    have Hkk := hid hk; have Hkok := hid hkok
    have HB1 : Hid (decB (decS s l C) k = !decide (s.lv.length + 1 = 12)) := hid (decB_step Hdb.out hkok HCu.out)
    have HBk : Hid (decB s k = true) := hid (decB_mk Hval.out hkok h12)
    have HB2' : Hid (decB (decS s k C) l = !decide (s.lv.length + 1 = 12)) := hid (decB_step HBk.out Hlok.out HCu.out)
    obtain ⟨bb, hbb⟩ : ∃ bb, bb = !decide (s.lv.length + 1 = 12) := ⟨_, rfl⟩
    rw [← hbb] at HB1 HB2'
    clear hg7 fx6 fy6 ha8 hk8 hk hkok hbb
    go_wp2_with fail
    generalize hW8 : w7.alloc (.cells #[.int .i64 ((ml : Int) % (s.mod.doms.length : Int)), .int .i64 ((ml : Int) % 6), .bool (decide (1 < (ml : Int) % 4))] 31) = w8 at *
    clear hW8
    have hcall := Decide_c (decS s l C) k (nxt s l C) _ w8 HS8.out Hsm.out (fun _ => decS_cur Hdb.out HCu.out)
    rw [HB1.out] at hcall
    rw [Hkk.out] at hcall
    (with_reducible refine hcall.mono ?_)
    clear hcall
    rw [← Hkk.out]
    rintro e w9 ⟨av, rfl, ha9, hg9⟩
    obtain ⟨a1o, a1c, a2o, a2c, a3o, a3c, rfl, -, -⟩ := ha9.open
    have hb10 : Gr [] w9 (w9.alloc (.cells #[.slice a1o (decR (decS s l C) k (nxt s l C)).mod.doms.length a1c, .slice a2o (decR (decS s l C) k (nxt s l C)).mod.cons.length a2c, .slice a3o (decR (decS s l C) k (nxt s l C)).lv.length a3c] 29)) := (Gr.refl _ _).alloc _
    have hx10 := sto3 w9 (.slice a1o (decR (decS s l C) k (nxt s l C)).mod.doms.length a1c) (.slice a2o (decR (decS s l C) k (nxt s l C)).mod.cons.length a2c) (.slice a3o (decR (decS s l C) k (nxt s l C)).lv.length a3c)
    have HA10 := hid hx10; have HSa := hid (ha9.gr hb10); have HG10 := hid (hg9.trans hb10)
    have HGs := hid (HG8.out.trans (hg9.trans hb10))
    have fb10 := fld (HBX.out _ HGs.out); have fl10 := fld (HLX.out _ HGs.out); have fk10 := fld (HG10.out.obj HK8.out (by simp))
    have HK10 := hid (HG10.out.obj HK8.out (by simp))
    clear hb10 hx10 ha9 hg9 fb8 fx8 fl8 fk8 fb7
    go_wp2_with fail
    generalize hW10 : w9.alloc (.cells #[.slice a1o (decR (decS s l C) k (nxt s l C)).mod.doms.length a1c, .slice a2o (decR (decS s l C) k (nxt s l C)).mod.cons.length a2c, .slice a3o (decR (decS s l C) k (nxt s l C)).lv.length a3c] 29) = w10 at *
    clear hW10
    have hcall := Decide_c s k C _ w10 (Hst.out.gr HGs.out) Hsm.out HC.out
    rw [HBk.out, decR_of HBk.out] at hcall
    rw [Hkk.out] at hcall
    (with_reducible refine hcall.mono ?_)
    clear hcall
    rw [← Hkk.out]
    rintro e w11 ⟨yv, rfl, hy11, hg11⟩
    obtain ⟨y1o, y1c, y2o, y2c, y3o, y3c, rfl, -, -⟩ := hy11.open
    have hb12 : Gr [] w11 (w11.alloc (.cells #[.slice y1o (decS s k C).mod.doms.length y1c, .slice y2o (decS s k C).mod.cons.length y2c, .slice y3o (decS s k C).lv.length y3c] 29)) := (Gr.refl _ _).alloc _
    have hx12 := sto3 w11 (.slice y1o (decS s k C).mod.doms.length y1c) (.slice y2o (decS s k C).mod.cons.length y2c) (.slice y3o (decS s k C).lv.length y3c)
    have HGt := hid (HGs.out.trans (hg11.trans hb12)); have HG12 := hid (hg11.trans hb12)
    have HSy := hid (hy11.gr hb12)
    have fy12 := fld hx12; have fl12 := fld (HLX.out _ HGt.out)
    have HA12 := hid (HG12.out.obj HA10.out (by simp)); have HSa12 := hid (HSa.out.gr HG12.out)
    clear hb12 hx12 hy11 hg11 fb10 fl10 fk10
    go_wp2_with fail
    generalize hW12 : w11.alloc (.cells #[.slice y1o (decS s k C).mod.doms.length y1c, .slice y2o (decS s k C).mod.cons.length y2c, .slice y3o (decS s k C).lv.length y3c] 29) = w12 at *
    clear hW12
    have hcall := Decide_c (decS s k C) l (nxt s k C) _ w12 HSy.out Hsm.out (fun _ => decS_cur HBk.out HCu.out)
    rw [HB2'.out] at hcall
    (with_reducible refine hcall.mono ?_)
    clear hcall
    rintro e w13 ⟨bv, rfl, hb13, hg13⟩
    obtain ⟨b1o, b1c, b2o, b2c, b3o, b3c, rfl, -, -⟩ := hb13.open
    have hb14 : Gr [] w13 (w13.alloc (.cells #[.slice b1o (decR (decS s k C) l (nxt s k C)).mod.doms.length b1c, .slice b2o (decR (decS s k C) l (nxt s k C)).mod.cons.length b2c, .slice b3o (decR (decS s k C) l (nxt s k C)).lv.length b3c] 29)) := (Gr.refl _ _).alloc _
    have hx14 := sto3 w13 (.slice b1o (decR (decS s k C) l (nxt s k C)).mod.doms.length b1c) (.slice b2o (decR (decS s k C) l (nxt s k C)).mod.cons.length b2c) (.slice b3o (decR (decS s k C) l (nxt s k C)).lv.length b3c)
    have HGu := hid (HGt.out.trans (hg13.trans hb14)); have HG14 := hid (hg13.trans hb14)
    have HSb := hid (hb13.gr hb14); have HB14 := hid hx14
    have HA14 := hid (HG14.out.obj HA12.out (by simp)); have HSa14 := hid (HSa12.out.gr HG14.out)
    clear hb14 hx14 hb13 hg13 fy12 fl12
    go_wp2_with fail
    generalize hW14 : w13.alloc (.cells #[.slice b1o (decR (decS s k C) l (nxt s k C)).mod.doms.length b1c, .slice b2o (decR (decS s k C) l (nxt s k C)).mod.cons.length b2c, .slice b3o (decR (decS s k C) l (nxt s k C)).lv.length b3c] 29) = w14 at *
    clear hW14
    cases bb
    · go_region_law fail
      all_goals
        go_wp2_with fail
        go_ret
        first | exact ⟨rfl, HG2.out.trans HGu.out⟩ | exact ⟨rfl, (HG2.out.trans HGu.out).drew⟩
    · have HS : Hid (∀ W, Gr [] w14 W → ((W.cell? ⟨w9.heap.size, 0, none⟩ = some (.slice a1o (decR (decS s l C) k (nxt s l C)).mod.doms.length a1c) ∧ W.cell? ⟨w9.heap.size, 1, none⟩ = some (.slice a2o (decR (decS s l C) k (nxt s l C)).mod.cons.length a2c) ∧ W.cell? ⟨w9.heap.size, 2, none⟩ = some (.slice a3o (decR (decS s l C) k (nxt s l C)).lv.length a3c)) ∧ (W.cell? ⟨w13.heap.size, 0, none⟩ = some (.slice b1o (decR (decS s k C) l (nxt s k C)).mod.doms.length b1c) ∧ W.cell? ⟨w13.heap.size, 1, none⟩ = some (.slice b2o (decR (decS s k C) l (nxt s k C)).mod.cons.length b2c) ∧ W.cell? ⟨w13.heap.size, 2, none⟩ = some (.slice b3o (decR (decS s k C) l (nxt s k C)).lv.length b3c))) ∧ Gr [] w14 W) :=
        hid fun W h => ⟨⟨⟨fld (h.obj HA14.out (by simp)) 0, fld (h.obj HA14.out (by simp)) 1, fld (h.obj HA14.out (by simp)) 2⟩, fld (h.obj HB14.out (by simp)) 0, fld (h.obj HB14.out (by simp)) 1, fld (h.obj HB14.out (by simp)) 2⟩, h⟩
      have HCa : Hid (curO (decR (decS s l C) k (nxt s l C)) = some (ints (nxt (decS s l C) k (nxt s l C)))) := hid (by
        rw [decR_of HB1.out]
        exact curO_of (decS_valid HB1.out (decS_cur Hdb.out HCu.out)) (decS_cur HB1.out (decS_cur Hdb.out HCu.out)))
      have HCb : Hid (curO (decR (decS s k C) l (nxt s k C)) = some (ints (nxt (decS s l C) k (nxt s l C)))) := hid (by
        rw [decR_of HB2'.out, nxt_two HCu.out]
        exact curO_of (decS_valid HB2'.out (decS_cur HBk.out HCu.out)) (decS_cur HB2'.out (decS_cur HBk.out HCu.out)))
      go_region_held_law (fun W => ((W.cell? ⟨w9.heap.size, 0, none⟩ = some (.slice a1o (decR (decS s l C) k (nxt s l C)).mod.doms.length a1c) ∧ W.cell? ⟨w9.heap.size, 1, none⟩ = some (.slice a2o (decR (decS s l C) k (nxt s l C)).mod.cons.length a2c) ∧ W.cell? ⟨w9.heap.size, 2, none⟩ = some (.slice a3o (decR (decS s l C) k (nxt s l C)).lv.length a3c)) ∧ (W.cell? ⟨w13.heap.size, 0, none⟩ = some (.slice b1o (decR (decS s k C) l (nxt s k C)).mod.doms.length b1c) ∧ W.cell? ⟨w13.heap.size, 1, none⟩ = some (.slice b2o (decR (decS s k C) l (nxt s k C)).mod.cons.length b2c) ∧ W.cell? ⟨w13.heap.size, 2, none⟩ = some (.slice b3o (decR (decS s k C) l (nxt s k C)).lv.length b3c))) ∧ Gr [] w14 W)
        ((refine HS.out _ ?_; first | exact (Gr.refl [] w14) | exact Gr.drew (Gr.refl [] w14) | exact HGa.out | exact HGb.out | exact HGc.out | assumption))
        (first
        | (go_simp; go_at_call 12; have hq := HSa14.out; refine (CurrentDomains_c (decR (decS s l C) k (nxt s l C)) _ _ (HSa14.out.gr (Gr.refl [] w14).drew)).mono ?_; rw [HCa.out]; rintro e wa ⟨va, rfl, hoa, hga⟩; have HGa := hid (((Gr.refl [] w14).drew).trans hga); have HNa := hid hoa.nums; clear hq hoa hga HSa14; (try dsimp only))
        | (go_simp; go_at_call 12; have hq := HGa.out; refine (CurrentDomains_c (decR (decS s k C) l (nxt s k C)) _ _ (HSb.out.gr HGa.out)).mono ?_; rw [HCb.out]; rintro e wb ⟨vb, rfl, hob, hgb⟩; have HGb := hid (HGa.out.trans hgb); have HNa2 := hid (HNa.out.gr hgb); have HNb := hid hob.nums; clear hq hob hgb; (try dsimp only))
        | (go_simp; go_at_call 11; refine (lawEqualInts_c _ _ _ _ _ HNa2.out HNb.out).mono ?_; rw [decide_eq_true rfl]; rintro e wc ⟨rfl, hgc⟩; have HGc := hid (HGb.out.trans hgc); clear hgc; (try dsimp only)))
      all_goals
        go_wp2_with fail
        go_ret
        exact ⟨rfl, (HG2.out.trans HGu.out).trans HGc.out⟩

end Go.Proofs.YtihkeihnpiddoaaGreat
