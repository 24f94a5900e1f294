/-
  Walk of FnDecide.
-/
import Derived.Test.YtihkeihnpiddoaaGreatDDrD
import Derived.Test.YtihkeihnpiddoaaGreatDBj
import Derived.Test.YtihkeihnpiddoaaGreatDSy4ToIsB
import Derived.Deep.RegionHeldLaw
set_option linter.unusedVariables false
set_option linter.unusedSimpArgs false
namespace Go.Proofs.YtihkeihnpiddoaaGreat
open Go.RowKit


set_option maxRecDepth 100000 in
theorem specValidStoreW_c (s : Sto) (v : Value) (w : World) (hv : StoV [] w v s) (hs : s.mod.Small) :
    Calls Tryz.prog 24 #[v] w fun e w' => e = .returned (.bool (validS s)) ∧ Gr [] w w' := by
  obtain ⟨xo, xc, co, cc, lo, lc, rfl, -, -⟩ := hv.open
  have hg0 : Gr [] w (w.alloc (.cells #[.slice xo s.mod.doms.length xc, .slice co s.mod.cons.length cc, .slice lo s.lv.length lc] 29)) := (Gr.refl _ _).alloc _
  have hb0 := sto3 w (.slice xo s.mod.doms.length xc) (.slice co s.mod.cons.length cc) (.slice lo s.lv.length lc)
  have hfl := fld hb0
  have HV := hid (hv.gr hg0); have Hs := hid hs; have Hg0 := hid hg0
  clear hv hb0 hs hg0
  go_enter Tryz.func24, Tryz.ntmps24
  go_wp2_with fail
  have hcall := specValidStore_c s _ _ HV.out Hs.out
  (with_reducible refine hcall.mono ?_)
  clear hcall
  rintro e w1 ⟨rfl, hg1⟩
  go_wp2_with fail
  go_ret
  exact ⟨rfl, Hg0.out.trans hg1⟩


set_option maxRecDepth 100000 in
set_option maxHeartbeats 8000000 in
theorem FnDecide_c (code : Value) (bs : List Int) (ao : Option Addr) (cap : Nat) (w : World) (hv : code = .slice ao bs.length cap) (hlen : bs.length ≤ 9223372036854775807) (hcap : bs.length ≤ cap) (hc : Cells [] w .u8 ao bs) (hb : ∀ b ∈ bs, 0 ≤ b ∧ b ≤ 255) :
    Calls Tryz.prog 5 #[code] w (fun e w' => e = .returned (.bool true) ∧ Gr [] w w') := by
  subst hv
  have Hc := hid hc; have Hb := hid hb; clear hc hb
  by_cases hbig : 1048576 < bs.length
  · go_enter Tryz.func5, Tryz.ntmps5
    go_wp2_with fail
    go_ret
    exact ⟨rfl, Gr.refl _ _⟩
  have hbig' : decide ((1048576 : Int) < (bs.length : Int)) = false := by simp; omega
  go_enter Tryz.func5, Tryz.ntmps5
  go_wp2_with fail
  have hcall := DrawDecide_c _ bs w ao cap rfl hlen hcap Hc.out Hb.out
  (with_reducible refine hcall.mono ?_)
  clear hcall
  rintro e w1 ⟨s, sv, l, rfl, hst, hsm, hd4, hg1⟩
  obtain ⟨xo, xc, yo, yc, lo, lc, rfl, -, -⟩ := hst.open
  have h20 := heap2 w1 (.cells #[.slice xo s.mod.doms.length xc, .slice yo s.mod.cons.length yc, .slice lo s.lv.length lc] 29) (.cells #[.int .i64 l.var, .int .i64 l.val, .bool l.neg] 31)
  have hg20 : Gr [] w1 ((w1.alloc (.cells #[.slice xo s.mod.doms.length xc, .slice yo s.mod.cons.length yc, .slice lo s.lv.length lc] 29)).alloc (.cells #[.int .i64 l.var, .int .i64 l.val, .bool l.neg] 31)) := ((Gr.refl [] w1).alloc _).alloc _
  obtain ⟨C, hC⟩ := cur_any s
  have HB2 := hid h20.1; have HL2 := hid h20.2; have Hst := hid (hst.gr hg20); have Hsm := hid hsm; have Hd4 := hid hd4; have HG2 := hid (hg1.trans hg20); have HC := hid hC
  clear hst hsm hd4 hg1 hbig h20 hg20 hC
  go_wp2_with fail
  generalize hW2 : (w1.alloc (.cells #[.slice xo s.mod.doms.length xc, .slice yo s.mod.cons.length yc, .slice lo s.lv.length lc] 29)).alloc (.cells #[.int .i64 l.var, .int .i64 l.val, .bool l.neg] 31) = w2 at *
  clear hW2
  have HBX : Hid (∀ W, Gr [] w2 W → W.heap[w1.heap.size]? = some (.cells #[.slice xo s.mod.doms.length xc, .slice yo s.mod.cons.length yc, .slice lo s.lv.length lc] 29 (0, 0))) := hid fun W h => h.obj HB2.out (by simp)
  have HLX : Hid (∀ W, Gr [] w2 W → W.heap[w1.heap.size + 1]? = some (.cells #[.int .i64 l.var, .int .i64 l.val, .bool l.neg] 31 (0, 0))) := hid fun W h => h.obj HL2.out (by simp)
  have hcall := Decide_c s l C _ _ Hst.out Hsm.out HC.out
  (with_reducible refine hcall.mono ?_)
  clear hcall
  rintro e w3 ⟨xv, rfl, hx3, hg3⟩
  obtain ⟨po, pc, qo, qc, ro, rc, rfl, -, -⟩ := hx3.open
  have ha4 : Gr [] w3 (w3.alloc (.cells #[.slice po (decR s l C).mod.doms.length pc, .slice qo (decR s l C).mod.cons.length qc, .slice ro (decR s l C).lv.length rc] 29)) := (Gr.refl _ _).alloc _
  have hx4 := sto3 w3 (.slice po (decR s l C).mod.doms.length pc) (.slice qo (decR s l C).mod.cons.length qc) (.slice ro (decR s l C).lv.length rc)
  have HX4 := hid hx4; have HS4 := hid (hx3.gr ha4); have HG4 := hid (hg3.trans ha4)
  have fb4 := fld (HBX.out _ (hg3.trans ha4)); have fl4 := fld (HLX.out _ (hg3.trans ha4))
  clear ha4 hx4 hx3 hg3
  go_wp2_with fail
  generalize hW4 : w3.alloc (.cells #[.slice po (decR s l C).mod.doms.length pc, .slice qo (decR s l C).mod.cons.length qc, .slice ro (decR s l C).lv.length rc] 29) = w4 at *
  clear hW4
  have hcall := specDecide_c s l C _ _ (Hst.out.gr HG4.out) Hsm.out HC.out
  (with_reducible refine hcall.mono ?_)
  clear hcall
  rintro e w5 ⟨wv, rfl, hx5, -, hg5⟩
  obtain ⟨po', pc', qo', qc', ro', rc', rfl, -, -⟩ := hx5.open
  have ha6 : Gr [] w5 (w5.alloc (.cells #[.slice po' (decR s l C).mod.doms.length pc', .slice qo' (decR s l C).mod.cons.length qc', .slice ro' (decR s l C).lv.length rc'] 29)) := (Gr.refl _ _).alloc _
  have hx6 := sto3 w5 (.slice po' (decR s l C).mod.doms.length pc') (.slice qo' (decR s l C).mod.cons.length qc') (.slice ro' (decR s l C).lv.length rc')
  have HY6 := hid hx6; have HT6 := hid (hx5.gr ha6); have HG46 := hid (hg5.trans ha6)
  have HX6 := hid ((hg5.trans ha6).obj HX4.out (by simp))
  have HS6 := hid (HS4.out.gr (hg5.trans ha6)); have HG6 := hid (HG4.out.trans (hg5.trans ha6))
  clear ha6 hx6 hx5 hg5 fb4 fl4
  have fx6 := fld HX6.out; have fy6 := fld HY6.out
  have HG6' := hid HG6.out
  obtain ⟨bd, hbd⟩ : ∃ bd, bd = decB s l := ⟨_, rfl⟩
  rw [← hbd]
  have Hbd := hid hbd
  clear hbd fx6 fy6
  obtain ⟨WX, hWX⟩ : ∃ W : World, W = w5.alloc (.cells #[.slice po' (decR s l C).mod.doms.length pc', .slice qo' (decR s l C).mod.cons.length qc', .slice ro' (decR s l C).lv.length rc'] 29) := ⟨_, rfl⟩
  rw [← hWX] at HX6 HY6 HS6 HT6 HG6 HG46
  have hgx5 : Gr [] w5 WX := by rw [hWX]; exact (Gr.refl _ _).alloc _
  have HEq : Hid (∀ k : GrW [] WX, Calls Tryz.prog 10 #[.agg #[.slice po (decR s l C).mod.doms.length pc, .slice qo (decR s l C).mod.cons.length qc, .slice ro (decR s l C).lv.length rc], .agg #[.slice po' (decR s l C).mod.doms.length pc', .slice qo' (decR s l C).mod.cons.length qc', .slice ro' (decR s l C).lv.length rc']] k.val fun e w'' => e = .returned (.bool true) ∧ ∃ m : GrW [] WX, w'' = m.val) := hid fun k => Calls.gr_of (equalStores_t (decR s l C) _ _ _ (HS6.out.gr k.gr) (HT6.out.gr k.gr))
  have HVi : Hid (∀ k : GrW [] WX, Calls Tryz.prog 23 #[.agg #[.slice xo s.mod.doms.length xc, .slice yo s.mod.cons.length yc, .slice lo s.lv.length lc]] k.val fun e w'' => e = .returned (.bool (validS s)) ∧ ∃ m : GrW [] WX, w'' = m.val) := hid fun k => Calls.gr_of (ValidStore_c s _ _ (Hst.out.gr (HG6.out.trans k.gr)))
  have HVs : Hid (∀ k : GrW [] WX, Calls Tryz.prog 24 #[.agg #[.slice xo s.mod.doms.length xc, .slice yo s.mod.cons.length yc, .slice lo s.lv.length lc]] k.val fun e w'' => e = .returned (.bool (validS s)) ∧ ∃ m : GrW [] WX, w'' = m.val) := hid fun k => Calls.gr_of (specValidStoreW_c s _ _ (Hst.out.gr (HG6.out.trans k.gr)) Hsm.out)
  have eb : ∀ (k : GrW [] WX) j, k.val.cell? ⟨w1.heap.size, j, none⟩ = #[.slice xo s.mod.doms.length xc, .slice yo s.mod.cons.length yc, .slice lo s.lv.length lc][j]? := fun k => fld (HBX.out _ (HG6.out.trans k.gr))
  have ex : ∀ (k : GrW [] WX) j, k.val.cell? ⟨w3.heap.size, j, none⟩ = #[.slice po (decR s l C).mod.doms.length pc, .slice qo (decR s l C).mod.cons.length qc, .slice ro (decR s l C).lv.length rc][j]? := fun k => fld (k.gr.obj HX6.out (by simp))
  have ey : ∀ (k : GrW [] WX) j, k.val.cell? ⟨w5.heap.size, j, none⟩ = #[.slice po' (decR s l C).mod.doms.length pc', .slice qo' (decR s l C).mod.cons.length qc', .slice ro' (decR s l C).lv.length rc'][j]? := fun k => fld (k.gr.obj HY6.out (by simp))
  have hvv : (validS s != validS s) = false := by simp
  have hve : (validS s == validS s) = true := by simp
  cases bd
  · go_wp2_with fail
    rw [← hWX]
    refine wp_region_gr [] _ (by kernel_rfl) (by kernel_rfl) (Gr.refl _ _) ?_
    repeat (go_big_quiet_step (first | (go_at_call 10; exact HEq.out _) | (go_at_call 23; exact HVi.out _) | (go_at_call 24; exact HVs.out _)))
    refine wpQuiet_nil ?_
    rintro w7 ⟨n7, hw7⟩
    have HG7 : Hid (Gr [] WX w7) := hid (hw7 ▸ n7.gr)
    clear hw7 n7
    clear eb ex ey HEq HVi HVs
    have HEq7 : Hid (∀ k : GrW [] w7, Calls Tryz.prog 10 #[.agg #[.slice po (decR s l C).mod.doms.length pc, .slice qo (decR s l C).mod.cons.length qc, .slice ro (decR s l C).lv.length rc], .agg #[.slice po' (decR s l C).mod.doms.length pc', .slice qo' (decR s l C).mod.cons.length qc', .slice ro' (decR s l C).lv.length rc']] k.val fun e w'' => e = .returned (.bool true) ∧ ∃ m : GrW [] w7, w'' = m.val) := hid fun k => Calls.gr_of (equalStores_t (decR s l C) _ _ _ (HS6.out.gr (HG7.out.trans k.gr)) (HT6.out.gr (HG7.out.trans k.gr)))
    have HVi7 : Hid (∀ k : GrW [] w7, Calls Tryz.prog 23 #[.agg #[.slice xo s.mod.doms.length xc, .slice yo s.mod.cons.length yc, .slice lo s.lv.length lc]] k.val fun e w'' => e = .returned (.bool (validS s)) ∧ ∃ m : GrW [] w7, w'' = m.val) := hid fun k => Calls.gr_of (ValidStore_c s _ _ (Hst.out.gr (HG6.out.trans (HG7.out.trans k.gr))))
    have HVs7 : Hid (∀ k : GrW [] w7, Calls Tryz.prog 24 #[.agg #[.slice xo s.mod.doms.length xc, .slice yo s.mod.cons.length yc, .slice lo s.lv.length lc]] k.val fun e w'' => e = .returned (.bool (validS s)) ∧ ∃ m : GrW [] w7, w'' = m.val) := hid fun k => Calls.gr_of (specValidStoreW_c s _ _ (Hst.out.gr (HG6.out.trans (HG7.out.trans k.gr))) Hsm.out)
    have eb : ∀ (k : GrW [] w7) j, k.val.cell? ⟨w1.heap.size, j, none⟩ = #[.slice xo s.mod.doms.length xc, .slice yo s.mod.cons.length yc, .slice lo s.lv.length lc][j]? := fun k => fld (HBX.out _ (HG6.out.trans (HG7.out.trans k.gr)))
    have ex : ∀ (k : GrW [] w7) j, k.val.cell? ⟨w3.heap.size, j, none⟩ = #[.slice po (decR s l C).mod.doms.length pc, .slice qo (decR s l C).mod.cons.length qc, .slice ro (decR s l C).lv.length rc][j]? := fun k => fld ((HG7.out.trans k.gr).obj HX6.out (by simp))
    have ey : ∀ (k : GrW [] w7) j, k.val.cell? ⟨w5.heap.size, j, none⟩ = #[.slice po' (decR s l C).mod.doms.length pc', .slice qo' (decR s l C).mod.cons.length qc', .slice ro' (decR s l C).lv.length rc'][j]? := fun k => fld ((HG7.out.trans k.gr).obj HY6.out (by simp))
    go_wp2_with fail
    refine wp_region_gr [] _ (by kernel_rfl) (by kernel_rfl) (Gr.refl _ _) ?_
    repeat (go_big_quiet_step (first | (go_at_call 10; exact HEq7.out _) | (go_at_call 23; exact HVi7.out _) | (go_at_call 24; exact HVs7.out _)))
    refine wpQuiet_nil ?_
    rintro w8 ⟨n8, hw8⟩
    have HG8 : Hid (Gr [] w7 w8) := hid (hw8 ▸ n8.gr)
    clear hw8 n8
    go_wp2_with fail
    go_ret
    exact ⟨rfl, ((HG2.out.trans HG6.out).trans HG7.out).trans HG8.out⟩
  · have hdb : decB s l = true := Hbd.out.symm
    obtain ⟨hval, hlok, h12⟩ := decB_lv hdb
    have hcur := HC.out hval
    have hdr := decR_of (C := C) hdb
    have HVx : Hid (validS (decR s l C) = true) := hid (by rw [hdr]; exact decS_valid hdb hcur)
    have HCx : Hid (Cur (decR s l C) (nxt s l C)) := hid (by rw [hdr]; exact decS_cur hdb hcur)
    have HSmx : Hid ((decR s l C).mod.Small) := hid (by rw [hdr]; exact Hsm.out)
    have HCa : Hid (curO (decR s l C) = some (ints (nxt s l C))) := hid (curO_of HVx.out HCx.out)
    have HCs : Hid (curO s = some (ints C)) := hid (curO_of hval hcur)
    have hmany := hcur.many; have hsmall := hcur.small
    obtain ⟨n, hn⟩ : ∃ n, n + 1 = s.lv.length := ⟨s.lv.length - 1, by omega⟩
    have HBs : Hid ((⟨(decR s l C).mod, (decR s l C).lv.take (n + 1)⟩ : Sto) = s) := hid (by
      rw [hdr, hn]
      show (⟨s.mod, (s.lv ++ [ints (nxt s l C)]).take s.lv.length⟩ : Sto) = s
      rw [List.take_left])
    have Hlx : Hid (n < (decR s l C).lv.length) := hid (by rw [hdr]; show n < (s.lv ++ [ints (nxt s l C)]).length; rw [List.length_append]; simp; omega)
    have hn12 : n ≤ 12 := by omega
    have hx1 : ((s.lv.length : Int) - 1) = (n : Int) := by omega
    have hlo := litOk_iff.1 hlok
    obtain ⟨q, hq⟩ : ∃ q : Nat, l.var = (q : Int) := Int.eq_ofNat_of_zero_le hlo.1.1
    have hnl := nxt_len (l := l) hcur
    have hqn : q < (nxt s l C).length := by rw [hnl, hcur.len]; omega
    obtain ⟨d, hd⟩ := get_some hqn
    have hd64 : d < 64 := nxt_below hcur d (List.mem_of_getElem? hd)
    have Hbits : Hid (∀ v : Nat, v < 6 → d.testBit v = true → (((v : Int) == l.val) == l.neg) = false) := hid fun v hv hb => by
      have := nxt_bit hcur hlok v hv (by rw [hq, Int.toNat_natCast, List.getD_eq_getElem?_getD, hd]; exact hb)
      cases h1 : ((v : Int) == l.val) <;> cases h2 : l.neg <;> simp [h1, h2] at this ⊢
    have hqi : q < (ints (nxt s l C)).length := by rw [ints_len]; exact hqn
    have hqi2 : (q : Int) < ((ints (nxt s l C)).length : Int) := by omega
    have Hd := hid (show (ints (nxt s l C))[q]? = some (d : Int) by rw [ints_get, hd]; rfl)
    have Hsub := hid (nxt_sub (l := l) hcur); have Hbn := hid (nxt_below (l := l) hcur); have HbC := hid hcur.below
    have hpos : 0 < (ints (nxt s l C)).length := by omega
    have Hq := hid hq; have Hn := hid hn
    clear hdb hval hlok h12 hcur hdr hlo hnl hqn hd hn hmany hsmall
    go_wp2_with fail
    rw [← hWX]
    refine wp_region_gr [] _ (by kernel_rfl) (by kernel_rfl) (Gr.refl _ _) ?_
    repeat (go_big_quiet_step (first | (go_at_call 10; exact HEq.out _) | (go_at_call 23; exact HVi.out _) | (go_at_call 24; exact HVs.out _)))
    refine wpQuiet_nil ?_
    rintro w7 ⟨n7, hw7⟩
    have HG7 : Hid (Gr [] WX w7) := hid (hw7 ▸ n7.gr)
    clear hw7 n7 eb ex ey HEq HVi HVs
    have HX7 := hid (HG7.out.obj HX6.out (by simp)); have HS7 := hid (HS6.out.gr HG7.out); have HG27 := hid (HG6.out.trans HG7.out)
    have fx7 := fld HX7.out
    go_wp2_with fail
    have hcall := CurrentDomains_c (decR s l C) _ _ HS7.out
    (with_reducible refine hcall.mono ?_)
    clear hcall
    rw [HCa.out]
    rintro e w8 ⟨dv, rfl, hd8, hg8⟩
    have hd8' : OwnC w7.heap.size w8 3 dv (ints (nxt s l C)) := hd8
    obtain ⟨gd, cd, rfl⟩ := hd8'.open hpos
    have HO8 := hid hd8'; have HG28 := hid (HG27.out.trans hg8); have HX8 := hid (hg8.obj HX7.out (by simp)); have HS8 := hid (HS7.out.gr hg8)
    clear hd8 hd8' hg8 fx7
    go_wp2_with fail
    go_loopw [10] (fun i wr => ∃ v : Nat, v ≤ 6 ∧ i = .int .i64 v ∧ Gr [] w8 wr) (fun i _ => 6 - (intOf i).toNat)
    case atStart => exact ⟨0, by omega, rfl, Gr.refl _ _⟩
    case round =>
      obtain ⟨v, hv, rfl, hg⟩ := hrel
      have flr := fld (HLX.out _ (HG28.out.trans hg))
      have Hg := hid hg
      by_cases hlt : v ≤ 5
      · obtain ⟨hca, hcf⟩ := (HO8.out.keep hg (by simp)).at Hd.out
        rw [hq] at flr
        clear hg
        go_wp2_with fail
        refine (DomainHas_c d v hd64 (by omega) wr).mono ?_
        cases hbit : d.testBit v
        · rintro e w9 ⟨rfl, rfl⟩
          go_wp2_with fail
          exact ⟨⟨v + 1, by omega, by go_num, Hg.out⟩, by simp [intOf]; omega⟩
        · have hbv := Hbits.out v (by omega) hbit
          rintro e w9 ⟨rfl, rfl⟩
          go_wp2_with fail
          exact ⟨⟨v + 1, by omega, by go_num, Hg.out⟩, by simp [intOf]; omega⟩
      · have HG29 := hid (HG28.out.trans hg)
        have fbr := fld (HBX.out _ HG29.out); have fxr := fld (hg.obj HX8.out (by simp))
        clear hg flr
        go_wp2_with fail
        have hcall := Backjump_c (decR s l C) n (nxt s l C) _ wr (HS8.out.gr Hg.out) HSmx.out HVx.out HCx.out Hlx.out
        rw [HBs.out] at hcall
        (with_reducible refine hcall.mono ?_)
        clear hcall
        rintro e w10 ⟨yv, rfl, hy10, hg10⟩
        obtain ⟨yao, yac, ybo, ybc, yco, ycc, rfl, -, -⟩ := hy10.open
        have ha11 : Gr [] w10 (w10.alloc (.cells #[.slice yao s.mod.doms.length yac, .slice ybo s.mod.cons.length ybc, .slice yco s.lv.length ycc] 29)) := (Gr.refl _ _).alloc _
        have hb11 := sto3 w10 (.slice yao s.mod.doms.length yac) (.slice ybo s.mod.cons.length ybc) (.slice yco s.lv.length ycc)
        have HY11 := hid hb11; have HS11 := hid (hy10.gr ha11); have HG11 := hid (HG29.out.trans (hg10.trans ha11))
        have HGw := hid (Hg.out.trans (hg10.trans ha11))
        have HX11 := hid (HGw.out.obj HX8.out (by simp))
        have fb11 := fld (HBX.out _ HG11.out); have fx11 := fld HX11.out; have fy11 := fld hb11
        clear ha11 hb11 hy10 hg10 fbr fxr
        go_wp2_with fail
        generalize hW11 : w10.alloc (.cells #[.slice yao s.mod.doms.length yac, .slice ybo s.mod.cons.length ybc, .slice yco s.lv.length ycc] 29) = w11 at *
        clear hW11
        have hcall := ValidStore_c (decR s l C) _ _ (HS8.out.gr HGw.out)
        (with_reducible refine hcall.mono ?_)
        clear hcall
        rw [HVx.out]
        rintro e w12 ⟨rfl, hg12⟩
        have HG12 := hid (HG11.out.trans hg12); have Hg12 := hid hg12
        have fb12 := fld (HBX.out _ HG12.out); have fy12 := fld (hg12.obj HY11.out (by simp))
        clear hg12 fb11 fx11 fy11
        go_wp2_with fail
        have hcall := CurrentDomains_c s _ _ (Hst.out.gr HG12.out)
        (with_reducible refine hcall.mono ?_)
        clear hcall
        rw [HCs.out]
        rintro e w13 ⟨cv, rfl, hc13, hg13⟩
        have HN13 := hid hc13.nums; have HG13 := hid (HG12.out.trans hg13); have Hg13 := hid (Hg12.out.trans hg13)
        have fb13 := fld (HBX.out _ HG13.out); have fy13 := fld (Hg13.out.obj HY11.out (by simp))
        have HNd := hid ((OptV.nums (o := some (ints (nxt s l C))) HO8.out).gr (HGw.out.trans Hg13.out))
        clear hc13 hg13 fb12 fy12
        go_wp2_with fail
        have hcall := isSubset_c (nxt s l C) C _ _ _ HNd.out HN13.out Hsub.out Hbn.out HbC.out
        (with_reducible refine hcall.mono ?_)
        clear hcall
        rintro e w14 ⟨rfl, hg14⟩
        have HG14 := hid (HG13.out.trans hg14); have Hg14 := hid (Hg13.out.trans hg14)
        have fb14 := fld (HBX.out _ HG14.out); have fy14 := fld (Hg14.out.obj HY11.out (by simp))
        clear hg14 fb13 fy13
        go_wp2_with fail
        have hcall := equalStores_t s _ _ _ (HS11.out.gr Hg14.out) (Hst.out.gr HG14.out)
        (with_reducible refine hcall.mono ?_)
        clear hcall
        rintro e w15 ⟨rfl, hg15⟩
        go_wp2_with fail
        go_ret
        exact ⟨rfl, (HG2.out.trans HG14.out).trans hg15⟩

end Go.Proofs.YtihkeihnpiddoaaGreat
