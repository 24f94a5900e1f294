/-
  Walk of FnExactHardest.
-/
import Derived.Test.YtngpcoilgilmjaaGreatEH
import Derived.Test.YtngpcoilgilmjaaGreatSE
import Derived.Test.YtngpcoilgilmjaaGreatSq
import Derived.Test.YtngpcoilgilmjaaGreatSh
set_option linter.unusedVariables false
namespace Go.Proofs.YtngpcoilgilmjaaGreat
open Go.RowKit


set_option maxRecDepth 100000 in
set_option maxHeartbeats 4000000 in
theorem FnExactHardest_c (m : Mod) (X : List Sft) (v : Value) (vX : Value) (w : World) (hv : ModV [] w v m) (hX : SftsV [] w vX X) :
    Calls Tryz.prog 4 #[v, vX] w (fun e w' => e = .returned (.bool true) ∧ Gr [] w w') := by
  have Hv := hid hv
  obtain ⟨xo, xc, co, cc, rfl⟩ := hv.slices
  have HVX := hid hX
  obtain ⟨xoX, xcX, rfl, ⟨hlX1, hlX2, -⟩, -⟩ := hX
  have hg0 : Gr [] w (w.alloc (.cells #[.slice xo m.doms.length xc, .slice co m.cons.length cc] 45)) := (Gr.refl _ _).alloc _
  have hb0 : (w.alloc (.cells #[.slice xo m.doms.length xc, .slice co m.cons.length cc] 45)).heap[w.heap.size]? = some (.cells #[.slice xo m.doms.length xc, .slice co m.cons.length cc] 45 (0, 0)) := heap_alloc_new _ _
  have Hg0 := hid hg0; have Hb0 := hid hb0
  have fl0 := fld hb0
  clear hv hg0 hb0
  go_enter Tryz.func4, Tryz.ntmps4
  go_wp2_with fail
  have hcall := szModel_c m 1048576 _ _ (Hv.out.gr Hg0.out) (by omega)
  (with_reducible refine hcall.mono ?_)
  clear hcall
  rintro e w1 ⟨rfl, hg1⟩
  have hb1 := hg1.obj Hb0.out (by simp)
  have fl1 := fld hb1
  have Hb1 := hid hb1; have Hg1 := hid (Hg0.out.trans hg1)
  have hs0 : w.heap.size < w1.heap.size := lt_of_block hb1
  clear fl0 hb1 hg1
  by_cases hbig : (1048576 : Int) < (szMo m : Int)
  · rw [cut_neg hbig]
    go_wp2_with fail
    go_ret
    exact ⟨rfl, Hg1.out⟩
  rw [cut_pos (by omega)]
  obtain ⟨l, hl⟩ : ∃ l : Int, l = 1048576 - (szMo m : Int) := ⟨_, rfl⟩
  rw [← hl]
  have hl0 : 0 ≤ l ∧ l ≤ 1048576 := by omega
  have Hs : Hid m.Small := hid (small_of_sz (by omega))
  have Hmo : Hid (mkMo m ≤ 2097152) := hid (mk_le (by omega))
  obtain ⟨D, hD⟩ := openVM m
  have HD := hid hD
  clear hl hbig hD
  go_wp2_with fail
  have Hb_1 := hid Hb1.out; have fHb_1 := fld Hb_1.out; have Hg_1 := hid Hg1.out; have Hv_1 := hid (Hv.out.gr Hg1.out)
  have HVX_1 := hid (HVX.out.gr Hg1.out)
  clear fl1
  have hcall := szSoftS_c X l _ w1 HVX_1.out (by omega)
  (with_reducible refine hcall.mono ?_)
  clear hcall
  rintro e w2 ⟨rfl, hg2⟩
  have Hb_2 := hid (hg2.obj Hb_1.out (by simp))
  have Hg_2 := hid (Hg_1.out.trans hg2)
  have Hv_2 := hid (Hv_1.out.gr hg2)
  have HVX_2 := hid (HVX_1.out.gr hg2)
  have hs2 := hg2.size
  have fHb_2 := fld Hb_2.out
  clear fHb_1 hg2
  by_cases hbigX : l < (szSs X : Int)
  · rw [cut_neg hbigX]
    go_wp2_with fail
    go_ret
    exact ⟨rfl, Hg_2.out⟩
  rw [cut_pos (by omega)]
  obtain ⟨l2, hlX2⟩ : ∃ l2 : Int, l2 = l - (szSs X : Int) := ⟨_, rfl⟩
  rw [← hlX2]
  have hlX0 : 0 ≤ l2 ∧ l2 ≤ 1048576 := by omega
  have HssX := hid (sfts_small_of_sz (ss := X) (by omega))
  have HmsX : Hid (mkSs X ≤ 4194304) := hid (mkSs_le (by omega))
  clear hlX2 hbigX
  go_wp2_with fail
  have hcall := toModel_c m _ w2 Hv_2.out Hs.out
  (with_reducible refine hcall.mono ?_)
  clear hcall
  rintro e w3 ⟨v3, rfl, hm3, hg3⟩
  obtain ⟨xo3, xc3, co3, cc3, rfl⟩ := (New.mod hm3).slices
  have Hm_3 := hid (New.mod hm3)
  have HmH_3 := hid hm3
  clear hm3
  have Hb_3 := hid (hg3.obj Hb_2.out (by simp))
  have Hg_3 := hid (Hg_2.out.trans hg3)
  have Hv_3 := hid (Hv_2.out.gr hg3)
  have HVX_3 := hid (HVX_2.out.gr hg3)
  have hs3 := hg3.size
  have fHb_3 := fld Hb_3.out
  clear fHb_2 hg3
  go_wp2_with fail
  have hcall := toSoftS_c X _ w3 HVX_3.out HssX.out.1 HssX.out.2
  (with_reducible refine hcall.mono ?_)
  clear hcall
  rintro e w4 ⟨v4, rfl, ho4, hg4⟩
  have HYX_4 := hid ho4
  obtain ⟨xo4, xc4, rfl, -, -⟩ := ho4
  have Hb_4 := hid (hg4.obj Hb_3.out (by simp))
  have Hg_4 := hid (Hg_3.out.trans hg4)
  have Hv_4 := hid (Hv_3.out.gr hg4)
  have HVX_4 := hid (HVX_3.out.gr hg4)
  have Hm_4 := hid (Hm_3.out.gr hg4)
  have HmH_4 := hid (HmH_3.out.gr' (M' := New w2.heap.size w3) hg4 (by simp) (fun _ _ h => h))
  have hs4 := hg4.size
  have fHb_4 := fld Hb_4.out
  clear fHb_3 hg4
  go_wp2_with fail
  have hcall := specHardest_c m X _ _ w4 Hm_4.out Hs.out (HYX_4.out.sfts (by simp)) ⟨HssX.out.1, HssX.out.2⟩ D HD.out
  (with_reducible refine hcall.mono ?_)
  clear hcall
  obtain ⟨R, hR⟩ : ∃ R, R = (hardO m D X) := ⟨_, rfl⟩
  rw [← hR]
  have HRl : Hid (R.length ≤ 1000000) := hid (by rw [hR]; exact (hardO_len m X D))
  have HR := hid hR; clear hR
  rintro e w5 ⟨v5, rfl, hr5, hg5⟩
  have Hr_5 := hid hr5
  obtain ⟨ro5, rc5, rfl, -, -⟩ := hr5
  have Hb_5 := hid (hg5.obj Hb_4.out (by simp))
  have Hg_5 := hid (Hg_4.out.trans hg5)
  have Hv_5 := hid (Hv_4.out.gr hg5)
  have HVX_5 := hid (HVX_4.out.gr hg5)
  have hs5 := hg5.size
  have fHb_5 := fld Hb_5.out
  clear fHb_4 hg5
  have Hr0 := hid Hr_5.out
  have Hk_5 := hid (Gr.refl [] w5)
  go_wp2_with fail
  have hcall := toModel_c m _ w5 Hv_5.out Hs.out
  (with_reducible refine hcall.mono ?_)
  clear hcall
  rintro e w6 ⟨v6, rfl, hm6, hg6⟩
  obtain ⟨xo6, xc6, co6, cc6, rfl⟩ := (New.mod hm6).slices
  have Hm_6 := hid (New.mod hm6)
  have HmH_6 := hid hm6
  clear hm6
  have Hb_6 := hid (hg6.obj Hb_5.out (by simp))
  have Hg_6 := hid (Hg_5.out.trans hg6)
  have Hv_6 := hid (Hv_5.out.gr hg6)
  have HVX_6 := hid (HVX_5.out.gr hg6)
  have Hr_6 := hid (Hr_5.out.gr hg6)
  have Hk_6 := hid (Hk_5.out.trans hg6)
  have hs6 := hg6.size
  have fHb_6 := fld Hb_6.out
  clear fHb_5 hg6
  have hg7 : Gr [] w6 (w6.alloc (.cells #[.slice xo6 m.doms.length xc6, .slice co6 m.cons.length cc6] 26)) := (Gr.refl _ _).alloc _
  have Hx_7 : Hid ((w6.alloc (.cells #[.slice xo6 m.doms.length xc6, .slice co6 m.cons.length cc6] 26)).heap[w6.heap.size]? = some (.cells #[.slice xo6 m.doms.length xc6, .slice co6 m.cons.length cc6] 26 (0, 0))) := hid (heap_alloc_new _ _)
  have hsx : w6.heap.size < (w6.alloc (.cells #[.slice xo6 m.doms.length xc6, .slice co6 m.cons.length cc6] 26)).heap.size := by simp
  go_wp2_with fail
  generalize hWx : w6.alloc (.cells #[.slice xo6 m.doms.length xc6, .slice co6 m.cons.length cc6] 26) = w7 at *
  clear hWx
  have Hb_7 := hid (hg7.obj Hb_6.out (by simp))
  have Hg_7 := hid (Hg_6.out.trans hg7)
  have Hv_7 := hid (Hv_6.out.gr hg7)
  have HVX_7 := hid (HVX_6.out.gr hg7)
  have Hr_7 := hid (Hr_6.out.gr hg7)
  have Hk_7 := hid (Hk_6.out.trans hg7)
  have Hm_7 := hid (Hm_6.out.gr hg7)
  have HmH_7 := hid (HmH_6.out.gr' (M' := New w5.heap.size w6) hg7 (by simp) (fun _ _ h => h))
  have hs7 := hg7.size
  have fHb_7 := fld Hb_7.out
  clear fHb_6 hg7
  have fHx_7 := fld Hx_7.out
  have hcall := toSoftS_c X _ w7 HVX_7.out HssX.out.1 HssX.out.2
  (with_reducible refine hcall.mono ?_)
  clear hcall
  rintro e w8 ⟨v8, rfl, ho8, hg8⟩
  have HYX_8 := hid ho8
  obtain ⟨xo8, xc8, rfl, -, -⟩ := ho8
  have Hb_8 := hid (hg8.obj Hb_7.out (by simp))
  have Hg_8 := hid (Hg_7.out.trans hg8)
  have Hv_8 := hid (Hv_7.out.gr hg8)
  have HVX_8 := hid (HVX_7.out.gr hg8)
  have Hr_8 := hid (Hr_7.out.gr hg8)
  have Hk_8 := hid (Hk_7.out.trans hg8)
  have Hm_8 := hid (Hm_7.out.gr hg8)
  have HmH_8 := hid (HmH_7.out.gr' (M' := New w5.heap.size w6) hg8 (by simp) (fun _ _ h => h))
  have Hx_8 := hid (hg8.obj Hx_7.out (by simp))
  have hs8 := hg8.size
  have fHb_8 := fld Hb_8.out
  have fHx_8 := fld Hx_8.out
  clear fHb_7 fHx_7 hg8
  go_wp2_with fail
  have hcall := Hardest_c m X _ _ w8 Hm_8.out (HYX_8.out.sfts (by simp)) D HD.out
  (with_reducible refine hcall.mono ?_)
  clear hcall
  rw [← HR.out]
  rintro e w9 ⟨v9, rfl, hr9, hg9⟩
  have Hq_9 := hid hr9
  obtain ⟨ro9, rc9, rfl, ⟨hrl1, hrl2, -⟩, -⟩ := hr9
  have Hb_9 := hid (hg9.obj Hb_8.out (by simp))
  have Hg_9 := hid (Hg_8.out.trans hg9)
  have Hv_9 := hid (Hv_8.out.gr hg9)
  have HVX_9 := hid (HVX_8.out.gr hg9)
  have Hr_9 := hid (Hr_8.out.gr hg9)
  have Hk_9 := hid (Hk_8.out.trans hg9)
  have Hm_9 := hid (Hm_8.out.gr hg9)
  have HmH_9 := hid (HmH_8.out.gr' (M' := New w5.heap.size w6) hg9 (by simp) (fun _ _ h => h))
  have Hx_9 := hid (hg9.obj Hx_8.out (by simp))
  have HYX_9 := hid (HYX_8.out.gr' (M' := New w7.heap.size w8) hg9 (by simp) (fun _ _ h => h))
  have hs9 := hg9.size
  have fHb_9 := fld Hb_9.out
  have fHx_9 := fld Hx_9.out
  clear fHb_8 fHx_8 hg9
  go_wp2_with fail
  have hcall := eqIntS_t R _ _ w9 (Hq_9.out.nums (by simp)) Hr_9.out
  (with_reducible refine hcall.mono ?_)
  clear hcall
  rintro e w10 ⟨rfl, hg10⟩
  have Hb_10 := hid (hg10.obj Hb_9.out (by simp))
  have Hg_10 := hid (Hg_9.out.trans hg10)
  have Hv_10 := hid (Hv_9.out.gr hg10)
  have HVX_10 := hid (HVX_9.out.gr hg10)
  have Hr_10 := hid (Hr_9.out.gr hg10)
  have Hk_10 := hid (Hk_9.out.trans hg10)
  have Hm_10 := hid (Hm_9.out.gr hg10)
  have HmH_10 := hid (HmH_9.out.gr' (M' := New w5.heap.size w6) hg10 (by simp) (fun _ _ h => h))
  have Hx_10 := hid (hg10.obj Hx_9.out (by simp))
  have HYX_10 := hid (HYX_9.out.gr' (M' := New w7.heap.size w8) hg10 (by simp) (fun _ _ h => h))
  have Hq_10 := hid (Hq_9.out.gr' (M' := New w8.heap.size w9) hg10 (by simp) (fun _ _ h => h))
  have hs10 := hg10.size
  have fHb_10 := fld Hb_10.out
  have fHx_10 := fld Hx_10.out
  clear fHb_9 fHx_9 hg10
  go_wp2_with fail
  have HMA : Hid (∀ W, Gr [] w10 W → ModV [] W (.agg #[.slice xo m.doms.length xc, .slice co m.cons.length cc]) m ∧ ModV [] W (.agg #[.slice xo6 m.doms.length xc6, .slice co6 m.cons.length cc6]) m ∧ W.heap[w6.heap.size]? = some (.cells #[.slice xo6 m.doms.length xc6, .slice co6 m.cons.length cc6] 26 (0, 0))) :=
    hid fun W h => ⟨Hv_10.out.gr h, Hm_10.out.gr h, h.obj Hx_10.out (by simp)⟩
  go_region_law (first
    | (go_simp; go_at_call 19; refine (toModel_c m _ _ (HMA.out _ ((Gr.refl _ _).drew)).1 Hs.out).mono ?_; rintro e wa ⟨va, rfl, hma, hga⟩; obtain ⟨xoa, xca, coa, cca, rfl⟩ := (New.mod hma).slices; have hgxa : Gr [] w10 wa := ((Gr.refl [] w10).drew).trans hga; have fxa := fld (HMA.out _ hgxa).2.2; have Hma := hid (New.mod hma); have Hgxa := hid hgxa; clear hma hga hgxa)
    | (go_simp; go_at_call 22; refine (eqModel_t m _ _ _ (HMA.out _ Hgxa.out).2.1 Hma.out).mono ?_; rintro e w11 ⟨rfl, hgz⟩))
  all_goals
    have hg11 : Gr [] w10 w11 := Hgxa.out.trans hgz
    clear hgz fxa
    have Hb_11 := hid (hg11.obj Hb_10.out (by simp))
    have Hg_11 := hid (Hg_10.out.trans hg11)
    have Hv_11 := hid (Hv_10.out.gr hg11)
    have HVX_11 := hid (HVX_10.out.gr hg11)
    have Hr_11 := hid (Hr_10.out.gr hg11)
    have Hk_11 := hid (Hk_10.out.trans hg11)
    have Hm_11 := hid (Hm_10.out.gr hg11)
    have HmH_11 := hid (HmH_10.out.gr' (M' := New w5.heap.size w6) hg11 (by simp) (fun _ _ h => h))
    have Hx_11 := hid (hg11.obj Hx_10.out (by simp))
    have HYX_11 := hid (HYX_10.out.gr' (M' := New w7.heap.size w8) hg11 (by simp) (fun _ _ h => h))
    have Hq_11 := hid (Hq_10.out.gr' (M' := New w8.heap.size w9) hg11 (by simp) (fun _ _ h => h))
    have hs11 := hg11.size
    have fHb_11 := fld Hb_11.out
    have fHx_11 := fld Hx_11.out
    clear fHb_10 fHx_10 hg11
    go_wp2_with fail
    have hcall := toSoftS_c X _ w11 HVX_11.out HssX.out.1 HssX.out.2
    (with_reducible refine hcall.mono ?_)
    clear hcall
    rintro e w12 ⟨v12, rfl, ho12, hg12⟩
    have HZX_12 := hid ho12
    obtain ⟨xo12, xc12, rfl, -, -⟩ := ho12
    have Hb_12 := hid (hg12.obj Hb_11.out (by simp))
    have Hg_12 := hid (Hg_11.out.trans hg12)
    have Hv_12 := hid (Hv_11.out.gr hg12)
    have HVX_12 := hid (HVX_11.out.gr hg12)
    have Hr_12 := hid (Hr_11.out.gr hg12)
    have Hk_12 := hid (Hk_11.out.trans hg12)
    have Hm_12 := hid (Hm_11.out.gr hg12)
    have HmH_12 := hid (HmH_11.out.gr' (M' := New w5.heap.size w6) hg12 (by simp) (fun _ _ h => h))
    have Hx_12 := hid (hg12.obj Hx_11.out (by simp))
    have HYX_12 := hid (HYX_11.out.gr' (M' := New w7.heap.size w8) hg12 (by simp) (fun _ _ h => h))
    have Hq_12 := hid (Hq_11.out.gr' (M' := New w8.heap.size w9) hg12 (by simp) (fun _ _ h => h))
    have hs12 := hg12.size
    have fHb_12 := fld Hb_12.out
    have fHx_12 := fld Hx_12.out
    clear fHb_11 fHx_11 hg12
    go_wp2_with fail
    have hcall := eqSoftS_t X _ _ w12 (HYX_12.out.sfts (by simp)) (HZX_12.out.sfts (by simp))
    (with_reducible refine hcall.mono ?_)
    clear hcall
    rintro e w13 ⟨rfl, hg13⟩
    have Hb_13 := hid (hg13.obj Hb_12.out (by simp))
    have Hg_13 := hid (Hg_12.out.trans hg13)
    have Hv_13 := hid (Hv_12.out.gr hg13)
    have HVX_13 := hid (HVX_12.out.gr hg13)
    have Hr_13 := hid (Hr_12.out.gr hg13)
    have Hk_13 := hid (Hk_12.out.trans hg13)
    have Hm_13 := hid (Hm_12.out.gr hg13)
    have HmH_13 := hid (HmH_12.out.gr' (M' := New w5.heap.size w6) hg13 (by simp) (fun _ _ h => h))
    have Hx_13 := hid (hg13.obj Hx_12.out (by simp))
    have HYX_13 := hid (HYX_12.out.gr' (M' := New w7.heap.size w8) hg13 (by simp) (fun _ _ h => h))
    have Hq_13 := hid (Hq_12.out.gr' (M' := New w8.heap.size w9) hg13 (by simp) (fun _ _ h => h))
    have hs13 := hg13.size
    have fHb_13 := fld Hb_13.out
    have fHx_13 := fld Hx_13.out
    clear fHb_12 fHx_12 hg13
    go_wp2_with fail
    obtain ⟨L, hL1, hL2⟩ : ∃ L : List Nat, (∀ i ∈ L, w5.heap.size ≤ i ∧ i < w9.heap.size) ∧ (∀ i, w5.heap.size ≤ i → i < w9.heap.size → i ∈ L) :=
      ⟨List.range' w5.heap.size (w9.heap.size - w5.heap.size), fun i hi => by have := List.mem_range'_1.1 hi; omega, fun i h1 h2 => List.mem_range'_1.2 ⟨h1, by omega⟩⟩
    have HL1 := hid hL1; have HL2 := hid hL2; clear hL1 hL2
    have HrL_13 := hid ((Hr0.out.sub (S' := L) (fun b hb hm => by have := HL1.out b hm; omega)).gr Hk_13.out.any)
    have HvL_13 := hid ((ModV.sub (S' := L) Hv.out (fun b hb hm => by have := HL1.out b hm; omega)).gr Hg_13.out.any)
    have HWX_13 := hid ((HVX.out.sub (S' := L) (fun b hb hm => by have := HL1.out b hm; omega)).gr Hg_13.out.any)
    have hcall := markModel_c (New w5.heap.size w6) m 1 _ _ HmH_13.out (by omega) (by have := Hmo.out; omega)
    (with_reducible refine hcall.mono ?_)
    clear hcall
    rintro e w14 ⟨rfl, hmk14⟩
    obtain ⟨K, hK⟩ : ∃ K : Int, K = 1 + (mkMo m : Int) := ⟨_, rfl⟩
    rw [← hK]
    have hK0 : 0 ≤ K ∧ K ≤ 10000000 := by have := Hmo.out; omega
    clear hK
    have hgL14 := hmk14.grL (L := L) (fun k hk => HL2.out k (by have := hk.1; omega) (by have := hk.2; omega))
    have Hb_14 := hid (hgL14.obj Hb_13.out (fun h => by have := HL1.out _ h; omega))
    have Hg_14 := hid (Hg_13.out.step hgL14 (fun i hi => .inr (by have := HL1.out i hi; omega)))
    have HYX_14 := hid (HYX_13.out.apart hmk14 (fun b h h' => by have := h.1; have := h.2; have := h'.1; have := h'.2; omega))
    have Hq_14 := hid (Hq_13.out.apart hmk14 (fun b h h' => by have := h.1; have := h.2; have := h'.1; have := h'.2; omega))
    have HrL_14 := hid (HrL_13.out.gr hgL14)
    have HvL_14 := hid (HvL_13.out.gr hgL14)
    have HWX_14 := hid (HWX_13.out.gr hgL14)
    have hs14 := hgL14.size
    have fHb_14 := fld Hb_14.out
    clear fHb_13 fHx_13 hgL14 hmk14
    go_wp2_with fail
    have hcall := markSoftS_c (New w7.heap.size w8) X (K) _ w14 HYX_14.out (by omega) (by have := HmsX.out; omega)
    (with_reducible refine hcall.mono ?_)
    clear hcall
    rintro e w15 ⟨rfl, hmk15⟩
    obtain ⟨KX, hKX⟩ : ∃ K2 : Int, K2 = K + (mkSs X : Int) := ⟨_, rfl⟩
    rw [← hKX]
    have hKX0 : 0 ≤ KX ∧ KX ≤ 20000000 := by have := HmsX.out; omega
    clear hKX
    have hgL15 := hmk15.grL (L := L) (fun k hk => HL2.out k (by have := hk.1; omega) (by have := hk.2; omega))
    have Hb_15 := hid (hgL15.obj Hb_14.out (fun h => by have := HL1.out _ h; omega))
    have Hg_15 := hid (Hg_14.out.step hgL15 (fun i hi => .inr (by have := HL1.out i hi; omega)))
    have Hq_15 := hid (Hq_14.out.apart hmk15 (fun b h h' => by have := h.1; have := h.2; have := h'.1; have := h'.2; omega))
    have HrL_15 := hid (HrL_14.out.gr hgL15)
    have HvL_15 := hid (HvL_14.out.gr hgL15)
    have HWX_15 := hid (HWX_14.out.gr hgL15)
    have hs15 := hgL15.size
    have fHb_15 := fld Hb_15.out
    clear fHb_14 hgL15 hmk15
    go_wp2_with fail
    have hcall := eqIntS_t R _ _ w15 (Hq_15.out.nums (by simp)) (HrL_15.out.sub (by simp))
    (with_reducible refine hcall.mono ?_)
    clear hcall
    rintro e w16 ⟨rfl, hg16⟩
    have Hb_16 := hid (hg16.obj Hb_15.out (by simp))
    have Hg_16 := hid (Hg_15.out.trans hg16)
    have Hq_16 := hid (Hq_15.out.gr' (M' := New w8.heap.size w9) hg16 (by simp) (fun _ _ h => h))
    have HrL_16 := hid (HrL_15.out.gr hg16.any)
    have HvL_16 := hid (HvL_15.out.gr hg16.any)
    have HWX_16 := hid (HWX_15.out.gr hg16.any)
    have hs16 := hg16.size
    have fHb_16 := fld Hb_16.out
    clear fHb_15 hg16
    go_wp2_with fail
    have hcall := markIntS_c (New w8.heap.size w9) R 1 _ w16 Hq_16.out (by omega) (by have := HRl.out; omega)
    (with_reducible refine hcall.mono ?_)
    clear hcall
    rintro e w17 ⟨rfl, hr17, hmk17⟩
    have Hq_17 := hid hr17; clear hr17
    have hgL17 := hmk17.grL (L := L) (fun k hk => HL2.out k (by have := hk.1; omega) (by have := hk.2; omega))
    have Hb_17 := hid (hgL17.obj Hb_16.out (fun h => by have := HL1.out _ h; omega))
    have Hg_17 := hid (Hg_16.out.step hgL17 (fun i hi => .inr (by have := HL1.out i hi; omega)))
    have HrL_17 := hid (HrL_16.out.gr hgL17)
    have HvL_17 := hid (HvL_16.out.gr hgL17)
    have HWX_17 := hid (HWX_16.out.gr hgL17)
    have hs17 := hgL17.size
    have fHb_17 := fld Hb_17.out
    clear fHb_16 hgL17 hmk17
    go_wp2_with fail
    have hcall := heldIntS_t R.length 1 _ w17 (Hq_17.out.nums (by simp)) (by omega) (by have := HRl.out; omega)
    (with_reducible refine hcall.mono ?_)
    clear hcall
    rintro e w18 ⟨rfl, hg18⟩
    have Hb_18 := hid (hg18.obj Hb_17.out (by simp))
    have Hg_18 := hid (Hg_17.out.trans hg18)
    have HrL_18 := hid (HrL_17.out.gr hg18.any)
    have HvL_18 := hid (HvL_17.out.gr hg18.any)
    have HWX_18 := hid (HWX_17.out.gr hg18.any)
    have Hq_18 := hid (Hq_17.out.gr' (M' := New w8.heap.size w9) hg18 (by simp) (fun _ _ h => h))
    have hs18 := hg18.size
    have fHb_18 := fld Hb_18.out
    clear fHb_17 hg18
    have hRl := HRl.out
    go_wp2_with fail
    have Hv_18 := hid (HvL_18.out.sub (S' := []) (by simp))
    have HVX_18 := hid (HWX_18.out.sub (S' := []) (by simp))
    have hcall := toModel_c m _ w18 Hv_18.out Hs.out
    (with_reducible refine hcall.mono ?_)
    clear hcall
    rintro e w19 ⟨v19, rfl, hm19, hg19⟩
    obtain ⟨xo19, xc19, co19, cc19, rfl⟩ := (New.mod hm19).slices
    have Hm_19 := hid (New.mod hm19)
    have HmH_19 := hid hm19
    clear hm19
    have Hb_19 := hid (hg19.obj Hb_18.out (by simp))
    have Hg_19 := hid (Hg_18.out.trans hg19)
    have HrL_19 := hid (HrL_18.out.gr hg19.any)
    have HvL_19 := hid (HvL_18.out.gr hg19.any)
    have HWX_19 := hid (HWX_18.out.gr hg19.any)
    have Hq_19 := hid (Hq_18.out.gr' (M' := New w8.heap.size w9) hg19 (by simp) (fun _ _ h => h))
    have Hv_19 := hid (Hv_18.out.gr hg19)
    have HVX_19 := hid (HVX_18.out.gr hg19)
    have hs19 := hg19.size
    have fHb_19 := fld Hb_19.out
    clear fHb_18 hg19
    go_wp2_with fail
    have hcall := toSoftS_c X _ w19 HVX_19.out HssX.out.1 HssX.out.2
    (with_reducible refine hcall.mono ?_)
    clear hcall
    rintro e w20 ⟨v20, rfl, ho20, hg20⟩
    have HYX_20 := hid ho20
    obtain ⟨xo20, xc20, rfl, -, -⟩ := ho20
    have Hb_20 := hid (hg20.obj Hb_19.out (by simp))
    have Hg_20 := hid (Hg_19.out.trans hg20)
    have HrL_20 := hid (HrL_19.out.gr hg20.any)
    have HvL_20 := hid (HvL_19.out.gr hg20.any)
    have HWX_20 := hid (HWX_19.out.gr hg20.any)
    have Hq_20 := hid (Hq_19.out.gr' (M' := New w8.heap.size w9) hg20 (by simp) (fun _ _ h => h))
    have Hv_20 := hid (Hv_19.out.gr hg20)
    have HVX_20 := hid (HVX_19.out.gr hg20)
    have Hm_20 := hid (Hm_19.out.gr hg20)
    have HmH_20 := hid (HmH_19.out.gr' (M' := New w18.heap.size w19) hg20 (by simp) (fun _ _ h => h))
    have hs20 := hg20.size
    have fHb_20 := fld Hb_20.out
    clear fHb_19 hg20
    go_wp2_with fail
    have hcall := Hardest_c m X _ _ w20 Hm_20.out (HYX_20.out.sfts (by simp)) D HD.out
    (with_reducible refine hcall.mono ?_)
    clear hcall
    rw [← HR.out]
    rintro e w21 ⟨v21, rfl, hr21, hg21⟩
    have Hh_21 := hid (hr21.nums (S := []) (by simp))
    obtain ⟨ro21, rc21, rfl, -, -⟩ := hr21
    have Hb_21 := hid (hg21.obj Hb_20.out (by simp))
    have Hg_21 := hid (Hg_20.out.trans hg21)
    have HrL_21 := hid (HrL_20.out.gr hg21.any)
    have HvL_21 := hid (HvL_20.out.gr hg21.any)
    have HWX_21 := hid (HWX_20.out.gr hg21.any)
    have Hq_21 := hid (Hq_20.out.gr' (M' := New w8.heap.size w9) hg21 (by simp) (fun _ _ h => h))
    have Hv_21 := hid (Hv_20.out.gr hg21)
    have HVX_21 := hid (HVX_20.out.gr hg21)
    have Hm_21 := hid (Hm_20.out.gr hg21)
    have HmH_21 := hid (HmH_20.out.gr' (M' := New w18.heap.size w19) hg21 (by simp) (fun _ _ h => h))
    have HYX_21 := hid (HYX_20.out.gr' (M' := New w19.heap.size w20) hg21 (by simp) (fun _ _ h => h))
    have hs21 := hg21.size
    have fHb_21 := fld Hb_21.out
    clear fHb_20 hg21
    go_wp2_with fail
    have hcall := eqIntS_t R _ _ w21 Hh_21.out (HrL_21.out.sub (by simp))
    (with_reducible refine hcall.mono ?_)
    clear hcall
    rintro e w22 ⟨rfl, hg22⟩
    have Hb_22 := hid (hg22.obj Hb_21.out (by simp))
    have Hg_22 := hid (Hg_21.out.trans hg22)
    have HrL_22 := hid (HrL_21.out.gr hg22.any)
    have HvL_22 := hid (HvL_21.out.gr hg22.any)
    have HWX_22 := hid (HWX_21.out.gr hg22.any)
    have Hq_22 := hid (Hq_21.out.gr' (M' := New w8.heap.size w9) hg22 (by simp) (fun _ _ h => h))
    have Hv_22 := hid (Hv_21.out.gr hg22)
    have HVX_22 := hid (HVX_21.out.gr hg22)
    have Hm_22 := hid (Hm_21.out.gr hg22)
    have HmH_22 := hid (HmH_21.out.gr' (M' := New w18.heap.size w19) hg22 (by simp) (fun _ _ h => h))
    have HYX_22 := hid (HYX_21.out.gr' (M' := New w19.heap.size w20) hg22 (by simp) (fun _ _ h => h))
    have Hh_22 := hid (Hh_21.out.gr hg22)
    have hs22 := hg22.size
    have fHb_22 := fld Hb_22.out
    clear fHb_21 hg22
    go_wp2_with fail
    have hcall := heldIntS_t R.length 1 _ w22 (Hq_22.out.nums (by simp)) (by omega) (by have := HRl.out; omega)
    (with_reducible refine hcall.mono ?_)
    clear hcall
    rintro e w23 ⟨rfl, hg23⟩
    have Hb_23 := hid (hg23.obj Hb_22.out (by simp))
    have Hg_23 := hid (Hg_22.out.trans hg23)
    have HrL_23 := hid (HrL_22.out.gr hg23.any)
    have HvL_23 := hid (HvL_22.out.gr hg23.any)
    have HWX_23 := hid (HWX_22.out.gr hg23.any)
    have Hq_23 := hid (Hq_22.out.gr' (M' := New w8.heap.size w9) hg23 (by simp) (fun _ _ h => h))
    have Hv_23 := hid (Hv_22.out.gr hg23)
    have HVX_23 := hid (HVX_22.out.gr hg23)
    have Hm_23 := hid (Hm_22.out.gr hg23)
    have HmH_23 := hid (HmH_22.out.gr' (M' := New w18.heap.size w19) hg23 (by simp) (fun _ _ h => h))
    have HYX_23 := hid (HYX_22.out.gr' (M' := New w19.heap.size w20) hg23 (by simp) (fun _ _ h => h))
    have Hh_23 := hid (Hh_22.out.gr hg23)
    have hs23 := hg23.size
    have fHb_23 := fld Hb_23.out
    clear fHb_22 hg23
    go_wp2_with fail
    go_ret
    exact ⟨rfl, Hg_23.out⟩
end Go.Proofs.YtngpcoilgilmjaaGreat
