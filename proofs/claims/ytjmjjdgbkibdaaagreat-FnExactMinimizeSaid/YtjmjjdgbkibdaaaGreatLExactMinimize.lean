/-
  Walk of FnExactMinimize.
-/
import Derived.Test.YtjmjjdgbkibdaaaGreatEH
import Derived.Test.YtjmjjdgbkibdaaaGreatOb
set_option linter.unusedVariables false
set_option linter.unusedSimpArgs false
namespace Go.Proofs.YtjmjjdgbkibdaaaGreat
open Go.RowKit


set_option maxRecDepth 100000 in
set_option maxHeartbeats 4000000 in
theorem FnExactMinimize_c (m : Mod) (X : List Int) (v : Value) (vX : Value) (w : World) (hv : ModV [] w v m) (hX : Nums [] w .i64 vX X) :
    Calls Tryz.prog 3 #[v, vX] w (fun e w' => e = .returned (.bool true) ∧ Gr [] w w') := by
  have Hv := hid hv
  obtain ⟨xo, xc, co, cc, rfl⟩ := hv.slices
  have HVX := hid hX
  obtain ⟨xoX, xcX, rfl, ⟨hlX1, hlX2, -⟩, -⟩ := hX
  have hg0 : Gr [] w (w.alloc (.cells #[.slice xo m.doms.length xc, .slice co m.cons.length cc] 25)) := (Gr.refl _ _).alloc _
  have hb0 : (w.alloc (.cells #[.slice xo m.doms.length xc, .slice co m.cons.length cc] 25)).heap[w.heap.size]? = some (.cells #[.slice xo m.doms.length xc, .slice co m.cons.length cc] 25 (0, 0)) := heap_alloc_new _ _
  have Hg0 := hid hg0; have Hb0 := hid hb0
  have fl0 := fld hb0
  clear hv hg0 hb0
  by_cases bigX : 1048576 < X.length
  · go_enter Tryz.func3, Tryz.ntmps3
    go_wp2_with fail
    go_ret
    exact ⟨rfl, Hg0.out⟩
  have nbigX : decide ((1048576 : Int) < (X.length : Int)) = false := by simp; omega
  have HLX : Hid (X.length ≤ 1048576) := hid (by omega)
  have hszX : X.length ≤ 1048576 := by omega
  clear bigX
  go_enter Tryz.func3, Tryz.ntmps3
  go_wp2_with fail
  have hcall := szModel_c m 1048576 _ _ (Hv.out.gr Hg0.out) (by omega)
  (with_reducible refine hcall.mono ?_)
  clear hcall
  rintro e w1 ⟨rfl, hg1⟩
  have hb1 := hg1.obj Hb0.out (by simp)
  have fl1 := fld hb1
  have Hb1 := hid hb1; have Hg1 := hid (Hg0.out.trans hg1)
  have hs0 : w.heap.size < w1.heap.size := lt_of_block hb1
  clear fl0 hb1 hg1
  by_cases hbig : (1048576 : Int) < (szMo m : Int)
  · rw [cut_neg hbig]
    go_wp2_with fail
    go_ret
    exact ⟨rfl, Hg1.out⟩
  rw [cut_pos (by omega)]
  obtain ⟨l, hl⟩ : ∃ l : Int, l = 1048576 - (szMo m : Int) := ⟨_, rfl⟩
  rw [← hl]
  have hl0 : 0 ≤ l ∧ l ≤ 1048576 := by omega
  have Hs : Hid m.Small := hid (small_of_sz (by omega))
  have Hmo : Hid (mkMo m ≤ 2097152) := hid (mk_le (by omega))
  obtain ⟨D, hD⟩ := openVM m
  have HD := hid hD
  clear hl hbig hD
  go_wp2_with fail
  have Hb_1 := hid Hb1.out; have fHb_1 := fld Hb_1.out; have Hg_1 := hid Hg1.out; have Hv_1 := hid (Hv.out.gr Hg1.out)
  have HVX_1 := hid (HVX.out.gr Hg1.out)
  clear fl1
  have hcall := toModel_c m _ w1 Hv_1.out Hs.out
  (with_reducible refine hcall.mono ?_)
  clear hcall
  rintro e w2 ⟨v2, rfl, hm2, hg2⟩
  obtain ⟨xo2, xc2, co2, cc2, rfl⟩ := (New.mod hm2).slices
  have Hm_2 := hid (New.mod hm2)
  have HmH_2 := hid hm2
  clear hm2
  have Hb_2 := hid (hg2.obj Hb_1.out (by simp))
  have Hg_2 := hid (Hg_1.out.trans hg2)
  have Hv_2 := hid (Hv_1.out.gr hg2)
  have HVX_2 := hid (HVX_1.out.gr hg2)
  have hs2 := hg2.size
  have fHb_2 := fld Hb_2.out
  clear fHb_1 hg2
  go_wp2_with fail
  have hcall := toIntS_c X _ w2 HVX_2.out (by omega)
  (with_reducible refine hcall.mono ?_)
  clear hcall
  rintro e w3 ⟨v3, rfl, ho3, hg3⟩
  have HYX_3 := hid (Own.numsM ho3)
  obtain ⟨xo3, xc3, rfl, -, -⟩ := ho3.nums (S := []) (by simp)
  clear ho3
  have Hb_3 := hid (hg3.obj Hb_2.out (by simp))
  have Hg_3 := hid (Hg_2.out.trans hg3)
  have Hv_3 := hid (Hv_2.out.gr hg3)
  have HVX_3 := hid (HVX_2.out.gr hg3)
  have Hm_3 := hid (Hm_2.out.gr hg3)
  have HmH_3 := hid (HmH_2.out.gr' (M' := New w1.heap.size w2) hg3 (by simp) (fun _ _ h => h))
  have hs3 := hg3.size
  have fHb_3 := fld Hb_3.out
  clear fHb_2 hg3
  go_wp2_with fail
  have hcall := specMinimize_c m X _ _ w3 Hm_3.out (HYX_3.out.nums (by simp)) Hs.out D HD.out
  (with_reducible refine hcall.mono ?_)
  clear hcall
  obtain ⟨R, hR⟩ : ∃ R, R = (minO m D X).getD [] := ⟨_, rfl⟩
  rw [← hR]
  have HRl : Hid (R.length ≤ 1000000) := hid (by rw [hR]; exact (minO_len m X D HD.out))
  obtain ⟨RB, hRB⟩ : ∃ RB, RB = (minO m D X).isSome := ⟨_, rfl⟩
  rw [← hRB]
  have HRB := hid hRB; clear hRB
  have HR := hid hR; clear hR
  rintro e w4 ⟨v4, rfl, hr4, hg4⟩
  have Hr_4 := hid hr4
  obtain ⟨ro4, rc4, rfl, -, -⟩ := hr4
  have Hb_4 := hid (hg4.obj Hb_3.out (by simp))
  have Hg_4 := hid (Hg_3.out.trans hg4)
  have Hv_4 := hid (Hv_3.out.gr hg4)
  have HVX_4 := hid (HVX_3.out.gr hg4)
  have hs4 := hg4.size
  have fHb_4 := fld Hb_4.out
  clear fHb_3 hg4
  have Hr0 := hid Hr_4.out
  have Hk_4 := hid (Gr.refl [] w4)
  go_wp2_with fail
  have hcall := toModel_c m _ w4 Hv_4.out Hs.out
  (with_reducible refine hcall.mono ?_)
  clear hcall
  rintro e w5 ⟨v5, rfl, hm5, hg5⟩
  obtain ⟨xo5, xc5, co5, cc5, rfl⟩ := (New.mod hm5).slices
  have Hm_5 := hid (New.mod hm5)
  have HmH_5 := hid hm5
  clear hm5
  have Hb_5 := hid (hg5.obj Hb_4.out (by simp))
  have Hg_5 := hid (Hg_4.out.trans hg5)
  have Hv_5 := hid (Hv_4.out.gr hg5)
  have HVX_5 := hid (HVX_4.out.gr hg5)
  have Hr_5 := hid (Hr_4.out.gr hg5)
  have Hk_5 := hid (Hk_4.out.trans hg5)
  have hs5 := hg5.size
  have fHb_5 := fld Hb_5.out
  clear fHb_4 hg5
  have hg6 : Gr [] w5 (w5.alloc (.cells #[.slice xo5 m.doms.length xc5, .slice co5 m.cons.length cc5] 31)) := (Gr.refl _ _).alloc _
  have Hx_6 : Hid ((w5.alloc (.cells #[.slice xo5 m.doms.length xc5, .slice co5 m.cons.length cc5] 31)).heap[w5.heap.size]? = some (.cells #[.slice xo5 m.doms.length xc5, .slice co5 m.cons.length cc5] 31 (0, 0))) := hid (heap_alloc_new _ _)
  have hsx : w5.heap.size < (w5.alloc (.cells #[.slice xo5 m.doms.length xc5, .slice co5 m.cons.length cc5] 31)).heap.size := by simp
  go_wp2_with fail
  generalize hWx : w5.alloc (.cells #[.slice xo5 m.doms.length xc5, .slice co5 m.cons.length cc5] 31) = w6 at *
  clear hWx
  have Hb_6 := hid (hg6.obj Hb_5.out (by simp))
  have Hg_6 := hid (Hg_5.out.trans hg6)
  have Hv_6 := hid (Hv_5.out.gr hg6)
  have HVX_6 := hid (HVX_5.out.gr hg6)
  have Hr_6 := hid (Hr_5.out.gr hg6)
  have Hk_6 := hid (Hk_5.out.trans hg6)
  have Hm_6 := hid (Hm_5.out.gr hg6)
  have HmH_6 := hid (HmH_5.out.gr' (M' := New w4.heap.size w5) hg6 (by simp) (fun _ _ h => h))
  have hs6 := hg6.size
  have fHb_6 := fld Hb_6.out
  clear fHb_5 hg6
  have fHx_6 := fld Hx_6.out
  have hcall := toIntS_c X _ w6 HVX_6.out (by omega)
  (with_reducible refine hcall.mono ?_)
  clear hcall
  rintro e w7 ⟨v7, rfl, ho7, hg7⟩
  have HYX_7 := hid (Own.numsM ho7)
  obtain ⟨xo7, xc7, rfl, -, -⟩ := ho7.nums (S := []) (by simp)
  clear ho7
  have Hb_7 := hid (hg7.obj Hb_6.out (by simp))
  have Hg_7 := hid (Hg_6.out.trans hg7)
  have Hv_7 := hid (Hv_6.out.gr hg7)
  have HVX_7 := hid (HVX_6.out.gr hg7)
  have Hr_7 := hid (Hr_6.out.gr hg7)
  have Hk_7 := hid (Hk_6.out.trans hg7)
  have Hm_7 := hid (Hm_6.out.gr hg7)
  have HmH_7 := hid (HmH_6.out.gr' (M' := New w4.heap.size w5) hg7 (by simp) (fun _ _ h => h))
  have Hx_7 := hid (hg7.obj Hx_6.out (by simp))
  have hs7 := hg7.size
  have fHb_7 := fld Hb_7.out
  have fHx_7 := fld Hx_7.out
  clear fHb_6 fHx_6 hg7
  go_wp2_with fail
  have hcall := Minimize_c m X _ _ w7 Hm_7.out (HYX_7.out.nums (by simp)) D HD.out
  (with_reducible refine hcall.mono ?_)
  clear hcall
  rw [← HR.out]
  rw [← HRB.out]
  rintro e w8 ⟨v8, rfl, hr8, hg8⟩
  have Hq_8 := hid hr8
  obtain ⟨ro8, rc8, rfl, ⟨hrl1, hrl2, -⟩, -⟩ := hr8
  have Hb_8 := hid (hg8.obj Hb_7.out (by simp))
  have Hg_8 := hid (Hg_7.out.trans hg8)
  have Hv_8 := hid (Hv_7.out.gr hg8)
  have HVX_8 := hid (HVX_7.out.gr hg8)
  have Hr_8 := hid (Hr_7.out.gr hg8)
  have Hk_8 := hid (Hk_7.out.trans hg8)
  have Hm_8 := hid (Hm_7.out.gr hg8)
  have HmH_8 := hid (HmH_7.out.gr' (M' := New w4.heap.size w5) hg8 (by simp) (fun _ _ h => h))
  have Hx_8 := hid (hg8.obj Hx_7.out (by simp))
  have HYX_8 := hid (HYX_7.out.gr' (M' := New w6.heap.size w7) hg8 (by simp) (fun _ _ h => h))
  have hs8 := hg8.size
  have fHb_8 := fld Hb_8.out
  have fHx_8 := fld Hx_8.out
  clear fHb_7 fHx_7 hg8
  go_wp2_with fail
  have hcall := eqIntS_t R _ _ w8 (Hq_8.out.nums (by simp)) Hr_8.out
  (with_reducible refine hcall.mono ?_)
  clear hcall
  rintro e w9 ⟨rfl, hg9⟩
  have Hb_9 := hid (hg9.obj Hb_8.out (by simp))
  have Hg_9 := hid (Hg_8.out.trans hg9)
  have Hv_9 := hid (Hv_8.out.gr hg9)
  have HVX_9 := hid (HVX_8.out.gr hg9)
  have Hr_9 := hid (Hr_8.out.gr hg9)
  have Hk_9 := hid (Hk_8.out.trans hg9)
  have Hm_9 := hid (Hm_8.out.gr hg9)
  have HmH_9 := hid (HmH_8.out.gr' (M' := New w4.heap.size w5) hg9 (by simp) (fun _ _ h => h))
  have Hx_9 := hid (hg9.obj Hx_8.out (by simp))
  have HYX_9 := hid (HYX_8.out.gr' (M' := New w6.heap.size w7) hg9 (by simp) (fun _ _ h => h))
  have Hq_9 := hid (Hq_8.out.gr' (M' := New w7.heap.size w8) hg9 (by simp) (fun _ _ h => h))
  have hs9 := hg9.size
  have fHb_9 := fld Hb_9.out
  have fHx_9 := fld Hx_9.out
  clear fHb_8 fHx_8 hg9
  go_wp2_with fail
  have HMA : Hid (∀ W, Gr [] w9 W → ModV [] W (.agg #[.slice xo m.doms.length xc, .slice co m.cons.length cc]) m ∧ ModV [] W (.agg #[.slice xo5 m.doms.length xc5, .slice co5 m.cons.length cc5]) m ∧ W.heap[w5.heap.size]? = some (.cells #[.slice xo5 m.doms.length xc5, .slice co5 m.cons.length cc5] 31 (0, 0))) :=
    hid fun W h => ⟨Hv_9.out.gr h, Hm_9.out.gr h, h.obj Hx_9.out (by simp)⟩
  go_region_law (first
    | (go_simp; go_at_call 19; refine (toModel_c m _ _ (HMA.out _ ((Gr.refl _ _).drew)).1 Hs.out).mono ?_; rintro e wa ⟨va, rfl, hma, hga⟩; obtain ⟨xoa, xca, coa, cca, rfl⟩ := (New.mod hma).slices; have hgxa : Gr [] w9 wa := ((Gr.refl [] w9).drew).trans hga; have fxa := fld (HMA.out _ hgxa).2.2; have Hma := hid (New.mod hma); have Hgxa := hid hgxa; clear hma hga hgxa)
    | (go_simp; go_at_call 23; refine (eqModel_t m _ _ _ (HMA.out _ Hgxa.out).2.1 Hma.out).mono ?_; rintro e w10 ⟨rfl, hgz⟩))
  all_goals
    have hg10 : Gr [] w9 w10 := Hgxa.out.trans hgz
    clear hgz fxa
    have Hb_10 := hid (hg10.obj Hb_9.out (by simp))
    have Hg_10 := hid (Hg_9.out.trans hg10)
    have Hv_10 := hid (Hv_9.out.gr hg10)
    have HVX_10 := hid (HVX_9.out.gr hg10)
    have Hr_10 := hid (Hr_9.out.gr hg10)
    have Hk_10 := hid (Hk_9.out.trans hg10)
    have Hm_10 := hid (Hm_9.out.gr hg10)
    have HmH_10 := hid (HmH_9.out.gr' (M' := New w4.heap.size w5) hg10 (by simp) (fun _ _ h => h))
    have Hx_10 := hid (hg10.obj Hx_9.out (by simp))
    have HYX_10 := hid (HYX_9.out.gr' (M' := New w6.heap.size w7) hg10 (by simp) (fun _ _ h => h))
    have Hq_10 := hid (Hq_9.out.gr' (M' := New w7.heap.size w8) hg10 (by simp) (fun _ _ h => h))
    have hs10 := hg10.size
    have fHb_10 := fld Hb_10.out
    have fHx_10 := fld Hx_10.out
    clear fHb_9 fHx_9 hg10
    go_wp2_with fail
    have hcall := toIntS_c X _ w10 HVX_10.out (by omega)
    (with_reducible refine hcall.mono ?_)
    clear hcall
    rintro e w11 ⟨v11, rfl, ho11, hg11⟩
    have HZX_11 := hid (Own.numsM ho11)
    obtain ⟨xo11, xc11, rfl, -, -⟩ := ho11.nums (S := []) (by simp)
    clear ho11
    have Hb_11 := hid (hg11.obj Hb_10.out (by simp))
    have Hg_11 := hid (Hg_10.out.trans hg11)
    have Hv_11 := hid (Hv_10.out.gr hg11)
    have HVX_11 := hid (HVX_10.out.gr hg11)
    have Hr_11 := hid (Hr_10.out.gr hg11)
    have Hk_11 := hid (Hk_10.out.trans hg11)
    have Hm_11 := hid (Hm_10.out.gr hg11)
    have HmH_11 := hid (HmH_10.out.gr' (M' := New w4.heap.size w5) hg11 (by simp) (fun _ _ h => h))
    have Hx_11 := hid (hg11.obj Hx_10.out (by simp))
    have HYX_11 := hid (HYX_10.out.gr' (M' := New w6.heap.size w7) hg11 (by simp) (fun _ _ h => h))
    have Hq_11 := hid (Hq_10.out.gr' (M' := New w7.heap.size w8) hg11 (by simp) (fun _ _ h => h))
    have hs11 := hg11.size
    have fHb_11 := fld Hb_11.out
    have fHx_11 := fld Hx_11.out
    clear fHb_10 fHx_10 hg11
    go_wp2_with fail
    have hcall := eqIntS_t X _ _ w11 (HYX_11.out.nums (by simp)) (HZX_11.out.nums (by simp))
    (with_reducible refine hcall.mono ?_)
    clear hcall
    rintro e w12 ⟨rfl, hg12⟩
    have Hb_12 := hid (hg12.obj Hb_11.out (by simp))
    have Hg_12 := hid (Hg_11.out.trans hg12)
    have Hv_12 := hid (Hv_11.out.gr hg12)
    have HVX_12 := hid (HVX_11.out.gr hg12)
    have Hr_12 := hid (Hr_11.out.gr hg12)
    have Hk_12 := hid (Hk_11.out.trans hg12)
    have Hm_12 := hid (Hm_11.out.gr hg12)
    have HmH_12 := hid (HmH_11.out.gr' (M' := New w4.heap.size w5) hg12 (by simp) (fun _ _ h => h))
    have Hx_12 := hid (hg12.obj Hx_11.out (by simp))
    have HYX_12 := hid (HYX_11.out.gr' (M' := New w6.heap.size w7) hg12 (by simp) (fun _ _ h => h))
    have Hq_12 := hid (Hq_11.out.gr' (M' := New w7.heap.size w8) hg12 (by simp) (fun _ _ h => h))
    have hs12 := hg12.size
    have fHb_12 := fld Hb_12.out
    have fHx_12 := fld Hx_12.out
    clear fHb_11 fHx_11 hg12
    go_wp2_with fail
    obtain ⟨L, hL1, hL2⟩ : ∃ L : List Nat, (∀ i ∈ L, w4.heap.size ≤ i ∧ i < w8.heap.size) ∧ (∀ i, w4.heap.size ≤ i → i < w8.heap.size → i ∈ L) :=
      ⟨List.range' w4.heap.size (w8.heap.size - w4.heap.size), fun i hi => by have := List.mem_range'_1.1 hi; omega, fun i h1 h2 => List.mem_range'_1.2 ⟨h1, by omega⟩⟩
    have HL1 := hid hL1; have HL2 := hid hL2; clear hL1 hL2
    have HrL_12 := hid ((Hr0.out.sub (S' := L) (fun b hb hm => by have := HL1.out b hm; omega)).gr Hk_12.out.any)
    have HvL_12 := hid ((ModV.sub (S' := L) Hv.out (fun b hb hm => by have := HL1.out b hm; omega)).gr Hg_12.out.any)
    have HWX_12 := hid ((HVX.out.sub (S' := L) (fun b hb hm => by have := HL1.out b hm; omega)).gr Hg_12.out.any)
    have hcall := markModel_c (New w4.heap.size w5) m 1 _ _ HmH_12.out (by omega) (by have := Hmo.out; omega)
    (with_reducible refine hcall.mono ?_)
    clear hcall
    rintro e w13 ⟨rfl, hmk13⟩
    obtain ⟨K, hK⟩ : ∃ K : Int, K = 1 + (mkMo m : Int) := ⟨_, rfl⟩
    rw [← hK]
    have hK0 : 0 ≤ K ∧ K ≤ 10000000 := by have := Hmo.out; omega
    clear hK
    have hgL13 := hmk13.grL (L := L) (fun k hk => HL2.out k (by have := hk.1; omega) (by have := hk.2; omega))
    have Hb_13 := hid (hgL13.obj Hb_12.out (fun h => by have := HL1.out _ h; omega))
    have Hg_13 := hid (Hg_12.out.step hgL13 (fun i hi => .inr (by have := HL1.out i hi; omega)))
    have HYX_13 := hid (HYX_12.out.apart hmk13 (fun b h h' => by have := h.1; have := h.2; have := h'.1; have := h'.2; omega))
    have Hq_13 := hid (Hq_12.out.apart hmk13 (fun b h h' => by have := h.1; have := h.2; have := h'.1; have := h'.2; omega))
    have HrL_13 := hid (HrL_12.out.gr hgL13)
    have HvL_13 := hid (HvL_12.out.gr hgL13)
    have HWX_13 := hid (HWX_12.out.gr hgL13)
    have hs13 := hgL13.size
    have fHb_13 := fld Hb_13.out
    clear fHb_12 fHx_12 hgL13 hmk13
    go_wp2_with fail
    have hcall := markIntS_c (New w6.heap.size w7) X (K) _ w13 HYX_13.out (by omega) (by omega)
    (with_reducible refine hcall.mono ?_)
    clear hcall
    rintro e w14 ⟨rfl, _, hmk14⟩
    have hgL14 := hmk14.grL (L := L) (fun k hk => HL2.out k (by have := hk.1; omega) (by have := hk.2; omega))
    have Hb_14 := hid (hgL14.obj Hb_13.out (fun h => by have := HL1.out _ h; omega))
    have Hg_14 := hid (Hg_13.out.step hgL14 (fun i hi => .inr (by have := HL1.out i hi; omega)))
    have Hq_14 := hid (Hq_13.out.apart hmk14 (fun b h h' => by have := h.1; have := h.2; have := h'.1; have := h'.2; omega))
    have HrL_14 := hid (HrL_13.out.gr hgL14)
    have HvL_14 := hid (HvL_13.out.gr hgL14)
    have HWX_14 := hid (HWX_13.out.gr hgL14)
    have hs14 := hgL14.size
    have fHb_14 := fld Hb_14.out
    clear fHb_13 hgL14 hmk14
    go_wp2_with fail
    have hcall := eqIntS_t R _ _ w14 (Hq_14.out.nums (by simp)) (HrL_14.out.sub (by simp))
    (with_reducible refine hcall.mono ?_)
    clear hcall
    rintro e w15 ⟨rfl, hg15⟩
    have Hb_15 := hid (hg15.obj Hb_14.out (by simp))
    have Hg_15 := hid (Hg_14.out.trans hg15)
    have Hq_15 := hid (Hq_14.out.gr' (M' := New w7.heap.size w8) hg15 (by simp) (fun _ _ h => h))
    have HrL_15 := hid (HrL_14.out.gr hg15.any)
    have HvL_15 := hid (HvL_14.out.gr hg15.any)
    have HWX_15 := hid (HWX_14.out.gr hg15.any)
    have hs15 := hg15.size
    have fHb_15 := fld Hb_15.out
    clear fHb_14 hg15
    go_wp2_with fail
    have hcall := markIntS_c (New w7.heap.size w8) R 1 _ w15 Hq_15.out (by omega) (by have := HRl.out; omega)
    (with_reducible refine hcall.mono ?_)
    clear hcall
    rintro e w16 ⟨rfl, hr16, hmk16⟩
    have Hq_16 := hid hr16; clear hr16
    have hgL16 := hmk16.grL (L := L) (fun k hk => HL2.out k (by have := hk.1; omega) (by have := hk.2; omega))
    have Hb_16 := hid (hgL16.obj Hb_15.out (fun h => by have := HL1.out _ h; omega))
    have Hg_16 := hid (Hg_15.out.step hgL16 (fun i hi => .inr (by have := HL1.out i hi; omega)))
    have HrL_16 := hid (HrL_15.out.gr hgL16)
    have HvL_16 := hid (HvL_15.out.gr hgL16)
    have HWX_16 := hid (HWX_15.out.gr hgL16)
    have hs16 := hgL16.size
    have fHb_16 := fld Hb_16.out
    clear fHb_15 hgL16 hmk16
    go_wp2_with fail
    have hcall := heldIntS_t R.length 1 _ w16 (Hq_16.out.nums (by simp)) (by omega) (by have := HRl.out; omega)
    (with_reducible refine hcall.mono ?_)
    clear hcall
    rintro e w17 ⟨rfl, hg17⟩
    have Hb_17 := hid (hg17.obj Hb_16.out (by simp))
    have Hg_17 := hid (Hg_16.out.trans hg17)
    have HrL_17 := hid (HrL_16.out.gr hg17.any)
    have HvL_17 := hid (HvL_16.out.gr hg17.any)
    have HWX_17 := hid (HWX_16.out.gr hg17.any)
    have Hq_17 := hid (Hq_16.out.gr' (M' := New w7.heap.size w8) hg17 (by simp) (fun _ _ h => h))
    have hs17 := hg17.size
    have fHb_17 := fld Hb_17.out
    clear fHb_16 hg17
    have hRl := HRl.out
    go_wp2_with fail
    have Hv_17 := hid (HvL_17.out.sub (S' := []) (by simp))
    have HVX_17 := hid (HWX_17.out.sub (S' := []) (by simp))
    have hcall := toModel_c m _ w17 Hv_17.out Hs.out
    (with_reducible refine hcall.mono ?_)
    clear hcall
    rintro e w18 ⟨v18, rfl, hm18, hg18⟩
    obtain ⟨xo18, xc18, co18, cc18, rfl⟩ := (New.mod hm18).slices
    have Hm_18 := hid (New.mod hm18)
    have HmH_18 := hid hm18
    clear hm18
    have Hb_18 := hid (hg18.obj Hb_17.out (by simp))
    have Hg_18 := hid (Hg_17.out.trans hg18)
    have HrL_18 := hid (HrL_17.out.gr hg18.any)
    have HvL_18 := hid (HvL_17.out.gr hg18.any)
    have HWX_18 := hid (HWX_17.out.gr hg18.any)
    have Hq_18 := hid (Hq_17.out.gr' (M' := New w7.heap.size w8) hg18 (by simp) (fun _ _ h => h))
    have Hv_18 := hid (Hv_17.out.gr hg18)
    have HVX_18 := hid (HVX_17.out.gr hg18)
    have hs18 := hg18.size
    have fHb_18 := fld Hb_18.out
    clear fHb_17 hg18
    go_wp2_with fail
    have hcall := toIntS_c X _ w18 HVX_18.out (by omega)
    (with_reducible refine hcall.mono ?_)
    clear hcall
    rintro e w19 ⟨v19, rfl, ho19, hg19⟩
    have HYX_19 := hid (Own.numsM ho19)
    obtain ⟨xo19, xc19, rfl, -, -⟩ := ho19.nums (S := []) (by simp)
    clear ho19
    have Hb_19 := hid (hg19.obj Hb_18.out (by simp))
    have Hg_19 := hid (Hg_18.out.trans hg19)
    have HrL_19 := hid (HrL_18.out.gr hg19.any)
    have HvL_19 := hid (HvL_18.out.gr hg19.any)
    have HWX_19 := hid (HWX_18.out.gr hg19.any)
    have Hq_19 := hid (Hq_18.out.gr' (M' := New w7.heap.size w8) hg19 (by simp) (fun _ _ h => h))
    have Hv_19 := hid (Hv_18.out.gr hg19)
    have HVX_19 := hid (HVX_18.out.gr hg19)
    have Hm_19 := hid (Hm_18.out.gr hg19)
    have HmH_19 := hid (HmH_18.out.gr' (M' := New w17.heap.size w18) hg19 (by simp) (fun _ _ h => h))
    have hs19 := hg19.size
    have fHb_19 := fld Hb_19.out
    clear fHb_18 hg19
    go_wp2_with fail
    have hcall := Minimize_c m X _ _ w19 Hm_19.out (HYX_19.out.nums (by simp)) D HD.out
    (with_reducible refine hcall.mono ?_)
    clear hcall
    rw [← HR.out]
    rw [← HRB.out]
    rintro e w20 ⟨v20, rfl, hr20, hg20⟩
    have Hh_20 := hid (hr20.nums (S := []) (by simp))
    obtain ⟨ro20, rc20, rfl, -, -⟩ := hr20
    have Hb_20 := hid (hg20.obj Hb_19.out (by simp))
    have Hg_20 := hid (Hg_19.out.trans hg20)
    have HrL_20 := hid (HrL_19.out.gr hg20.any)
    have HvL_20 := hid (HvL_19.out.gr hg20.any)
    have HWX_20 := hid (HWX_19.out.gr hg20.any)
    have Hq_20 := hid (Hq_19.out.gr' (M' := New w7.heap.size w8) hg20 (by simp) (fun _ _ h => h))
    have Hv_20 := hid (Hv_19.out.gr hg20)
    have HVX_20 := hid (HVX_19.out.gr hg20)
    have Hm_20 := hid (Hm_19.out.gr hg20)
    have HmH_20 := hid (HmH_19.out.gr' (M' := New w17.heap.size w18) hg20 (by simp) (fun _ _ h => h))
    have HYX_20 := hid (HYX_19.out.gr' (M' := New w18.heap.size w19) hg20 (by simp) (fun _ _ h => h))
    have hs20 := hg20.size
    have fHb_20 := fld Hb_20.out
    clear fHb_19 hg20
    go_wp2_with fail
    have hcall := eqIntS_t R _ _ w20 Hh_20.out (HrL_20.out.sub (by simp))
    (with_reducible refine hcall.mono ?_)
    clear hcall
    rintro e w21 ⟨rfl, hg21⟩
    have Hb_21 := hid (hg21.obj Hb_20.out (by simp))
    have Hg_21 := hid (Hg_20.out.trans hg21)
    have HrL_21 := hid (HrL_20.out.gr hg21.any)
    have HvL_21 := hid (HvL_20.out.gr hg21.any)
    have HWX_21 := hid (HWX_20.out.gr hg21.any)
    have Hq_21 := hid (Hq_20.out.gr' (M' := New w7.heap.size w8) hg21 (by simp) (fun _ _ h => h))
    have Hv_21 := hid (Hv_20.out.gr hg21)
    have HVX_21 := hid (HVX_20.out.gr hg21)
    have Hm_21 := hid (Hm_20.out.gr hg21)
    have HmH_21 := hid (HmH_20.out.gr' (M' := New w17.heap.size w18) hg21 (by simp) (fun _ _ h => h))
    have HYX_21 := hid (HYX_20.out.gr' (M' := New w18.heap.size w19) hg21 (by simp) (fun _ _ h => h))
    have Hh_21 := hid (Hh_20.out.gr hg21)
    have hs21 := hg21.size
    have fHb_21 := fld Hb_21.out
    clear fHb_20 hg21
    go_wp2_with fail
    have hcall := heldIntS_t R.length 1 _ w21 (Hq_21.out.nums (by simp)) (by omega) (by have := HRl.out; omega)
    (with_reducible refine hcall.mono ?_)
    clear hcall
    rintro e w22 ⟨rfl, hg22⟩
    have Hb_22 := hid (hg22.obj Hb_21.out (by simp))
    have Hg_22 := hid (Hg_21.out.trans hg22)
    have HrL_22 := hid (HrL_21.out.gr hg22.any)
    have HvL_22 := hid (HvL_21.out.gr hg22.any)
    have HWX_22 := hid (HWX_21.out.gr hg22.any)
    have Hq_22 := hid (Hq_21.out.gr' (M' := New w7.heap.size w8) hg22 (by simp) (fun _ _ h => h))
    have Hv_22 := hid (Hv_21.out.gr hg22)
    have HVX_22 := hid (HVX_21.out.gr hg22)
    have Hm_22 := hid (Hm_21.out.gr hg22)
    have HmH_22 := hid (HmH_21.out.gr' (M' := New w17.heap.size w18) hg22 (by simp) (fun _ _ h => h))
    have HYX_22 := hid (HYX_21.out.gr' (M' := New w18.heap.size w19) hg22 (by simp) (fun _ _ h => h))
    have Hh_22 := hid (Hh_21.out.gr hg22)
    have hs22 := hg22.size
    have fHb_22 := fld Hb_22.out
    clear fHb_21 hg22
    go_wp2_with fail
    go_ret
    exact ⟨rfl, Hg_22.out⟩
end Go.Proofs.YtjmjjdgbkibdaaaGreat
