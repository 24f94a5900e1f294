/-
  Walk of FnExactImprove.
-/
import Derived.Test.YtdpcjfbnakfflaaGreatEH
import Derived.Test.YtdpcjfbnakfflaaGreatIw
import Derived.Test.YtdpcjfbnakfflaaGreatIm
set_option linter.unusedVariables false
namespace Go.Proofs.YtdpcjfbnakfflaaGreat
open Go.RowKit


set_option maxRecDepth 100000 in
set_option maxHeartbeats 4000000 in
theorem FnExactImprove_c (m : Mod) (X : List Int) (Y : List Int) (Z : List Int) (v : Value) (vX : Value) (vY : Value) (vZ : Value) (w : World) (hv : ModV [] w v m) (hX : Nums [] w .i64 vX X) (hY : Nums [] w .i64 vY Y) (hZ : Nums [] w .i64 vZ Z) :
    Calls Tryz.prog 3 #[v, vX, vY, vZ] w (fun e w' => e = .returned (.bool true) ∧ Gr [] w w') := by
  have Hv := hid hv
  obtain ⟨xo, xc, co, cc, rfl⟩ := hv.slices
  have HVX := hid hX
  obtain ⟨xoX, xcX, rfl, ⟨hlX1, hlX2, -⟩, -⟩ := hX
  have HVY := hid hY
  obtain ⟨xoY, xcY, rfl, ⟨hlY1, hlY2, -⟩, -⟩ := hY
  have HVZ := hid hZ
  obtain ⟨xoZ, xcZ, rfl, ⟨hlZ1, hlZ2, -⟩, -⟩ := hZ
  have hg0 : Gr [] w (w.alloc (.cells #[.slice xo m.doms.length xc, .slice co m.cons.length cc] 25)) := (Gr.refl _ _).alloc _
  have hb0 : (w.alloc (.cells #[.slice xo m.doms.length xc, .slice co m.cons.length cc] 25)).heap[w.heap.size]? = some (.cells #[.slice xo m.doms.length xc, .slice co m.cons.length cc] 25 (0, 0)) := heap_alloc_new _ _
  have Hg0 := hid hg0; have Hb0 := hid hb0
  have fl0 := fld hb0
  clear hv hg0 hb0
  by_cases bigX : 1048576 < X.length
  · go_enter Tryz.func3, Tryz.ntmps3
    go_wp2_with fail
    go_ret
    exact ⟨rfl, Hg0.out⟩
  have nbigX : decide ((1048576 : Int) < (X.length : Int)) = false := by simp; omega
  have HLX : Hid (X.length ≤ 1048576) := hid (by omega)
  have hszX : X.length ≤ 1048576 := by omega
  clear bigX
  by_cases bigY : 1048576 < Y.length
  · go_enter Tryz.func3, Tryz.ntmps3
    go_wp2_with fail
    go_ret
    exact ⟨rfl, Hg0.out⟩
  have nbigY : decide ((1048576 : Int) < (Y.length : Int)) = false := by simp; omega
  have HLY : Hid (Y.length ≤ 1048576) := hid (by omega)
  have hszY : Y.length ≤ 1048576 := by omega
  clear bigY
  by_cases bigZ : 1048576 < Z.length
  · go_enter Tryz.func3, Tryz.ntmps3
    go_wp2_with fail
    go_ret
    exact ⟨rfl, Hg0.out⟩
  have nbigZ : decide ((1048576 : Int) < (Z.length : Int)) = false := by simp; omega
  have HLZ : Hid (Z.length ≤ 1048576) := hid (by omega)
  have hszZ : Z.length ≤ 1048576 := by omega
  clear bigZ
  go_enter Tryz.func3, Tryz.ntmps3
  go_wp2_with fail
  have hcall := szModel_c m 1048576 _ _ (Hv.out.gr Hg0.out) (by omega)
  (with_reducible refine hcall.mono ?_)
  clear hcall
  rintro e w1 ⟨rfl, hg1⟩
  have hb1 := hg1.obj Hb0.out (by simp)
  have fl1 := fld hb1
  have Hb1 := hid hb1; have Hg1 := hid (Hg0.out.trans hg1)
  have hs0 : w.heap.size < w1.heap.size := lt_of_block hb1
  clear fl0 hb1 hg1
  by_cases hbig : (1048576 : Int) < (szMo m : Int)
  · rw [cut_neg hbig]
    go_wp2_with fail
    go_ret
    exact ⟨rfl, Hg1.out⟩
  rw [cut_pos (by omega)]
  obtain ⟨l, hl⟩ : ∃ l : Int, l = 1048576 - (szMo m : Int) := ⟨_, rfl⟩
  rw [← hl]
  have hl0 : 0 ≤ l ∧ l ≤ 1048576 := by omega
  have Hs : Hid m.Small := hid (small_of_sz (by omega))
  have Hmo : Hid (mkMo m ≤ 2097152) := hid (mk_le (by omega))
  obtain ⟨D, hD⟩ := openVM m
  have HD := hid hD
  clear hl hbig hD
  go_wp2_with fail
  have Hb_1 := hid Hb1.out; have fHb_1 := fld Hb_1.out; have Hg_1 := hid Hg1.out; have Hv_1 := hid (Hv.out.gr Hg1.out)
  have HVX_1 := hid (HVX.out.gr Hg1.out)
  have HVY_1 := hid (HVY.out.gr Hg1.out)
  have HVZ_1 := hid (HVZ.out.gr Hg1.out)
  clear fl1
  have hcall := toModel_c m _ w1 Hv_1.out Hs.out
  (with_reducible refine hcall.mono ?_)
  clear hcall
  rintro e w2 ⟨v2, rfl, hm2, hg2⟩
  obtain ⟨xo2, xc2, co2, cc2, rfl⟩ := (New.mod hm2).slices
  have Hm_2 := hid (New.mod hm2)
  have HmH_2 := hid hm2
  clear hm2
  have Hb_2 := hid (hg2.obj Hb_1.out (by simp))
  have Hg_2 := hid (Hg_1.out.trans hg2)
  have Hv_2 := hid (Hv_1.out.gr hg2)
  have HVX_2 := hid (HVX_1.out.gr hg2)
  have HVY_2 := hid (HVY_1.out.gr hg2)
  have HVZ_2 := hid (HVZ_1.out.gr hg2)
  have hs2 := hg2.size
  have fHb_2 := fld Hb_2.out
  clear fHb_1 hg2
  go_wp2_with fail
  have hcall := toIntS_c X _ w2 HVX_2.out (by omega)
  (with_reducible refine hcall.mono ?_)
  clear hcall
  rintro e w3 ⟨v3, rfl, ho3, hg3⟩
  have HYX_3 := hid (Own.numsM ho3)
  obtain ⟨xo3, xc3, rfl, -, -⟩ := ho3.nums (S := []) (by simp)
  clear ho3
  have Hb_3 := hid (hg3.obj Hb_2.out (by simp))
  have Hg_3 := hid (Hg_2.out.trans hg3)
  have Hv_3 := hid (Hv_2.out.gr hg3)
  have HVX_3 := hid (HVX_2.out.gr hg3)
  have HVY_3 := hid (HVY_2.out.gr hg3)
  have HVZ_3 := hid (HVZ_2.out.gr hg3)
  have Hm_3 := hid (Hm_2.out.gr hg3)
  have HmH_3 := hid (HmH_2.out.gr' (M' := New w1.heap.size w2) hg3 (by simp) (fun _ _ h => h))
  have hs3 := hg3.size
  have fHb_3 := fld Hb_3.out
  clear fHb_2 hg3
  go_wp2_with fail
  have hcall := toIntS_c Y _ w3 HVY_3.out (by omega)
  (with_reducible refine hcall.mono ?_)
  clear hcall
  rintro e w4 ⟨v4, rfl, ho4, hg4⟩
  have HYY_4 := hid (Own.numsM ho4)
  obtain ⟨xo4, xc4, rfl, -, -⟩ := ho4.nums (S := []) (by simp)
  clear ho4
  have Hb_4 := hid (hg4.obj Hb_3.out (by simp))
  have Hg_4 := hid (Hg_3.out.trans hg4)
  have Hv_4 := hid (Hv_3.out.gr hg4)
  have HVX_4 := hid (HVX_3.out.gr hg4)
  have HVY_4 := hid (HVY_3.out.gr hg4)
  have HVZ_4 := hid (HVZ_3.out.gr hg4)
  have Hm_4 := hid (Hm_3.out.gr hg4)
  have HmH_4 := hid (HmH_3.out.gr' (M' := New w1.heap.size w2) hg4 (by simp) (fun _ _ h => h))
  have HYX_4 := hid (HYX_3.out.gr' (M' := New w2.heap.size w3) hg4 (by simp) (fun _ _ h => h))
  have hs4 := hg4.size
  have fHb_4 := fld Hb_4.out
  clear fHb_3 hg4
  go_wp2_with fail
  have hcall := toIntS_c Z _ w4 HVZ_4.out (by omega)
  (with_reducible refine hcall.mono ?_)
  clear hcall
  rintro e w5 ⟨v5, rfl, ho5, hg5⟩
  have HYZ_5 := hid (Own.numsM ho5)
  obtain ⟨xo5, xc5, rfl, -, -⟩ := ho5.nums (S := []) (by simp)
  clear ho5
  have Hb_5 := hid (hg5.obj Hb_4.out (by simp))
  have Hg_5 := hid (Hg_4.out.trans hg5)
  have Hv_5 := hid (Hv_4.out.gr hg5)
  have HVX_5 := hid (HVX_4.out.gr hg5)
  have HVY_5 := hid (HVY_4.out.gr hg5)
  have HVZ_5 := hid (HVZ_4.out.gr hg5)
  have Hm_5 := hid (Hm_4.out.gr hg5)
  have HmH_5 := hid (HmH_4.out.gr' (M' := New w1.heap.size w2) hg5 (by simp) (fun _ _ h => h))
  have HYX_5 := hid (HYX_4.out.gr' (M' := New w2.heap.size w3) hg5 (by simp) (fun _ _ h => h))
  have HYY_5 := hid (HYY_4.out.gr' (M' := New w3.heap.size w4) hg5 (by simp) (fun _ _ h => h))
  have hs5 := hg5.size
  have fHb_5 := fld Hb_5.out
  clear fHb_4 hg5
  go_wp2_with fail
  have hcall := specImprove_c m X Y Z _ _ _ _ w5 Hm_5.out Hs.out (HYX_5.out.nums (by simp)) (HYY_5.out.nums (by simp)) (HYZ_5.out.nums (by simp)) D HD.out
  (with_reducible refine hcall.mono ?_)
  clear hcall
  obtain ⟨R, hR⟩ : ∃ R, R = (impO m D X Y Z).getD [] := ⟨_, rfl⟩
  rw [← hR]
  have HRl : Hid (R.length ≤ 1000000) := hid (by rw [hR]; exact impO_len m X Y Z D HD.out)
  obtain ⟨RB, hRB⟩ : ∃ RB, RB = (impO m D X Y Z).isSome := ⟨_, rfl⟩
  rw [← hRB]
  have HRB := hid hRB; clear hRB
  have HR := hid hR; clear hR
  rintro e w6 ⟨v6, rfl, hr6, hg6⟩
  have Hr_6 := hid hr6
  obtain ⟨ro6, rc6, rfl, -, -⟩ := hr6
  have Hb_6 := hid (hg6.obj Hb_5.out (by simp))
  have Hg_6 := hid (Hg_5.out.trans hg6)
  have Hv_6 := hid (Hv_5.out.gr hg6)
  have HVX_6 := hid (HVX_5.out.gr hg6)
  have HVY_6 := hid (HVY_5.out.gr hg6)
  have HVZ_6 := hid (HVZ_5.out.gr hg6)
  have hs6 := hg6.size
  have fHb_6 := fld Hb_6.out
  clear fHb_5 hg6
  have Hr0 := hid Hr_6.out
  have Hk_6 := hid (Gr.refl [] w6)
  go_wp2_with fail
  have hcall := toModel_c m _ w6 Hv_6.out Hs.out
  (with_reducible refine hcall.mono ?_)
  clear hcall
  rintro e w7 ⟨v7, rfl, hm7, hg7⟩
  obtain ⟨xo7, xc7, co7, cc7, rfl⟩ := (New.mod hm7).slices
  have Hm_7 := hid (New.mod hm7)
  have HmH_7 := hid hm7
  clear hm7
  have Hb_7 := hid (hg7.obj Hb_6.out (by simp))
  have Hg_7 := hid (Hg_6.out.trans hg7)
  have Hv_7 := hid (Hv_6.out.gr hg7)
  have HVX_7 := hid (HVX_6.out.gr hg7)
  have HVY_7 := hid (HVY_6.out.gr hg7)
  have HVZ_7 := hid (HVZ_6.out.gr hg7)
  have Hr_7 := hid (Hr_6.out.gr hg7)
  have Hk_7 := hid (Hk_6.out.trans hg7)
  have hs7 := hg7.size
  have fHb_7 := fld Hb_7.out
  clear fHb_6 hg7
  have hg8 : Gr [] w7 (w7.alloc (.cells #[.slice xo7 m.doms.length xc7, .slice co7 m.cons.length cc7] 31)) := (Gr.refl _ _).alloc _
  have Hx_8 : Hid ((w7.alloc (.cells #[.slice xo7 m.doms.length xc7, .slice co7 m.cons.length cc7] 31)).heap[w7.heap.size]? = some (.cells #[.slice xo7 m.doms.length xc7, .slice co7 m.cons.length cc7] 31 (0, 0))) := hid (heap_alloc_new _ _)
  have hsx : w7.heap.size < (w7.alloc (.cells #[.slice xo7 m.doms.length xc7, .slice co7 m.cons.length cc7] 31)).heap.size := by simp
  go_wp2_with fail
  generalize hWx : w7.alloc (.cells #[.slice xo7 m.doms.length xc7, .slice co7 m.cons.length cc7] 31) = w8 at *
  clear hWx
  have Hb_8 := hid (hg8.obj Hb_7.out (by simp))
  have Hg_8 := hid (Hg_7.out.trans hg8)
  have Hv_8 := hid (Hv_7.out.gr hg8)
  have HVX_8 := hid (HVX_7.out.gr hg8)
  have HVY_8 := hid (HVY_7.out.gr hg8)
  have HVZ_8 := hid (HVZ_7.out.gr hg8)
  have Hr_8 := hid (Hr_7.out.gr hg8)
  have Hk_8 := hid (Hk_7.out.trans hg8)
  have Hm_8 := hid (Hm_7.out.gr hg8)
  have HmH_8 := hid (HmH_7.out.gr' (M' := New w6.heap.size w7) hg8 (by simp) (fun _ _ h => h))
  have hs8 := hg8.size
  have fHb_8 := fld Hb_8.out
  clear fHb_7 hg8
  have fHx_8 := fld Hx_8.out
  have hcall := toIntS_c X _ w8 HVX_8.out (by omega)
  (with_reducible refine hcall.mono ?_)
  clear hcall
  rintro e w9 ⟨v9, rfl, ho9, hg9⟩
  have HYX_9 := hid (Own.numsM ho9)
  obtain ⟨xo9, xc9, rfl, -, -⟩ := ho9.nums (S := []) (by simp)
  clear ho9
  have Hb_9 := hid (hg9.obj Hb_8.out (by simp))
  have Hg_9 := hid (Hg_8.out.trans hg9)
  have Hv_9 := hid (Hv_8.out.gr hg9)
  have HVX_9 := hid (HVX_8.out.gr hg9)
  have HVY_9 := hid (HVY_8.out.gr hg9)
  have HVZ_9 := hid (HVZ_8.out.gr hg9)
  have Hr_9 := hid (Hr_8.out.gr hg9)
  have Hk_9 := hid (Hk_8.out.trans hg9)
  have Hm_9 := hid (Hm_8.out.gr hg9)
  have HmH_9 := hid (HmH_8.out.gr' (M' := New w6.heap.size w7) hg9 (by simp) (fun _ _ h => h))
  have Hx_9 := hid (hg9.obj Hx_8.out (by simp))
  have hs9 := hg9.size
  have fHb_9 := fld Hb_9.out
  have fHx_9 := fld Hx_9.out
  clear fHb_8 fHx_8 hg9
  go_wp2_with fail
  have hcall := toIntS_c Y _ w9 HVY_9.out (by omega)
  (with_reducible refine hcall.mono ?_)
  clear hcall
  rintro e w10 ⟨v10, rfl, ho10, hg10⟩
  have HYY_10 := hid (Own.numsM ho10)
  obtain ⟨xo10, xc10, rfl, -, -⟩ := ho10.nums (S := []) (by simp)
  clear ho10
  have Hb_10 := hid (hg10.obj Hb_9.out (by simp))
  have Hg_10 := hid (Hg_9.out.trans hg10)
  have Hv_10 := hid (Hv_9.out.gr hg10)
  have HVX_10 := hid (HVX_9.out.gr hg10)
  have HVY_10 := hid (HVY_9.out.gr hg10)
  have HVZ_10 := hid (HVZ_9.out.gr hg10)
  have Hr_10 := hid (Hr_9.out.gr hg10)
  have Hk_10 := hid (Hk_9.out.trans hg10)
  have Hm_10 := hid (Hm_9.out.gr hg10)
  have HmH_10 := hid (HmH_9.out.gr' (M' := New w6.heap.size w7) hg10 (by simp) (fun _ _ h => h))
  have Hx_10 := hid (hg10.obj Hx_9.out (by simp))
  have HYX_10 := hid (HYX_9.out.gr' (M' := New w8.heap.size w9) hg10 (by simp) (fun _ _ h => h))
  have hs10 := hg10.size
  have fHb_10 := fld Hb_10.out
  have fHx_10 := fld Hx_10.out
  clear fHb_9 fHx_9 hg10
  go_wp2_with fail
  have hcall := toIntS_c Z _ w10 HVZ_10.out (by omega)
  (with_reducible refine hcall.mono ?_)
  clear hcall
  rintro e w11 ⟨v11, rfl, ho11, hg11⟩
  have HYZ_11 := hid (Own.numsM ho11)
  obtain ⟨xo11, xc11, rfl, -, -⟩ := ho11.nums (S := []) (by simp)
  clear ho11
  have Hb_11 := hid (hg11.obj Hb_10.out (by simp))
  have Hg_11 := hid (Hg_10.out.trans hg11)
  have Hv_11 := hid (Hv_10.out.gr hg11)
  have HVX_11 := hid (HVX_10.out.gr hg11)
  have HVY_11 := hid (HVY_10.out.gr hg11)
  have HVZ_11 := hid (HVZ_10.out.gr hg11)
  have Hr_11 := hid (Hr_10.out.gr hg11)
  have Hk_11 := hid (Hk_10.out.trans hg11)
  have Hm_11 := hid (Hm_10.out.gr hg11)
  have HmH_11 := hid (HmH_10.out.gr' (M' := New w6.heap.size w7) hg11 (by simp) (fun _ _ h => h))
  have Hx_11 := hid (hg11.obj Hx_10.out (by simp))
  have HYX_11 := hid (HYX_10.out.gr' (M' := New w8.heap.size w9) hg11 (by simp) (fun _ _ h => h))
  have HYY_11 := hid (HYY_10.out.gr' (M' := New w9.heap.size w10) hg11 (by simp) (fun _ _ h => h))
  have hs11 := hg11.size
  have fHb_11 := fld Hb_11.out
  have fHx_11 := fld Hx_11.out
  clear fHb_10 fHx_10 hg11
  go_wp2_with fail
  have hcall := Improve_c m X Y Z _ _ _ _ w11 Hm_11.out (HYX_11.out.nums (by simp)) (HYY_11.out.nums (by simp)) (HYZ_11.out.nums (by simp)) D HD.out
  (with_reducible refine hcall.mono ?_)
  clear hcall
  rw [← HR.out]
  rw [← HRB.out]
  rintro e w12 ⟨v12, rfl, hr12, hg12⟩
  have Hq_12 := hid hr12
  obtain ⟨ro12, rc12, rfl, ⟨hrl1, hrl2, -⟩, -⟩ := hr12
  have Hb_12 := hid (hg12.obj Hb_11.out (by simp))
  have Hg_12 := hid (Hg_11.out.trans hg12)
  have Hv_12 := hid (Hv_11.out.gr hg12)
  have HVX_12 := hid (HVX_11.out.gr hg12)
  have HVY_12 := hid (HVY_11.out.gr hg12)
  have HVZ_12 := hid (HVZ_11.out.gr hg12)
  have Hr_12 := hid (Hr_11.out.gr hg12)
  have Hk_12 := hid (Hk_11.out.trans hg12)
  have Hm_12 := hid (Hm_11.out.gr hg12)
  have HmH_12 := hid (HmH_11.out.gr' (M' := New w6.heap.size w7) hg12 (by simp) (fun _ _ h => h))
  have Hx_12 := hid (hg12.obj Hx_11.out (by simp))
  have HYX_12 := hid (HYX_11.out.gr' (M' := New w8.heap.size w9) hg12 (by simp) (fun _ _ h => h))
  have HYY_12 := hid (HYY_11.out.gr' (M' := New w9.heap.size w10) hg12 (by simp) (fun _ _ h => h))
  have HYZ_12 := hid (HYZ_11.out.gr' (M' := New w10.heap.size w11) hg12 (by simp) (fun _ _ h => h))
  have hs12 := hg12.size
  have fHb_12 := fld Hb_12.out
  have fHx_12 := fld Hx_12.out
  clear fHb_11 fHx_11 hg12
  go_wp2_with fail
  have hcall := eqIntS_t R _ _ w12 (Hq_12.out.nums (by simp)) Hr_12.out
  (with_reducible refine hcall.mono ?_)
  clear hcall
  rintro e w13 ⟨rfl, hg13⟩
  have Hb_13 := hid (hg13.obj Hb_12.out (by simp))
  have Hg_13 := hid (Hg_12.out.trans hg13)
  have Hv_13 := hid (Hv_12.out.gr hg13)
  have HVX_13 := hid (HVX_12.out.gr hg13)
  have HVY_13 := hid (HVY_12.out.gr hg13)
  have HVZ_13 := hid (HVZ_12.out.gr hg13)
  have Hr_13 := hid (Hr_12.out.gr hg13)
  have Hk_13 := hid (Hk_12.out.trans hg13)
  have Hm_13 := hid (Hm_12.out.gr hg13)
  have HmH_13 := hid (HmH_12.out.gr' (M' := New w6.heap.size w7) hg13 (by simp) (fun _ _ h => h))
  have Hx_13 := hid (hg13.obj Hx_12.out (by simp))
  have HYX_13 := hid (HYX_12.out.gr' (M' := New w8.heap.size w9) hg13 (by simp) (fun _ _ h => h))
  have HYY_13 := hid (HYY_12.out.gr' (M' := New w9.heap.size w10) hg13 (by simp) (fun _ _ h => h))
  have HYZ_13 := hid (HYZ_12.out.gr' (M' := New w10.heap.size w11) hg13 (by simp) (fun _ _ h => h))
  have Hq_13 := hid (Hq_12.out.gr' (M' := New w11.heap.size w12) hg13 (by simp) (fun _ _ h => h))
  have hs13 := hg13.size
  have fHb_13 := fld Hb_13.out
  have fHx_13 := fld Hx_13.out
  clear fHb_12 fHx_12 hg13
  go_wp2_with fail
  have HMA : Hid (∀ W, Gr [] w13 W → ModV [] W (.agg #[.slice xo m.doms.length xc, .slice co m.cons.length cc]) m ∧ ModV [] W (.agg #[.slice xo7 m.doms.length xc7, .slice co7 m.cons.length cc7]) m ∧ W.heap[w7.heap.size]? = some (.cells #[.slice xo7 m.doms.length xc7, .slice co7 m.cons.length cc7] 31 (0, 0))) :=
    hid fun W h => ⟨Hv_13.out.gr h, Hm_13.out.gr h, h.obj Hx_13.out (by simp)⟩
  go_region_law (first
    | (go_simp; go_at_call 17; refine (toModel_c m _ _ (HMA.out _ ((Gr.refl _ _).drew)).1 Hs.out).mono ?_; rintro e wa ⟨va, rfl, hma, hga⟩; obtain ⟨xoa, xca, coa, cca, rfl⟩ := (New.mod hma).slices; have hgxa : Gr [] w13 wa := ((Gr.refl [] w13).drew).trans hga; have fxa := fld (HMA.out _ hgxa).2.2; have Hma := hid (New.mod hma); have Hgxa := hid hgxa; clear hma hga hgxa)
    | (go_simp; go_at_call 21; refine (eqModel_t m _ _ _ (HMA.out _ Hgxa.out).2.1 Hma.out).mono ?_; rintro e w14 ⟨rfl, hgz⟩))
  all_goals
    have hg14 : Gr [] w13 w14 := Hgxa.out.trans hgz
    clear hgz fxa
    have Hb_14 := hid (hg14.obj Hb_13.out (by simp))
    have Hg_14 := hid (Hg_13.out.trans hg14)
    have Hv_14 := hid (Hv_13.out.gr hg14)
    have HVX_14 := hid (HVX_13.out.gr hg14)
    have HVY_14 := hid (HVY_13.out.gr hg14)
    have HVZ_14 := hid (HVZ_13.out.gr hg14)
    have Hr_14 := hid (Hr_13.out.gr hg14)
    have Hk_14 := hid (Hk_13.out.trans hg14)
    have Hm_14 := hid (Hm_13.out.gr hg14)
    have HmH_14 := hid (HmH_13.out.gr' (M' := New w6.heap.size w7) hg14 (by simp) (fun _ _ h => h))
    have Hx_14 := hid (hg14.obj Hx_13.out (by simp))
    have HYX_14 := hid (HYX_13.out.gr' (M' := New w8.heap.size w9) hg14 (by simp) (fun _ _ h => h))
    have HYY_14 := hid (HYY_13.out.gr' (M' := New w9.heap.size w10) hg14 (by simp) (fun _ _ h => h))
    have HYZ_14 := hid (HYZ_13.out.gr' (M' := New w10.heap.size w11) hg14 (by simp) (fun _ _ h => h))
    have Hq_14 := hid (Hq_13.out.gr' (M' := New w11.heap.size w12) hg14 (by simp) (fun _ _ h => h))
    have hs14 := hg14.size
    have fHb_14 := fld Hb_14.out
    have fHx_14 := fld Hx_14.out
    clear fHb_13 fHx_13 hg14
    go_wp2_with fail
    have hcall := toIntS_c X _ w14 HVX_14.out (by omega)
    (with_reducible refine hcall.mono ?_)
    clear hcall
    rintro e w15 ⟨v15, rfl, ho15, hg15⟩
    have HZX_15 := hid (Own.numsM ho15)
    obtain ⟨xo15, xc15, rfl, -, -⟩ := ho15.nums (S := []) (by simp)
    clear ho15
    have Hb_15 := hid (hg15.obj Hb_14.out (by simp))
    have Hg_15 := hid (Hg_14.out.trans hg15)
    have Hv_15 := hid (Hv_14.out.gr hg15)
    have HVX_15 := hid (HVX_14.out.gr hg15)
    have HVY_15 := hid (HVY_14.out.gr hg15)
    have HVZ_15 := hid (HVZ_14.out.gr hg15)
    have Hr_15 := hid (Hr_14.out.gr hg15)
    have Hk_15 := hid (Hk_14.out.trans hg15)
    have Hm_15 := hid (Hm_14.out.gr hg15)
    have HmH_15 := hid (HmH_14.out.gr' (M' := New w6.heap.size w7) hg15 (by simp) (fun _ _ h => h))
    have Hx_15 := hid (hg15.obj Hx_14.out (by simp))
    have HYX_15 := hid (HYX_14.out.gr' (M' := New w8.heap.size w9) hg15 (by simp) (fun _ _ h => h))
    have HYY_15 := hid (HYY_14.out.gr' (M' := New w9.heap.size w10) hg15 (by simp) (fun _ _ h => h))
    have HYZ_15 := hid (HYZ_14.out.gr' (M' := New w10.heap.size w11) hg15 (by simp) (fun _ _ h => h))
    have Hq_15 := hid (Hq_14.out.gr' (M' := New w11.heap.size w12) hg15 (by simp) (fun _ _ h => h))
    have hs15 := hg15.size
    have fHb_15 := fld Hb_15.out
    have fHx_15 := fld Hx_15.out
    clear fHb_14 fHx_14 hg15
    go_wp2_with fail
    have hcall := eqIntS_t X _ _ w15 (HYX_15.out.nums (by simp)) (HZX_15.out.nums (by simp))
    (with_reducible refine hcall.mono ?_)
    clear hcall
    rintro e w16 ⟨rfl, hg16⟩
    have Hb_16 := hid (hg16.obj Hb_15.out (by simp))
    have Hg_16 := hid (Hg_15.out.trans hg16)
    have Hv_16 := hid (Hv_15.out.gr hg16)
    have HVX_16 := hid (HVX_15.out.gr hg16)
    have HVY_16 := hid (HVY_15.out.gr hg16)
    have HVZ_16 := hid (HVZ_15.out.gr hg16)
    have Hr_16 := hid (Hr_15.out.gr hg16)
    have Hk_16 := hid (Hk_15.out.trans hg16)
    have Hm_16 := hid (Hm_15.out.gr hg16)
    have HmH_16 := hid (HmH_15.out.gr' (M' := New w6.heap.size w7) hg16 (by simp) (fun _ _ h => h))
    have Hx_16 := hid (hg16.obj Hx_15.out (by simp))
    have HYX_16 := hid (HYX_15.out.gr' (M' := New w8.heap.size w9) hg16 (by simp) (fun _ _ h => h))
    have HYY_16 := hid (HYY_15.out.gr' (M' := New w9.heap.size w10) hg16 (by simp) (fun _ _ h => h))
    have HYZ_16 := hid (HYZ_15.out.gr' (M' := New w10.heap.size w11) hg16 (by simp) (fun _ _ h => h))
    have Hq_16 := hid (Hq_15.out.gr' (M' := New w11.heap.size w12) hg16 (by simp) (fun _ _ h => h))
    have hs16 := hg16.size
    have fHb_16 := fld Hb_16.out
    have fHx_16 := fld Hx_16.out
    clear fHb_15 fHx_15 hg16
    go_wp2_with fail
    have hcall := toIntS_c Y _ w16 HVY_16.out (by omega)
    (with_reducible refine hcall.mono ?_)
    clear hcall
    rintro e w17 ⟨v17, rfl, ho17, hg17⟩
    have HZY_17 := hid (Own.numsM ho17)
    obtain ⟨xo17, xc17, rfl, -, -⟩ := ho17.nums (S := []) (by simp)
    clear ho17
    have Hb_17 := hid (hg17.obj Hb_16.out (by simp))
    have Hg_17 := hid (Hg_16.out.trans hg17)
    have Hv_17 := hid (Hv_16.out.gr hg17)
    have HVX_17 := hid (HVX_16.out.gr hg17)
    have HVY_17 := hid (HVY_16.out.gr hg17)
    have HVZ_17 := hid (HVZ_16.out.gr hg17)
    have Hr_17 := hid (Hr_16.out.gr hg17)
    have Hk_17 := hid (Hk_16.out.trans hg17)
    have Hm_17 := hid (Hm_16.out.gr hg17)
    have HmH_17 := hid (HmH_16.out.gr' (M' := New w6.heap.size w7) hg17 (by simp) (fun _ _ h => h))
    have Hx_17 := hid (hg17.obj Hx_16.out (by simp))
    have HYX_17 := hid (HYX_16.out.gr' (M' := New w8.heap.size w9) hg17 (by simp) (fun _ _ h => h))
    have HYY_17 := hid (HYY_16.out.gr' (M' := New w9.heap.size w10) hg17 (by simp) (fun _ _ h => h))
    have HYZ_17 := hid (HYZ_16.out.gr' (M' := New w10.heap.size w11) hg17 (by simp) (fun _ _ h => h))
    have Hq_17 := hid (Hq_16.out.gr' (M' := New w11.heap.size w12) hg17 (by simp) (fun _ _ h => h))
    have hs17 := hg17.size
    have fHb_17 := fld Hb_17.out
    have fHx_17 := fld Hx_17.out
    clear fHb_16 fHx_16 hg17
    go_wp2_with fail
    have hcall := eqIntS_t Y _ _ w17 (HYY_17.out.nums (by simp)) (HZY_17.out.nums (by simp))
    (with_reducible refine hcall.mono ?_)
    clear hcall
    rintro e w18 ⟨rfl, hg18⟩
    have Hb_18 := hid (hg18.obj Hb_17.out (by simp))
    have Hg_18 := hid (Hg_17.out.trans hg18)
    have Hv_18 := hid (Hv_17.out.gr hg18)
    have HVX_18 := hid (HVX_17.out.gr hg18)
    have HVY_18 := hid (HVY_17.out.gr hg18)
    have HVZ_18 := hid (HVZ_17.out.gr hg18)
    have Hr_18 := hid (Hr_17.out.gr hg18)
    have Hk_18 := hid (Hk_17.out.trans hg18)
    have Hm_18 := hid (Hm_17.out.gr hg18)
    have HmH_18 := hid (HmH_17.out.gr' (M' := New w6.heap.size w7) hg18 (by simp) (fun _ _ h => h))
    have Hx_18 := hid (hg18.obj Hx_17.out (by simp))
    have HYX_18 := hid (HYX_17.out.gr' (M' := New w8.heap.size w9) hg18 (by simp) (fun _ _ h => h))
    have HYY_18 := hid (HYY_17.out.gr' (M' := New w9.heap.size w10) hg18 (by simp) (fun _ _ h => h))
    have HYZ_18 := hid (HYZ_17.out.gr' (M' := New w10.heap.size w11) hg18 (by simp) (fun _ _ h => h))
    have Hq_18 := hid (Hq_17.out.gr' (M' := New w11.heap.size w12) hg18 (by simp) (fun _ _ h => h))
    have hs18 := hg18.size
    have fHb_18 := fld Hb_18.out
    have fHx_18 := fld Hx_18.out
    clear fHb_17 fHx_17 hg18
    go_wp2_with fail
    have hcall := toIntS_c Z _ w18 HVZ_18.out (by omega)
    (with_reducible refine hcall.mono ?_)
    clear hcall
    rintro e w19 ⟨v19, rfl, ho19, hg19⟩
    have HZZ_19 := hid (Own.numsM ho19)
    obtain ⟨xo19, xc19, rfl, -, -⟩ := ho19.nums (S := []) (by simp)
    clear ho19
    have Hb_19 := hid (hg19.obj Hb_18.out (by simp))
    have Hg_19 := hid (Hg_18.out.trans hg19)
    have Hv_19 := hid (Hv_18.out.gr hg19)
    have HVX_19 := hid (HVX_18.out.gr hg19)
    have HVY_19 := hid (HVY_18.out.gr hg19)
    have HVZ_19 := hid (HVZ_18.out.gr hg19)
    have Hr_19 := hid (Hr_18.out.gr hg19)
    have Hk_19 := hid (Hk_18.out.trans hg19)
    have Hm_19 := hid (Hm_18.out.gr hg19)
    have HmH_19 := hid (HmH_18.out.gr' (M' := New w6.heap.size w7) hg19 (by simp) (fun _ _ h => h))
    have Hx_19 := hid (hg19.obj Hx_18.out (by simp))
    have HYX_19 := hid (HYX_18.out.gr' (M' := New w8.heap.size w9) hg19 (by simp) (fun _ _ h => h))
    have HYY_19 := hid (HYY_18.out.gr' (M' := New w9.heap.size w10) hg19 (by simp) (fun _ _ h => h))
    have HYZ_19 := hid (HYZ_18.out.gr' (M' := New w10.heap.size w11) hg19 (by simp) (fun _ _ h => h))
    have Hq_19 := hid (Hq_18.out.gr' (M' := New w11.heap.size w12) hg19 (by simp) (fun _ _ h => h))
    have hs19 := hg19.size
    have fHb_19 := fld Hb_19.out
    have fHx_19 := fld Hx_19.out
    clear fHb_18 fHx_18 hg19
    go_wp2_with fail
    have hcall := eqIntS_t Z _ _ w19 (HYZ_19.out.nums (by simp)) (HZZ_19.out.nums (by simp))
    (with_reducible refine hcall.mono ?_)
    clear hcall
    rintro e w20 ⟨rfl, hg20⟩
    have Hb_20 := hid (hg20.obj Hb_19.out (by simp))
    have Hg_20 := hid (Hg_19.out.trans hg20)
    have Hv_20 := hid (Hv_19.out.gr hg20)
    have HVX_20 := hid (HVX_19.out.gr hg20)
    have HVY_20 := hid (HVY_19.out.gr hg20)
    have HVZ_20 := hid (HVZ_19.out.gr hg20)
    have Hr_20 := hid (Hr_19.out.gr hg20)
    have Hk_20 := hid (Hk_19.out.trans hg20)
    have Hm_20 := hid (Hm_19.out.gr hg20)
    have HmH_20 := hid (HmH_19.out.gr' (M' := New w6.heap.size w7) hg20 (by simp) (fun _ _ h => h))
    have Hx_20 := hid (hg20.obj Hx_19.out (by simp))
    have HYX_20 := hid (HYX_19.out.gr' (M' := New w8.heap.size w9) hg20 (by simp) (fun _ _ h => h))
    have HYY_20 := hid (HYY_19.out.gr' (M' := New w9.heap.size w10) hg20 (by simp) (fun _ _ h => h))
    have HYZ_20 := hid (HYZ_19.out.gr' (M' := New w10.heap.size w11) hg20 (by simp) (fun _ _ h => h))
    have Hq_20 := hid (Hq_19.out.gr' (M' := New w11.heap.size w12) hg20 (by simp) (fun _ _ h => h))
    have hs20 := hg20.size
    have fHb_20 := fld Hb_20.out
    have fHx_20 := fld Hx_20.out
    clear fHb_19 fHx_19 hg20
    go_wp2_with fail
    obtain ⟨L, hL1, hL2⟩ : ∃ L : List Nat, (∀ i ∈ L, w6.heap.size ≤ i ∧ i < w12.heap.size) ∧ (∀ i, w6.heap.size ≤ i → i < w12.heap.size → i ∈ L) :=
      ⟨List.range' w6.heap.size (w12.heap.size - w6.heap.size), fun i hi => by have := List.mem_range'_1.1 hi; omega, fun i h1 h2 => List.mem_range'_1.2 ⟨h1, by omega⟩⟩
    have HL1 := hid hL1; have HL2 := hid hL2; clear hL1 hL2
    have HrL_20 := hid ((Hr0.out.sub (S' := L) (fun b hb hm => by have := HL1.out b hm; omega)).gr Hk_20.out.any)
    have HvL_20 := hid ((ModV.sub (S' := L) Hv.out (fun b hb hm => by have := HL1.out b hm; omega)).gr Hg_20.out.any)
    have HWX_20 := hid ((HVX.out.sub (S' := L) (fun b hb hm => by have := HL1.out b hm; omega)).gr Hg_20.out.any)
    have HWY_20 := hid ((HVY.out.sub (S' := L) (fun b hb hm => by have := HL1.out b hm; omega)).gr Hg_20.out.any)
    have HWZ_20 := hid ((HVZ.out.sub (S' := L) (fun b hb hm => by have := HL1.out b hm; omega)).gr Hg_20.out.any)
    have hcall := markModel_c (New w6.heap.size w7) m 1 _ _ HmH_20.out (by omega) (by have := Hmo.out; omega)
    (with_reducible refine hcall.mono ?_)
    clear hcall
    rintro e w21 ⟨rfl, hmk21⟩
    obtain ⟨K, hK⟩ : ∃ K : Int, K = 1 + (mkMo m : Int) := ⟨_, rfl⟩
    rw [← hK]
    have hK0 : 0 ≤ K ∧ K ≤ 10000000 := by have := Hmo.out; omega
    clear hK
    have hgL21 := hmk21.grL (L := L) (fun k hk => HL2.out k (by have := hk.1; omega) (by have := hk.2; omega))
    have Hb_21 := hid (hgL21.obj Hb_20.out (fun h => by have := HL1.out _ h; omega))
    have Hg_21 := hid (Hg_20.out.step hgL21 (fun i hi => .inr (by have := HL1.out i hi; omega)))
    have HYX_21 := hid (HYX_20.out.apart hmk21 (fun b h h' => by have := h.1; have := h.2; have := h'.1; have := h'.2; omega))
    have HYY_21 := hid (HYY_20.out.apart hmk21 (fun b h h' => by have := h.1; have := h.2; have := h'.1; have := h'.2; omega))
    have HYZ_21 := hid (HYZ_20.out.apart hmk21 (fun b h h' => by have := h.1; have := h.2; have := h'.1; have := h'.2; omega))
    have Hq_21 := hid (Hq_20.out.apart hmk21 (fun b h h' => by have := h.1; have := h.2; have := h'.1; have := h'.2; omega))
    have HrL_21 := hid (HrL_20.out.gr hgL21)
    have HvL_21 := hid (HvL_20.out.gr hgL21)
    have HWX_21 := hid (HWX_20.out.gr hgL21)
    have HWY_21 := hid (HWY_20.out.gr hgL21)
    have HWZ_21 := hid (HWZ_20.out.gr hgL21)
    have hs21 := hgL21.size
    have fHb_21 := fld Hb_21.out
    clear fHb_20 fHx_20 hgL21 hmk21
    go_wp2_with fail
    have hcall := markIntS_c (New w8.heap.size w9) X (K) _ w21 HYX_21.out (by omega) (by omega)
    (with_reducible refine hcall.mono ?_)
    clear hcall
    rintro e w22 ⟨rfl, _, hmk22⟩
    have hgL22 := hmk22.grL (L := L) (fun k hk => HL2.out k (by have := hk.1; omega) (by have := hk.2; omega))
    have Hb_22 := hid (hgL22.obj Hb_21.out (fun h => by have := HL1.out _ h; omega))
    have Hg_22 := hid (Hg_21.out.step hgL22 (fun i hi => .inr (by have := HL1.out i hi; omega)))
    have HYY_22 := hid (HYY_21.out.apart hmk22 (fun b h h' => by have := h.1; have := h.2; have := h'.1; have := h'.2; omega))
    have HYZ_22 := hid (HYZ_21.out.apart hmk22 (fun b h h' => by have := h.1; have := h.2; have := h'.1; have := h'.2; omega))
    have Hq_22 := hid (Hq_21.out.apart hmk22 (fun b h h' => by have := h.1; have := h.2; have := h'.1; have := h'.2; omega))
    have HrL_22 := hid (HrL_21.out.gr hgL22)
    have HvL_22 := hid (HvL_21.out.gr hgL22)
    have HWX_22 := hid (HWX_21.out.gr hgL22)
    have HWY_22 := hid (HWY_21.out.gr hgL22)
    have HWZ_22 := hid (HWZ_21.out.gr hgL22)
    have hs22 := hgL22.size
    have fHb_22 := fld Hb_22.out
    clear fHb_21 hgL22 hmk22
    go_wp2_with fail
    have hcall := markIntS_c (New w9.heap.size w10) Y (K + X.length) _ w22 HYY_22.out (by omega) (by omega)
    (with_reducible refine hcall.mono ?_)
    clear hcall
    rintro e w23 ⟨rfl, _, hmk23⟩
    have hgL23 := hmk23.grL (L := L) (fun k hk => HL2.out k (by have := hk.1; omega) (by have := hk.2; omega))
    have Hb_23 := hid (hgL23.obj Hb_22.out (fun h => by have := HL1.out _ h; omega))
    have Hg_23 := hid (Hg_22.out.step hgL23 (fun i hi => .inr (by have := HL1.out i hi; omega)))
    have HYZ_23 := hid (HYZ_22.out.apart hmk23 (fun b h h' => by have := h.1; have := h.2; have := h'.1; have := h'.2; omega))
    have Hq_23 := hid (Hq_22.out.apart hmk23 (fun b h h' => by have := h.1; have := h.2; have := h'.1; have := h'.2; omega))
    have HrL_23 := hid (HrL_22.out.gr hgL23)
    have HvL_23 := hid (HvL_22.out.gr hgL23)
    have HWX_23 := hid (HWX_22.out.gr hgL23)
    have HWY_23 := hid (HWY_22.out.gr hgL23)
    have HWZ_23 := hid (HWZ_22.out.gr hgL23)
    have hs23 := hgL23.size
    have fHb_23 := fld Hb_23.out
    clear fHb_22 hgL23 hmk23
    go_wp2_with fail
    have hcall := markIntS_c (New w10.heap.size w11) Z (K + X.length + Y.length) _ w23 HYZ_23.out (by omega) (by omega)
    (with_reducible refine hcall.mono ?_)
    clear hcall
    rintro e w24 ⟨rfl, _, hmk24⟩
    have hgL24 := hmk24.grL (L := L) (fun k hk => HL2.out k (by have := hk.1; omega) (by have := hk.2; omega))
    have Hb_24 := hid (hgL24.obj Hb_23.out (fun h => by have := HL1.out _ h; omega))
    have Hg_24 := hid (Hg_23.out.step hgL24 (fun i hi => .inr (by have := HL1.out i hi; omega)))
    have Hq_24 := hid (Hq_23.out.apart hmk24 (fun b h h' => by have := h.1; have := h.2; have := h'.1; have := h'.2; omega))
    have HrL_24 := hid (HrL_23.out.gr hgL24)
    have HvL_24 := hid (HvL_23.out.gr hgL24)
    have HWX_24 := hid (HWX_23.out.gr hgL24)
    have HWY_24 := hid (HWY_23.out.gr hgL24)
    have HWZ_24 := hid (HWZ_23.out.gr hgL24)
    have hs24 := hgL24.size
    have fHb_24 := fld Hb_24.out
    clear fHb_23 hgL24 hmk24
    go_wp2_with fail
    have hcall := eqIntS_t R _ _ w24 (Hq_24.out.nums (by simp)) (HrL_24.out.sub (by simp))
    (with_reducible refine hcall.mono ?_)
    clear hcall
    rintro e w25 ⟨rfl, hg25⟩
    have Hb_25 := hid (hg25.obj Hb_24.out (by simp))
    have Hg_25 := hid (Hg_24.out.trans hg25)
    have Hq_25 := hid (Hq_24.out.gr' (M' := New w11.heap.size w12) hg25 (by simp) (fun _ _ h => h))
    have HrL_25 := hid (HrL_24.out.gr hg25.any)
    have HvL_25 := hid (HvL_24.out.gr hg25.any)
    have HWX_25 := hid (HWX_24.out.gr hg25.any)
    have HWY_25 := hid (HWY_24.out.gr hg25.any)
    have HWZ_25 := hid (HWZ_24.out.gr hg25.any)
    have hs25 := hg25.size
    have fHb_25 := fld Hb_25.out
    clear fHb_24 hg25
    go_wp2_with fail
    have hcall := markIntS_c (New w11.heap.size w12) R 1 _ w25 Hq_25.out (by omega) (by have := HRl.out; omega)
    (with_reducible refine hcall.mono ?_)
    clear hcall
    rintro e w26 ⟨rfl, hr26, hmk26⟩
    have Hq_26 := hid hr26; clear hr26
    have hgL26 := hmk26.grL (L := L) (fun k hk => HL2.out k (by have := hk.1; omega) (by have := hk.2; omega))
    have Hb_26 := hid (hgL26.obj Hb_25.out (fun h => by have := HL1.out _ h; omega))
    have Hg_26 := hid (Hg_25.out.step hgL26 (fun i hi => .inr (by have := HL1.out i hi; omega)))
    have HrL_26 := hid (HrL_25.out.gr hgL26)
    have HvL_26 := hid (HvL_25.out.gr hgL26)
    have HWX_26 := hid (HWX_25.out.gr hgL26)
    have HWY_26 := hid (HWY_25.out.gr hgL26)
    have HWZ_26 := hid (HWZ_25.out.gr hgL26)
    have hs26 := hgL26.size
    have fHb_26 := fld Hb_26.out
    clear fHb_25 hgL26 hmk26
    go_wp2_with fail
    have hcall := heldIntS_t R.length 1 _ w26 (Hq_26.out.nums (by simp)) (by omega) (by have := HRl.out; omega)
    (with_reducible refine hcall.mono ?_)
    clear hcall
    rintro e w27 ⟨rfl, hg27⟩
    have Hb_27 := hid (hg27.obj Hb_26.out (by simp))
    have Hg_27 := hid (Hg_26.out.trans hg27)
    have HrL_27 := hid (HrL_26.out.gr hg27.any)
    have HvL_27 := hid (HvL_26.out.gr hg27.any)
    have HWX_27 := hid (HWX_26.out.gr hg27.any)
    have HWY_27 := hid (HWY_26.out.gr hg27.any)
    have HWZ_27 := hid (HWZ_26.out.gr hg27.any)
    have Hq_27 := hid (Hq_26.out.gr' (M' := New w11.heap.size w12) hg27 (by simp) (fun _ _ h => h))
    have hs27 := hg27.size
    have fHb_27 := fld Hb_27.out
    clear fHb_26 hg27
    have hRl := HRl.out
    go_wp2_with fail
    have Hv_27 := hid (HvL_27.out.sub (S' := []) (by simp))
    have HVX_27 := hid (HWX_27.out.sub (S' := []) (by simp))
    have HVY_27 := hid (HWY_27.out.sub (S' := []) (by simp))
    have HVZ_27 := hid (HWZ_27.out.sub (S' := []) (by simp))
    have hcall := toModel_c m _ w27 Hv_27.out Hs.out
    (with_reducible refine hcall.mono ?_)
    clear hcall
    rintro e w28 ⟨v28, rfl, hm28, hg28⟩
    obtain ⟨xo28, xc28, co28, cc28, rfl⟩ := (New.mod hm28).slices
    have Hm_28 := hid (New.mod hm28)
    have HmH_28 := hid hm28
    clear hm28
    have Hb_28 := hid (hg28.obj Hb_27.out (by simp))
    have Hg_28 := hid (Hg_27.out.trans hg28)
    have HrL_28 := hid (HrL_27.out.gr hg28.any)
    have HvL_28 := hid (HvL_27.out.gr hg28.any)
    have HWX_28 := hid (HWX_27.out.gr hg28.any)
    have HWY_28 := hid (HWY_27.out.gr hg28.any)
    have HWZ_28 := hid (HWZ_27.out.gr hg28.any)
    have Hq_28 := hid (Hq_27.out.gr' (M' := New w11.heap.size w12) hg28 (by simp) (fun _ _ h => h))
    have Hv_28 := hid (Hv_27.out.gr hg28)
    have HVX_28 := hid (HVX_27.out.gr hg28)
    have HVY_28 := hid (HVY_27.out.gr hg28)
    have HVZ_28 := hid (HVZ_27.out.gr hg28)
    have hs28 := hg28.size
    have fHb_28 := fld Hb_28.out
    clear fHb_27 hg28
    go_wp2_with fail
    have hcall := toIntS_c X _ w28 HVX_28.out (by omega)
    (with_reducible refine hcall.mono ?_)
    clear hcall
    rintro e w29 ⟨v29, rfl, ho29, hg29⟩
    have HYX_29 := hid (Own.numsM ho29)
    obtain ⟨xo29, xc29, rfl, -, -⟩ := ho29.nums (S := []) (by simp)
    clear ho29
    have Hb_29 := hid (hg29.obj Hb_28.out (by simp))
    have Hg_29 := hid (Hg_28.out.trans hg29)
    have HrL_29 := hid (HrL_28.out.gr hg29.any)
    have HvL_29 := hid (HvL_28.out.gr hg29.any)
    have HWX_29 := hid (HWX_28.out.gr hg29.any)
    have HWY_29 := hid (HWY_28.out.gr hg29.any)
    have HWZ_29 := hid (HWZ_28.out.gr hg29.any)
    have Hq_29 := hid (Hq_28.out.gr' (M' := New w11.heap.size w12) hg29 (by simp) (fun _ _ h => h))
    have Hv_29 := hid (Hv_28.out.gr hg29)
    have HVX_29 := hid (HVX_28.out.gr hg29)
    have HVY_29 := hid (HVY_28.out.gr hg29)
    have HVZ_29 := hid (HVZ_28.out.gr hg29)
    have Hm_29 := hid (Hm_28.out.gr hg29)
    have HmH_29 := hid (HmH_28.out.gr' (M' := New w27.heap.size w28) hg29 (by simp) (fun _ _ h => h))
    have hs29 := hg29.size
    have fHb_29 := fld Hb_29.out
    clear fHb_28 hg29
    go_wp2_with fail
    have hcall := toIntS_c Y _ w29 HVY_29.out (by omega)
    (with_reducible refine hcall.mono ?_)
    clear hcall
    rintro e w30 ⟨v30, rfl, ho30, hg30⟩
    have HYY_30 := hid (Own.numsM ho30)
    obtain ⟨xo30, xc30, rfl, -, -⟩ := ho30.nums (S := []) (by simp)
    clear ho30
    have Hb_30 := hid (hg30.obj Hb_29.out (by simp))
    have Hg_30 := hid (Hg_29.out.trans hg30)
    have HrL_30 := hid (HrL_29.out.gr hg30.any)
    have HvL_30 := hid (HvL_29.out.gr hg30.any)
    have HWX_30 := hid (HWX_29.out.gr hg30.any)
    have HWY_30 := hid (HWY_29.out.gr hg30.any)
    have HWZ_30 := hid (HWZ_29.out.gr hg30.any)
    have Hq_30 := hid (Hq_29.out.gr' (M' := New w11.heap.size w12) hg30 (by simp) (fun _ _ h => h))
    have Hv_30 := hid (Hv_29.out.gr hg30)
    have HVX_30 := hid (HVX_29.out.gr hg30)
    have HVY_30 := hid (HVY_29.out.gr hg30)
    have HVZ_30 := hid (HVZ_29.out.gr hg30)
    have Hm_30 := hid (Hm_29.out.gr hg30)
    have HmH_30 := hid (HmH_29.out.gr' (M' := New w27.heap.size w28) hg30 (by simp) (fun _ _ h => h))
    have HYX_30 := hid (HYX_29.out.gr' (M' := New w28.heap.size w29) hg30 (by simp) (fun _ _ h => h))
    have hs30 := hg30.size
    have fHb_30 := fld Hb_30.out
    clear fHb_29 hg30
    go_wp2_with fail
    have hcall := toIntS_c Z _ w30 HVZ_30.out (by omega)
    (with_reducible refine hcall.mono ?_)
    clear hcall
    rintro e w31 ⟨v31, rfl, ho31, hg31⟩
    have HYZ_31 := hid (Own.numsM ho31)
    obtain ⟨xo31, xc31, rfl, -, -⟩ := ho31.nums (S := []) (by simp)
    clear ho31
    have Hb_31 := hid (hg31.obj Hb_30.out (by simp))
    have Hg_31 := hid (Hg_30.out.trans hg31)
    have HrL_31 := hid (HrL_30.out.gr hg31.any)
    have HvL_31 := hid (HvL_30.out.gr hg31.any)
    have HWX_31 := hid (HWX_30.out.gr hg31.any)
    have HWY_31 := hid (HWY_30.out.gr hg31.any)
    have HWZ_31 := hid (HWZ_30.out.gr hg31.any)
    have Hq_31 := hid (Hq_30.out.gr' (M' := New w11.heap.size w12) hg31 (by simp) (fun _ _ h => h))
    have Hv_31 := hid (Hv_30.out.gr hg31)
    have HVX_31 := hid (HVX_30.out.gr hg31)
    have HVY_31 := hid (HVY_30.out.gr hg31)
    have HVZ_31 := hid (HVZ_30.out.gr hg31)
    have Hm_31 := hid (Hm_30.out.gr hg31)
    have HmH_31 := hid (HmH_30.out.gr' (M' := New w27.heap.size w28) hg31 (by simp) (fun _ _ h => h))
    have HYX_31 := hid (HYX_30.out.gr' (M' := New w28.heap.size w29) hg31 (by simp) (fun _ _ h => h))
    have HYY_31 := hid (HYY_30.out.gr' (M' := New w29.heap.size w30) hg31 (by simp) (fun _ _ h => h))
    have hs31 := hg31.size
    have fHb_31 := fld Hb_31.out
    clear fHb_30 hg31
    go_wp2_with fail
    have hcall := Improve_c m X Y Z _ _ _ _ w31 Hm_31.out (HYX_31.out.nums (by simp)) (HYY_31.out.nums (by simp)) (HYZ_31.out.nums (by simp)) D HD.out
    (with_reducible refine hcall.mono ?_)
    clear hcall
    rw [← HR.out]
    rw [← HRB.out]
    rintro e w32 ⟨v32, rfl, hr32, hg32⟩
    have Hh_32 := hid (hr32.nums (S := []) (by simp))
    obtain ⟨ro32, rc32, rfl, -, -⟩ := hr32
    have Hb_32 := hid (hg32.obj Hb_31.out (by simp))
    have Hg_32 := hid (Hg_31.out.trans hg32)
    have HrL_32 := hid (HrL_31.out.gr hg32.any)
    have HvL_32 := hid (HvL_31.out.gr hg32.any)
    have HWX_32 := hid (HWX_31.out.gr hg32.any)
    have HWY_32 := hid (HWY_31.out.gr hg32.any)
    have HWZ_32 := hid (HWZ_31.out.gr hg32.any)
    have Hq_32 := hid (Hq_31.out.gr' (M' := New w11.heap.size w12) hg32 (by simp) (fun _ _ h => h))
    have Hv_32 := hid (Hv_31.out.gr hg32)
    have HVX_32 := hid (HVX_31.out.gr hg32)
    have HVY_32 := hid (HVY_31.out.gr hg32)
    have HVZ_32 := hid (HVZ_31.out.gr hg32)
    have Hm_32 := hid (Hm_31.out.gr hg32)
    have HmH_32 := hid (HmH_31.out.gr' (M' := New w27.heap.size w28) hg32 (by simp) (fun _ _ h => h))
    have HYX_32 := hid (HYX_31.out.gr' (M' := New w28.heap.size w29) hg32 (by simp) (fun _ _ h => h))
    have HYY_32 := hid (HYY_31.out.gr' (M' := New w29.heap.size w30) hg32 (by simp) (fun _ _ h => h))
    have HYZ_32 := hid (HYZ_31.out.gr' (M' := New w30.heap.size w31) hg32 (by simp) (fun _ _ h => h))
    have hs32 := hg32.size
    have fHb_32 := fld Hb_32.out
    clear fHb_31 hg32
    go_wp2_with fail
    have hcall := eqIntS_t R _ _ w32 Hh_32.out (HrL_32.out.sub (by simp))
    (with_reducible refine hcall.mono ?_)
    clear hcall
    rintro e w33 ⟨rfl, hg33⟩
    have Hb_33 := hid (hg33.obj Hb_32.out (by simp))
    have Hg_33 := hid (Hg_32.out.trans hg33)
    have HrL_33 := hid (HrL_32.out.gr hg33.any)
    have HvL_33 := hid (HvL_32.out.gr hg33.any)
    have HWX_33 := hid (HWX_32.out.gr hg33.any)
    have HWY_33 := hid (HWY_32.out.gr hg33.any)
    have HWZ_33 := hid (HWZ_32.out.gr hg33.any)
    have Hq_33 := hid (Hq_32.out.gr' (M' := New w11.heap.size w12) hg33 (by simp) (fun _ _ h => h))
    have Hv_33 := hid (Hv_32.out.gr hg33)
    have HVX_33 := hid (HVX_32.out.gr hg33)
    have HVY_33 := hid (HVY_32.out.gr hg33)
    have HVZ_33 := hid (HVZ_32.out.gr hg33)
    have Hm_33 := hid (Hm_32.out.gr hg33)
    have HmH_33 := hid (HmH_32.out.gr' (M' := New w27.heap.size w28) hg33 (by simp) (fun _ _ h => h))
    have HYX_33 := hid (HYX_32.out.gr' (M' := New w28.heap.size w29) hg33 (by simp) (fun _ _ h => h))
    have HYY_33 := hid (HYY_32.out.gr' (M' := New w29.heap.size w30) hg33 (by simp) (fun _ _ h => h))
    have HYZ_33 := hid (HYZ_32.out.gr' (M' := New w30.heap.size w31) hg33 (by simp) (fun _ _ h => h))
    have Hh_33 := hid (Hh_32.out.gr hg33)
    have hs33 := hg33.size
    have fHb_33 := fld Hb_33.out
    clear fHb_32 hg33
    go_wp2_with fail
    have hcall := heldIntS_t R.length 1 _ w33 (Hq_33.out.nums (by simp)) (by omega) (by have := HRl.out; omega)
    (with_reducible refine hcall.mono ?_)
    clear hcall
    rintro e w34 ⟨rfl, hg34⟩
    have Hb_34 := hid (hg34.obj Hb_33.out (by simp))
    have Hg_34 := hid (Hg_33.out.trans hg34)
    have HrL_34 := hid (HrL_33.out.gr hg34.any)
    have HvL_34 := hid (HvL_33.out.gr hg34.any)
    have HWX_34 := hid (HWX_33.out.gr hg34.any)
    have HWY_34 := hid (HWY_33.out.gr hg34.any)
    have HWZ_34 := hid (HWZ_33.out.gr hg34.any)
    have Hq_34 := hid (Hq_33.out.gr' (M' := New w11.heap.size w12) hg34 (by simp) (fun _ _ h => h))
    have Hv_34 := hid (Hv_33.out.gr hg34)
    have HVX_34 := hid (HVX_33.out.gr hg34)
    have HVY_34 := hid (HVY_33.out.gr hg34)
    have HVZ_34 := hid (HVZ_33.out.gr hg34)
    have Hm_34 := hid (Hm_33.out.gr hg34)
    have HmH_34 := hid (HmH_33.out.gr' (M' := New w27.heap.size w28) hg34 (by simp) (fun _ _ h => h))
    have HYX_34 := hid (HYX_33.out.gr' (M' := New w28.heap.size w29) hg34 (by simp) (fun _ _ h => h))
    have HYY_34 := hid (HYY_33.out.gr' (M' := New w29.heap.size w30) hg34 (by simp) (fun _ _ h => h))
    have HYZ_34 := hid (HYZ_33.out.gr' (M' := New w30.heap.size w31) hg34 (by simp) (fun _ _ h => h))
    have Hh_34 := hid (Hh_33.out.gr hg34)
    have hs34 := hg34.size
    have fHb_34 := fld Hb_34.out
    clear fHb_33 hg34
    go_wp2_with fail
    go_ret
    exact ⟨rfl, Hg_34.out⟩
end Go.Proofs.YtdpcjfbnakfflaaGreat
