/-
  Walk of FnExactProveOptimal.
-/
import Derived.Test.YtlekngkcifgonaaGreatYSy1ToRe
import Derived.Test.YtlekngkcifgonaaGreatYBx
import Derived.Test.YtlekngkcifgonaaGreatYLExactProveInfeasible
set_option linter.unusedVariables false
namespace Go.Proofs.YtlekngkcifgonaaGreat
open Go.RowKit


theorem optO_short {m : Mod} {D : List Nat} {o x : List Int} (hD : validM m = true → VM m D) : ((optO m D o x).getD []).length ≤ 200 ∧ ∀ c ∈ (optO m D o x).getD [], c.length ≤ 100 := by
  cases hb : betB m D o x
  · rw [optO_no hb]; simp
  · obtain ⟨h1, h2, h3, h4⟩ := betB_open hb
    rw [optO_yes hb, ← provO_yes h4]
    exact provO_short fun _ => low_vm (hD h1) h4

set_option maxRecDepth 100000 in
set_option maxHeartbeats 4000000 in
theorem FnExactProveOptimal_c (m : Mod) (X : List Int) (Y : List Int) (v : Value) (vX : Value) (vY : Value) (w : World) (hv : ModV [] w v m) (hX : Nums [] w .i64 vX X) (hY : Nums [] w .i64 vY Y) :
    Calls Tryz.prog 11 #[v, vX, vY] w (fun e w' => e = .returned (.bool true) ∧ Gr [] w w') := by
  have Hv := hid hv
  obtain ⟨xo, xc, co, cc, rfl⟩ := hv.slices
  have HVX := hid hX
  obtain ⟨xoX, xcX, rfl, ⟨hlX1, hlX2, -⟩, -⟩ := hX
  have HVY := hid hY
  obtain ⟨xoY, xcY, rfl, ⟨hlY1, hlY2, -⟩, -⟩ := hY
  have hg0 : Gr [] w (w.alloc (.cells #[.slice xo m.doms.length xc, .slice co m.cons.length cc] 72)) := (Gr.refl _ _).alloc _
  have hb0 : (w.alloc (.cells #[.slice xo m.doms.length xc, .slice co m.cons.length cc] 72)).heap[w.heap.size]? = some (.cells #[.slice xo m.doms.length xc, .slice co m.cons.length cc] 72 (0, 0)) := heap_alloc_new _ _
  have Hg0 := hid hg0; have Hb0 := hid hb0
  have fl0 := fld hb0
  clear hv hg0 hb0
  by_cases bigX : 1048576 < X.length
  · go_enter Tryz.func11, Tryz.ntmps11
    go_wp2_with fail
    go_ret
    exact ⟨rfl, Hg0.out⟩
  have nbigX : decide ((1048576 : Int) < (X.length : Int)) = false := by simp; omega
  have HLX : Hid (X.length ≤ 1048576) := hid (by omega)
  have hszX : X.length ≤ 1048576 := by omega
  clear bigX
  by_cases bigY : 1048576 < Y.length
  · go_enter Tryz.func11, Tryz.ntmps11
    go_wp2_with fail
    go_ret
    exact ⟨rfl, Hg0.out⟩
  have nbigY : decide ((1048576 : Int) < (Y.length : Int)) = false := by simp; omega
  have HLY : Hid (Y.length ≤ 1048576) := hid (by omega)
  have hszY : Y.length ≤ 1048576 := by omega
  clear bigY
  go_enter Tryz.func11, Tryz.ntmps11
  go_wp2_with fail
  have hcall := szModel_c m 1048576 _ _ (Hv.out.gr Hg0.out) (by omega)
  (with_reducible refine hcall.mono ?_)
  clear hcall
  rintro e w1 ⟨rfl, hg1⟩
  have hb1 := hg1.obj Hb0.out (by simp)
  have fl1 := fld hb1
  have Hb1 := hid hb1; have Hg1 := hid (Hg0.out.trans hg1)
  have hs0 : w.heap.size < w1.heap.size := lt_of_block hb1
  clear fl0 hb1 hg1
  by_cases hbig : (1048576 : Int) < (szMo m : Int)
  · rw [cut_neg hbig]
    go_wp2_with fail
    go_ret
    exact ⟨rfl, Hg1.out⟩
  rw [cut_pos (by omega)]
  obtain ⟨l, hl⟩ : ∃ l : Int, l = 1048576 - (szMo m : Int) := ⟨_, rfl⟩
  rw [← hl]
  have hl0 : 0 ≤ l ∧ l ≤ 1048576 := by omega
  have Hs : Hid m.Small := hid (small_of_sz (by omega))
  have Hmo : Hid (mkMo m ≤ 2097152) := hid (mk_le (by omega))
  obtain ⟨D, hD⟩ := openVM m
  have HD := hid hD
  clear hl hbig hD
  go_wp2_with fail
  have Hb_1 := hid Hb1.out; have fHb_1 := fld Hb_1.out; have Hg_1 := hid Hg1.out; have Hv_1 := hid (Hv.out.gr Hg1.out)
  have HVX_1 := hid (HVX.out.gr Hg1.out)
  have HVY_1 := hid (HVY.out.gr Hg1.out)
  clear fl1
  have hcall := toModel_c m _ w1 Hv_1.out Hs.out
  (with_reducible refine hcall.mono ?_)
  clear hcall
  rintro e w2 ⟨v2, rfl, hm2, hg2⟩
  obtain ⟨xo2, xc2, co2, cc2, rfl⟩ := (New.mod hm2).slices
  have Hm_2 := hid (New.mod hm2)
  have HmH_2 := hid hm2
  clear hm2
  have Hb_2 := hid (hg2.obj Hb_1.out (by simp))
  have Hg_2 := hid (Hg_1.out.trans hg2)
  have Hv_2 := hid (Hv_1.out.gr hg2)
  have HVX_2 := hid (HVX_1.out.gr hg2)
  have HVY_2 := hid (HVY_1.out.gr hg2)
  have hs2 := hg2.size
  have fHb_2 := fld Hb_2.out
  clear fHb_1 hg2
  go_wp2_with fail
  have hcall := toIntS_c X _ w2 HVX_2.out (by omega)
  (with_reducible refine hcall.mono ?_)
  clear hcall
  rintro e w3 ⟨v3, rfl, ho3, hg3⟩
  have HYX_3 := hid (Own.numsM ho3)
  obtain ⟨xo3, xc3, rfl, -, -⟩ := ho3.nums (S := []) (by simp)
  clear ho3
  have Hb_3 := hid (hg3.obj Hb_2.out (by simp))
  have Hg_3 := hid (Hg_2.out.trans hg3)
  have Hv_3 := hid (Hv_2.out.gr hg3)
  have HVX_3 := hid (HVX_2.out.gr hg3)
  have HVY_3 := hid (HVY_2.out.gr hg3)
  have Hm_3 := hid (Hm_2.out.gr hg3)
  have HmH_3 := hid (HmH_2.out.gr' (M' := New w1.heap.size w2) hg3 (by simp) (fun _ _ h => h))
  have hs3 := hg3.size
  have fHb_3 := fld Hb_3.out
  clear fHb_2 hg3
  go_wp2_with fail
  have hcall := toIntS_c Y _ w3 HVY_3.out (by omega)
  (with_reducible refine hcall.mono ?_)
  clear hcall
  rintro e w4 ⟨v4, rfl, ho4, hg4⟩
  have HYY_4 := hid (Own.numsM ho4)
  obtain ⟨xo4, xc4, rfl, -, -⟩ := ho4.nums (S := []) (by simp)
  clear ho4
  have Hb_4 := hid (hg4.obj Hb_3.out (by simp))
  have Hg_4 := hid (Hg_3.out.trans hg4)
  have Hv_4 := hid (Hv_3.out.gr hg4)
  have HVX_4 := hid (HVX_3.out.gr hg4)
  have HVY_4 := hid (HVY_3.out.gr hg4)
  have Hm_4 := hid (Hm_3.out.gr hg4)
  have HmH_4 := hid (HmH_3.out.gr' (M' := New w1.heap.size w2) hg4 (by simp) (fun _ _ h => h))
  have HYX_4 := hid (HYX_3.out.gr' (M' := New w2.heap.size w3) hg4 (by simp) (fun _ _ h => h))
  have hs4 := hg4.size
  have fHb_4 := fld Hb_4.out
  clear fHb_3 hg4
  go_wp2_with fail
  have hcall := specProveOptimal_c m D X Y _ _ _ w4 Hm_4.out HD.out Hs.out (HYX_4.out.nums (by simp)) (HYY_4.out.nums (by simp))
  (with_reducible refine hcall.mono ?_)
  clear hcall
  obtain ⟨R, hR⟩ : ∃ R, R = (optO m D X Y).getD [] := ⟨_, rfl⟩
  rw [← hR]
  have HRl : Hid (sumK R ≤ 1000000) := hid (by rw [hR]; exact (by have h := optO_short (o := X) (x := Y) HD.out; have := sumK_le h.2; omega))
  obtain ⟨RB, hRB⟩ : ∃ RB, RB = (optO m D X Y).isSome := ⟨_, rfl⟩
  rw [← hRB]
  have HRB := hid hRB; clear hRB
  have HR := hid hR; clear hR
  rintro e w5 ⟨v5, rfl, hr5', hg5⟩
  have hr5 := hr5' [] (by simp)
  clear hr5'
  have Hr_5 := hid hr5
  obtain ⟨ro5, rc5, rfl, -, -⟩ := hr5
  have Hb_5 := hid (hg5.obj Hb_4.out (by simp))
  have Hg_5 := hid (Hg_4.out.trans hg5)
  have Hv_5 := hid (Hv_4.out.gr hg5)
  have HVX_5 := hid (HVX_4.out.gr hg5)
  have HVY_5 := hid (HVY_4.out.gr hg5)
  have hs5 := hg5.size
  have fHb_5 := fld Hb_5.out
  clear fHb_4 hg5
  have Hr0 := hid Hr_5.out
  have Hk_5 := hid (Gr.refl [] w5)
  go_wp2_with fail
  have hcall := toModel_c m _ w5 Hv_5.out Hs.out
  (with_reducible refine hcall.mono ?_)
  clear hcall
  rintro e w6 ⟨v6, rfl, hm6, hg6⟩
  obtain ⟨xo6, xc6, co6, cc6, rfl⟩ := (New.mod hm6).slices
  have Hm_6 := hid (New.mod hm6)
  have HmH_6 := hid hm6
  clear hm6
  have Hb_6 := hid (hg6.obj Hb_5.out (by simp))
  have Hg_6 := hid (Hg_5.out.trans hg6)
  have Hv_6 := hid (Hv_5.out.gr hg6)
  have HVX_6 := hid (HVX_5.out.gr hg6)
  have HVY_6 := hid (HVY_5.out.gr hg6)
  have Hr_6 := hid (Hr_5.out.gr hg6)
  have Hk_6 := hid (Hk_5.out.trans hg6)
  have hs6 := hg6.size
  have fHb_6 := fld Hb_6.out
  clear fHb_5 hg6
  have hg7 : Gr [] w6 (w6.alloc (.cells #[.slice xo6 m.doms.length xc6, .slice co6 m.cons.length cc6] 26)) := (Gr.refl _ _).alloc _
  have Hx_7 : Hid ((w6.alloc (.cells #[.slice xo6 m.doms.length xc6, .slice co6 m.cons.length cc6] 26)).heap[w6.heap.size]? = some (.cells #[.slice xo6 m.doms.length xc6, .slice co6 m.cons.length cc6] 26 (0, 0))) := hid (heap_alloc_new _ _)
  have hsx : w6.heap.size < (w6.alloc (.cells #[.slice xo6 m.doms.length xc6, .slice co6 m.cons.length cc6] 26)).heap.size := by simp
  go_wp2_with fail
  generalize hWx : w6.alloc (.cells #[.slice xo6 m.doms.length xc6, .slice co6 m.cons.length cc6] 26) = w7 at *
  clear hWx
  have Hb_7 := hid (hg7.obj Hb_6.out (by simp))
  have Hg_7 := hid (Hg_6.out.trans hg7)
  have Hv_7 := hid (Hv_6.out.gr hg7)
  have HVX_7 := hid (HVX_6.out.gr hg7)
  have HVY_7 := hid (HVY_6.out.gr hg7)
  have Hr_7 := hid (Hr_6.out.gr hg7)
  have Hk_7 := hid (Hk_6.out.trans hg7)
  have Hm_7 := hid (Hm_6.out.gr hg7)
  have HmH_7 := hid (HmH_6.out.gr' (M' := New w5.heap.size w6) hg7 (by simp) (fun _ _ h => h))
  have hs7 := hg7.size
  have fHb_7 := fld Hb_7.out
  clear fHb_6 hg7
  have fHx_7 := fld Hx_7.out
  have hcall := toIntS_c X _ w7 HVX_7.out (by omega)
  (with_reducible refine hcall.mono ?_)
  clear hcall
  rintro e w8 ⟨v8, rfl, ho8, hg8⟩
  have HYX_8 := hid (Own.numsM ho8)
  obtain ⟨xo8, xc8, rfl, -, -⟩ := ho8.nums (S := []) (by simp)
  clear ho8
  have Hb_8 := hid (hg8.obj Hb_7.out (by simp))
  have Hg_8 := hid (Hg_7.out.trans hg8)
  have Hv_8 := hid (Hv_7.out.gr hg8)
  have HVX_8 := hid (HVX_7.out.gr hg8)
  have HVY_8 := hid (HVY_7.out.gr hg8)
  have Hr_8 := hid (Hr_7.out.gr hg8)
  have Hk_8 := hid (Hk_7.out.trans hg8)
  have Hm_8 := hid (Hm_7.out.gr hg8)
  have HmH_8 := hid (HmH_7.out.gr' (M' := New w5.heap.size w6) hg8 (by simp) (fun _ _ h => h))
  have Hx_8 := hid (hg8.obj Hx_7.out (by simp))
  have hs8 := hg8.size
  have fHb_8 := fld Hb_8.out
  have fHx_8 := fld Hx_8.out
  clear fHb_7 fHx_7 hg8
  go_wp2_with fail
  have hcall := toIntS_c Y _ w8 HVY_8.out (by omega)
  (with_reducible refine hcall.mono ?_)
  clear hcall
  rintro e w9 ⟨v9, rfl, ho9, hg9⟩
  have HYY_9 := hid (Own.numsM ho9)
  obtain ⟨xo9, xc9, rfl, -, -⟩ := ho9.nums (S := []) (by simp)
  clear ho9
  have Hb_9 := hid (hg9.obj Hb_8.out (by simp))
  have Hg_9 := hid (Hg_8.out.trans hg9)
  have Hv_9 := hid (Hv_8.out.gr hg9)
  have HVX_9 := hid (HVX_8.out.gr hg9)
  have HVY_9 := hid (HVY_8.out.gr hg9)
  have Hr_9 := hid (Hr_8.out.gr hg9)
  have Hk_9 := hid (Hk_8.out.trans hg9)
  have Hm_9 := hid (Hm_8.out.gr hg9)
  have HmH_9 := hid (HmH_8.out.gr' (M' := New w5.heap.size w6) hg9 (by simp) (fun _ _ h => h))
  have Hx_9 := hid (hg9.obj Hx_8.out (by simp))
  have HYX_9 := hid (HYX_8.out.gr' (M' := New w7.heap.size w8) hg9 (by simp) (fun _ _ h => h))
  have hs9 := hg9.size
  have fHb_9 := fld Hb_9.out
  have fHx_9 := fld Hx_9.out
  clear fHb_8 fHx_8 hg9
  go_wp2_with fail
  have hcall := ProveOptimal_c m D X Y _ _ _ w9 Hm_9.out HD.out Hs.out (HYX_9.out.nums (by simp)) (HYY_9.out.nums (by simp))
  (with_reducible refine hcall.mono ?_)
  clear hcall
  rw [← HR.out]
  rw [← HRB.out]
  rintro e w10 ⟨v10, rfl, hr10, hg10⟩
  have Hq_10 := hid hr10
  obtain ⟨ro10, rc10, rfl, ⟨hrl1, hrl2, -⟩, -⟩ := hr10
  have Hb_10 := hid (hg10.obj Hb_9.out (by simp))
  have Hg_10 := hid (Hg_9.out.trans hg10)
  have Hv_10 := hid (Hv_9.out.gr hg10)
  have HVX_10 := hid (HVX_9.out.gr hg10)
  have HVY_10 := hid (HVY_9.out.gr hg10)
  have Hr_10 := hid (Hr_9.out.gr hg10)
  have Hk_10 := hid (Hk_9.out.trans hg10)
  have Hm_10 := hid (Hm_9.out.gr hg10)
  have HmH_10 := hid (HmH_9.out.gr' (M' := New w5.heap.size w6) hg10 (by simp) (fun _ _ h => h))
  have Hx_10 := hid (hg10.obj Hx_9.out (by simp))
  have HYX_10 := hid (HYX_9.out.gr' (M' := New w7.heap.size w8) hg10 (by simp) (fun _ _ h => h))
  have HYY_10 := hid (HYY_9.out.gr' (M' := New w8.heap.size w9) hg10 (by simp) (fun _ _ h => h))
  have hs10 := hg10.size
  have fHb_10 := fld Hb_10.out
  have fHx_10 := fld Hx_10.out
  clear fHb_9 fHx_9 hg10
  go_wp2_with fail
  have hcall := eqLiteralSS_t R _ _ w10 (Hq_10.out.clss (by simp)) Hr_10.out
  (with_reducible refine hcall.mono ?_)
  clear hcall
  rintro e w11 ⟨rfl, hg11⟩
  have Hb_11 := hid (hg11.obj Hb_10.out (by simp))
  have Hg_11 := hid (Hg_10.out.trans hg11)
  have Hv_11 := hid (Hv_10.out.gr hg11)
  have HVX_11 := hid (HVX_10.out.gr hg11)
  have HVY_11 := hid (HVY_10.out.gr hg11)
  have Hr_11 := hid (Hr_10.out.gr hg11)
  have Hk_11 := hid (Hk_10.out.trans hg11)
  have Hm_11 := hid (Hm_10.out.gr hg11)
  have HmH_11 := hid (HmH_10.out.gr' (M' := New w5.heap.size w6) hg11 (by simp) (fun _ _ h => h))
  have Hx_11 := hid (hg11.obj Hx_10.out (by simp))
  have HYX_11 := hid (HYX_10.out.gr' (M' := New w7.heap.size w8) hg11 (by simp) (fun _ _ h => h))
  have HYY_11 := hid (HYY_10.out.gr' (M' := New w8.heap.size w9) hg11 (by simp) (fun _ _ h => h))
  have Hq_11 := hid (Hq_10.out.keep hg11 (by simp))
  have hs11 := hg11.size
  have fHb_11 := fld Hb_11.out
  have fHx_11 := fld Hx_11.out
  clear fHb_10 fHx_10 hg11
  go_wp2_with fail
  have HMA : Hid (∀ W, Gr [] w11 W → ModV [] W (.agg #[.slice xo m.doms.length xc, .slice co m.cons.length cc]) m ∧ ModV [] W (.agg #[.slice xo6 m.doms.length xc6, .slice co6 m.cons.length cc6]) m ∧ W.heap[w6.heap.size]? = some (.cells #[.slice xo6 m.doms.length xc6, .slice co6 m.cons.length cc6] 26 (0, 0))) :=
    hid fun W h => ⟨Hv_11.out.gr h, Hm_11.out.gr h, h.obj Hx_11.out (by simp)⟩
  go_region_law (first
    | (go_simp; go_at_call 52; refine (toModel_c m _ _ (HMA.out _ ((Gr.refl _ _).drew)).1 Hs.out).mono ?_; rintro e wa ⟨va, rfl, hma, hga⟩; obtain ⟨xoa, xca, coa, cca, rfl⟩ := (New.mod hma).slices; have hgxa : Gr [] w11 wa := ((Gr.refl [] w11).drew).trans hga; have fxa := fld (HMA.out _ hgxa).2.2; have Hma := hid (New.mod hma); have Hgxa := hid hgxa; clear hma hga hgxa)
    | (go_simp; go_at_call 55; refine (eqModel_t m _ _ _ (HMA.out _ Hgxa.out).2.1 Hma.out).mono ?_; rintro e w12 ⟨rfl, hgz⟩))
  all_goals
    have hg12 : Gr [] w11 w12 := Hgxa.out.trans hgz
    clear hgz fxa
    have Hb_12 := hid (hg12.obj Hb_11.out (by simp))
    have Hg_12 := hid (Hg_11.out.trans hg12)
    have Hv_12 := hid (Hv_11.out.gr hg12)
    have HVX_12 := hid (HVX_11.out.gr hg12)
    have HVY_12 := hid (HVY_11.out.gr hg12)
    have Hr_12 := hid (Hr_11.out.gr hg12)
    have Hk_12 := hid (Hk_11.out.trans hg12)
    have Hm_12 := hid (Hm_11.out.gr hg12)
    have HmH_12 := hid (HmH_11.out.gr' (M' := New w5.heap.size w6) hg12 (by simp) (fun _ _ h => h))
    have Hx_12 := hid (hg12.obj Hx_11.out (by simp))
    have HYX_12 := hid (HYX_11.out.gr' (M' := New w7.heap.size w8) hg12 (by simp) (fun _ _ h => h))
    have HYY_12 := hid (HYY_11.out.gr' (M' := New w8.heap.size w9) hg12 (by simp) (fun _ _ h => h))
    have Hq_12 := hid (Hq_11.out.keep hg12 (by simp))
    have hs12 := hg12.size
    have fHb_12 := fld Hb_12.out
    have fHx_12 := fld Hx_12.out
    clear fHb_11 fHx_11 hg12
    go_wp2_with fail
    have hcall := toIntS_c X _ w12 HVX_12.out (by omega)
    (with_reducible refine hcall.mono ?_)
    clear hcall
    rintro e w13 ⟨v13, rfl, ho13, hg13⟩
    have HZX_13 := hid (Own.numsM ho13)
    obtain ⟨xo13, xc13, rfl, -, -⟩ := ho13.nums (S := []) (by simp)
    clear ho13
    have Hb_13 := hid (hg13.obj Hb_12.out (by simp))
    have Hg_13 := hid (Hg_12.out.trans hg13)
    have Hv_13 := hid (Hv_12.out.gr hg13)
    have HVX_13 := hid (HVX_12.out.gr hg13)
    have HVY_13 := hid (HVY_12.out.gr hg13)
    have Hr_13 := hid (Hr_12.out.gr hg13)
    have Hk_13 := hid (Hk_12.out.trans hg13)
    have Hm_13 := hid (Hm_12.out.gr hg13)
    have HmH_13 := hid (HmH_12.out.gr' (M' := New w5.heap.size w6) hg13 (by simp) (fun _ _ h => h))
    have Hx_13 := hid (hg13.obj Hx_12.out (by simp))
    have HYX_13 := hid (HYX_12.out.gr' (M' := New w7.heap.size w8) hg13 (by simp) (fun _ _ h => h))
    have HYY_13 := hid (HYY_12.out.gr' (M' := New w8.heap.size w9) hg13 (by simp) (fun _ _ h => h))
    have Hq_13 := hid (Hq_12.out.keep hg13 (by simp))
    have hs13 := hg13.size
    have fHb_13 := fld Hb_13.out
    have fHx_13 := fld Hx_13.out
    clear fHb_12 fHx_12 hg13
    go_wp2_with fail
    have hcall := eqIntS_t X _ _ w13 (HYX_13.out.nums (by simp)) (HZX_13.out.nums (by simp))
    (with_reducible refine hcall.mono ?_)
    clear hcall
    rintro e w14 ⟨rfl, hg14⟩
    have Hb_14 := hid (hg14.obj Hb_13.out (by simp))
    have Hg_14 := hid (Hg_13.out.trans hg14)
    have Hv_14 := hid (Hv_13.out.gr hg14)
    have HVX_14 := hid (HVX_13.out.gr hg14)
    have HVY_14 := hid (HVY_13.out.gr hg14)
    have Hr_14 := hid (Hr_13.out.gr hg14)
    have Hk_14 := hid (Hk_13.out.trans hg14)
    have Hm_14 := hid (Hm_13.out.gr hg14)
    have HmH_14 := hid (HmH_13.out.gr' (M' := New w5.heap.size w6) hg14 (by simp) (fun _ _ h => h))
    have Hx_14 := hid (hg14.obj Hx_13.out (by simp))
    have HYX_14 := hid (HYX_13.out.gr' (M' := New w7.heap.size w8) hg14 (by simp) (fun _ _ h => h))
    have HYY_14 := hid (HYY_13.out.gr' (M' := New w8.heap.size w9) hg14 (by simp) (fun _ _ h => h))
    have Hq_14 := hid (Hq_13.out.keep hg14 (by simp))
    have hs14 := hg14.size
    have fHb_14 := fld Hb_14.out
    have fHx_14 := fld Hx_14.out
    clear fHb_13 fHx_13 hg14
    go_wp2_with fail
    have hcall := toIntS_c Y _ w14 HVY_14.out (by omega)
    (with_reducible refine hcall.mono ?_)
    clear hcall
    rintro e w15 ⟨v15, rfl, ho15, hg15⟩
    have HZY_15 := hid (Own.numsM ho15)
    obtain ⟨xo15, xc15, rfl, -, -⟩ := ho15.nums (S := []) (by simp)
    clear ho15
    have Hb_15 := hid (hg15.obj Hb_14.out (by simp))
    have Hg_15 := hid (Hg_14.out.trans hg15)
    have Hv_15 := hid (Hv_14.out.gr hg15)
    have HVX_15 := hid (HVX_14.out.gr hg15)
    have HVY_15 := hid (HVY_14.out.gr hg15)
    have Hr_15 := hid (Hr_14.out.gr hg15)
    have Hk_15 := hid (Hk_14.out.trans hg15)
    have Hm_15 := hid (Hm_14.out.gr hg15)
    have HmH_15 := hid (HmH_14.out.gr' (M' := New w5.heap.size w6) hg15 (by simp) (fun _ _ h => h))
    have Hx_15 := hid (hg15.obj Hx_14.out (by simp))
    have HYX_15 := hid (HYX_14.out.gr' (M' := New w7.heap.size w8) hg15 (by simp) (fun _ _ h => h))
    have HYY_15 := hid (HYY_14.out.gr' (M' := New w8.heap.size w9) hg15 (by simp) (fun _ _ h => h))
    have Hq_15 := hid (Hq_14.out.keep hg15 (by simp))
    have hs15 := hg15.size
    have fHb_15 := fld Hb_15.out
    have fHx_15 := fld Hx_15.out
    clear fHb_14 fHx_14 hg15
    go_wp2_with fail
    have hcall := eqIntS_t Y _ _ w15 (HYY_15.out.nums (by simp)) (HZY_15.out.nums (by simp))
    (with_reducible refine hcall.mono ?_)
    clear hcall
    rintro e w16 ⟨rfl, hg16⟩
    have Hb_16 := hid (hg16.obj Hb_15.out (by simp))
    have Hg_16 := hid (Hg_15.out.trans hg16)
    have Hv_16 := hid (Hv_15.out.gr hg16)
    have HVX_16 := hid (HVX_15.out.gr hg16)
    have HVY_16 := hid (HVY_15.out.gr hg16)
    have Hr_16 := hid (Hr_15.out.gr hg16)
    have Hk_16 := hid (Hk_15.out.trans hg16)
    have Hm_16 := hid (Hm_15.out.gr hg16)
    have HmH_16 := hid (HmH_15.out.gr' (M' := New w5.heap.size w6) hg16 (by simp) (fun _ _ h => h))
    have Hx_16 := hid (hg16.obj Hx_15.out (by simp))
    have HYX_16 := hid (HYX_15.out.gr' (M' := New w7.heap.size w8) hg16 (by simp) (fun _ _ h => h))
    have HYY_16 := hid (HYY_15.out.gr' (M' := New w8.heap.size w9) hg16 (by simp) (fun _ _ h => h))
    have Hq_16 := hid (Hq_15.out.keep hg16 (by simp))
    have hs16 := hg16.size
    have fHb_16 := fld Hb_16.out
    have fHx_16 := fld Hx_16.out
    clear fHb_15 fHx_15 hg16
    go_wp2_with fail
    obtain ⟨L, hL1, hL2⟩ : ∃ L : List Nat, (∀ i ∈ L, w5.heap.size ≤ i ∧ i < w10.heap.size) ∧ (∀ i, w5.heap.size ≤ i → i < w10.heap.size → i ∈ L) :=
      ⟨List.range' w5.heap.size (w10.heap.size - w5.heap.size), fun i hi => by have := List.mem_range'_1.1 hi; omega, fun i h1 h2 => List.mem_range'_1.2 ⟨h1, by omega⟩⟩
    have HL1 := hid hL1; have HL2 := hid hL2; clear hL1 hL2
    have HrL_16 := hid ((Hr0.out.sub (S' := L) (fun b hb hm => by have := HL1.out b hm; omega)).gr Hk_16.out.any)
    have HvL_16 := hid ((ModV.sub (S' := L) Hv.out (fun b hb hm => by have := HL1.out b hm; omega)).gr Hg_16.out.any)
    have HWX_16 := hid ((HVX.out.sub (S' := L) (fun b hb hm => by have := HL1.out b hm; omega)).gr Hg_16.out.any)
    have HWY_16 := hid ((HVY.out.sub (S' := L) (fun b hb hm => by have := HL1.out b hm; omega)).gr Hg_16.out.any)
    have hcall := markModel_c (New w5.heap.size w6) m 1 _ _ HmH_16.out (by omega) (by have := Hmo.out; omega)
    (with_reducible refine hcall.mono ?_)
    clear hcall
    rintro e w17 ⟨rfl, hmk17⟩
    obtain ⟨K, hK⟩ : ∃ K : Int, K = 1 + (mkMo m : Int) := ⟨_, rfl⟩
    rw [← hK]
    have hK0 : 0 ≤ K ∧ K ≤ 10000000 := by have := Hmo.out; omega
    clear hK
    have hgL17 := hmk17.grL (L := L) (fun k hk => HL2.out k (by have := hk.1; omega) (by have := hk.2; omega))
    have Hb_17 := hid (hgL17.obj Hb_16.out (fun h => by have := HL1.out _ h; omega))
    have Hg_17 := hid (Hg_16.out.step hgL17 (fun i hi => .inr (by have := HL1.out i hi; omega)))
    have HYX_17 := hid (HYX_16.out.apart hmk17 (fun b h h' => by have := h.1; have := h.2; have := h'.1; have := h'.2; omega))
    have HYY_17 := hid (HYY_16.out.apart hmk17 (fun b h h' => by have := h.1; have := h.2; have := h'.1; have := h'.2; omega))
    have Hq_17 := hid (Hq_16.out.apart hmk17 (fun b h1 h2 h' => by have := h'.1; have := h'.2; omega))
    have HrL_17 := hid (HrL_16.out.gr hgL17)
    have HvL_17 := hid (HvL_16.out.gr hgL17)
    have HWX_17 := hid (HWX_16.out.gr hgL17)
    have HWY_17 := hid (HWY_16.out.gr hgL17)
    have hs17 := hgL17.size
    have fHb_17 := fld Hb_17.out
    clear fHb_16 fHx_16 hgL17 hmk17
    go_wp2_with fail
    have hcall := markIntS_c (New w7.heap.size w8) X (K) _ w17 HYX_17.out (by omega) (by omega)
    (with_reducible refine hcall.mono ?_)
    clear hcall
    rintro e w18 ⟨rfl, _, hmk18⟩
    have hgL18 := hmk18.grL (L := L) (fun k hk => HL2.out k (by have := hk.1; omega) (by have := hk.2; omega))
    have Hb_18 := hid (hgL18.obj Hb_17.out (fun h => by have := HL1.out _ h; omega))
    have Hg_18 := hid (Hg_17.out.step hgL18 (fun i hi => .inr (by have := HL1.out i hi; omega)))
    have HYY_18 := hid (HYY_17.out.apart hmk18 (fun b h h' => by have := h.1; have := h.2; have := h'.1; have := h'.2; omega))
    have Hq_18 := hid (Hq_17.out.apart hmk18 (fun b h1 h2 h' => by have := h'.1; have := h'.2; omega))
    have HrL_18 := hid (HrL_17.out.gr hgL18)
    have HvL_18 := hid (HvL_17.out.gr hgL18)
    have HWX_18 := hid (HWX_17.out.gr hgL18)
    have HWY_18 := hid (HWY_17.out.gr hgL18)
    have hs18 := hgL18.size
    have fHb_18 := fld Hb_18.out
    clear fHb_17 hgL18 hmk18
    go_wp2_with fail
    have hcall := markIntS_c (New w8.heap.size w9) Y (K + X.length) _ w18 HYY_18.out (by omega) (by omega)
    (with_reducible refine hcall.mono ?_)
    clear hcall
    rintro e w19 ⟨rfl, _, hmk19⟩
    have hgL19 := hmk19.grL (L := L) (fun k hk => HL2.out k (by have := hk.1; omega) (by have := hk.2; omega))
    have Hb_19 := hid (hgL19.obj Hb_18.out (fun h => by have := HL1.out _ h; omega))
    have Hg_19 := hid (Hg_18.out.step hgL19 (fun i hi => .inr (by have := HL1.out i hi; omega)))
    have Hq_19 := hid (Hq_18.out.apart hmk19 (fun b h1 h2 h' => by have := h'.1; have := h'.2; omega))
    have HrL_19 := hid (HrL_18.out.gr hgL19)
    have HvL_19 := hid (HvL_18.out.gr hgL19)
    have HWX_19 := hid (HWX_18.out.gr hgL19)
    have HWY_19 := hid (HWY_18.out.gr hgL19)
    have hs19 := hgL19.size
    have fHb_19 := fld Hb_19.out
    clear fHb_18 hgL19 hmk19
    go_wp2_with fail
    have hcall := eqLiteralSS_t R _ _ w19 (Hq_19.out.clss (by simp)) (HrL_19.out.sub (by simp))
    (with_reducible refine hcall.mono ?_)
    clear hcall
    rintro e w20 ⟨rfl, hg20⟩
    have Hb_20 := hid (hg20.obj Hb_19.out (by simp))
    have Hg_20 := hid (Hg_19.out.trans hg20)
    have Hq_20 := hid (Hq_19.out.keep hg20 (by simp))
    have HrL_20 := hid (HrL_19.out.gr hg20.any)
    have HvL_20 := hid (HvL_19.out.gr hg20.any)
    have HWX_20 := hid (HWX_19.out.gr hg20.any)
    have HWY_20 := hid (HWY_19.out.gr hg20.any)
    have hs20 := hg20.size
    have fHb_20 := fld Hb_20.out
    clear fHb_19 hg20
    go_wp2_with fail
    have hcall := markLiteralSS_e w9.heap.size w10.heap.size R 1 _ w20 Hq_20.out (by omega) (by have := HRl.out; omega)
    (with_reducible refine hcall.mono ?_)
    clear hcall
    rintro e w21 ⟨rfl, hr21, hmk21⟩
    have Hq_21 := hid hr21; clear hr21
    have hgL21 := hmk21 L (fun b h1 h2 => HL2.out b (by omega) h2)
    have Hb_21 := hid (hgL21.obj Hb_20.out (fun h => by have := HL1.out _ h; omega))
    have Hg_21 := hid (Hg_20.out.step hgL21 (fun i hi => .inr (by have := HL1.out i hi; omega)))
    have HrL_21 := hid (HrL_20.out.gr hgL21)
    have HvL_21 := hid (HvL_20.out.gr hgL21)
    have HWX_21 := hid (HWX_20.out.gr hgL21)
    have HWY_21 := hid (HWY_20.out.gr hgL21)
    have hs21 := hgL21.size
    have fHb_21 := fld Hb_21.out
    clear fHb_20 hgL21 hmk21
    go_wp2_with fail
    have hcall := heldLiteralSS_t R 1 _ w21 (Hq_21.out.clss (by simp)) (by omega) (by have := HRl.out; omega)
    (with_reducible refine hcall.mono ?_)
    clear hcall
    rintro e w22 ⟨rfl, hg22⟩
    have Hb_22 := hid (hg22.obj Hb_21.out (by simp))
    have Hg_22 := hid (Hg_21.out.trans hg22)
    have HrL_22 := hid (HrL_21.out.gr hg22.any)
    have HvL_22 := hid (HvL_21.out.gr hg22.any)
    have HWX_22 := hid (HWX_21.out.gr hg22.any)
    have HWY_22 := hid (HWY_21.out.gr hg22.any)
    have Hq_22 := hid (Hq_21.out.keep hg22 (by simp))
    have hs22 := hg22.size
    have fHb_22 := fld Hb_22.out
    clear fHb_21 hg22
    have hRl := HRl.out
    go_wp2_with fail
    have Hv_22 := hid (HvL_22.out.sub (S' := []) (by simp))
    have HVX_22 := hid (HWX_22.out.sub (S' := []) (by simp))
    have HVY_22 := hid (HWY_22.out.sub (S' := []) (by simp))
    have hcall := toModel_c m _ w22 Hv_22.out Hs.out
    (with_reducible refine hcall.mono ?_)
    clear hcall
    rintro e w23 ⟨v23, rfl, hm23, hg23⟩
    obtain ⟨xo23, xc23, co23, cc23, rfl⟩ := (New.mod hm23).slices
    have Hm_23 := hid (New.mod hm23)
    have HmH_23 := hid hm23
    clear hm23
    have Hb_23 := hid (hg23.obj Hb_22.out (by simp))
    have Hg_23 := hid (Hg_22.out.trans hg23)
    have HrL_23 := hid (HrL_22.out.gr hg23.any)
    have HvL_23 := hid (HvL_22.out.gr hg23.any)
    have HWX_23 := hid (HWX_22.out.gr hg23.any)
    have HWY_23 := hid (HWY_22.out.gr hg23.any)
    have Hq_23 := hid (Hq_22.out.keep hg23 (by simp))
    have Hv_23 := hid (Hv_22.out.gr hg23)
    have HVX_23 := hid (HVX_22.out.gr hg23)
    have HVY_23 := hid (HVY_22.out.gr hg23)
    have hs23 := hg23.size
    have fHb_23 := fld Hb_23.out
    clear fHb_22 hg23
    go_wp2_with fail
    have hcall := toIntS_c X _ w23 HVX_23.out (by omega)
    (with_reducible refine hcall.mono ?_)
    clear hcall
    rintro e w24 ⟨v24, rfl, ho24, hg24⟩
    have HYX_24 := hid (Own.numsM ho24)
    obtain ⟨xo24, xc24, rfl, -, -⟩ := ho24.nums (S := []) (by simp)
    clear ho24
    have Hb_24 := hid (hg24.obj Hb_23.out (by simp))
    have Hg_24 := hid (Hg_23.out.trans hg24)
    have HrL_24 := hid (HrL_23.out.gr hg24.any)
    have HvL_24 := hid (HvL_23.out.gr hg24.any)
    have HWX_24 := hid (HWX_23.out.gr hg24.any)
    have HWY_24 := hid (HWY_23.out.gr hg24.any)
    have Hq_24 := hid (Hq_23.out.keep hg24 (by simp))
    have Hv_24 := hid (Hv_23.out.gr hg24)
    have HVX_24 := hid (HVX_23.out.gr hg24)
    have HVY_24 := hid (HVY_23.out.gr hg24)
    have Hm_24 := hid (Hm_23.out.gr hg24)
    have HmH_24 := hid (HmH_23.out.gr' (M' := New w22.heap.size w23) hg24 (by simp) (fun _ _ h => h))
    have hs24 := hg24.size
    have fHb_24 := fld Hb_24.out
    clear fHb_23 hg24
    go_wp2_with fail
    have hcall := toIntS_c Y _ w24 HVY_24.out (by omega)
    (with_reducible refine hcall.mono ?_)
    clear hcall
    rintro e w25 ⟨v25, rfl, ho25, hg25⟩
    have HYY_25 := hid (Own.numsM ho25)
    obtain ⟨xo25, xc25, rfl, -, -⟩ := ho25.nums (S := []) (by simp)
    clear ho25
    have Hb_25 := hid (hg25.obj Hb_24.out (by simp))
    have Hg_25 := hid (Hg_24.out.trans hg25)
    have HrL_25 := hid (HrL_24.out.gr hg25.any)
    have HvL_25 := hid (HvL_24.out.gr hg25.any)
    have HWX_25 := hid (HWX_24.out.gr hg25.any)
    have HWY_25 := hid (HWY_24.out.gr hg25.any)
    have Hq_25 := hid (Hq_24.out.keep hg25 (by simp))
    have Hv_25 := hid (Hv_24.out.gr hg25)
    have HVX_25 := hid (HVX_24.out.gr hg25)
    have HVY_25 := hid (HVY_24.out.gr hg25)
    have Hm_25 := hid (Hm_24.out.gr hg25)
    have HmH_25 := hid (HmH_24.out.gr' (M' := New w22.heap.size w23) hg25 (by simp) (fun _ _ h => h))
    have HYX_25 := hid (HYX_24.out.gr' (M' := New w23.heap.size w24) hg25 (by simp) (fun _ _ h => h))
    have hs25 := hg25.size
    have fHb_25 := fld Hb_25.out
    clear fHb_24 hg25
    go_wp2_with fail
    have hcall := ProveOptimal_c m D X Y _ _ _ w25 Hm_25.out HD.out Hs.out (HYX_25.out.nums (by simp)) (HYY_25.out.nums (by simp))
    (with_reducible refine hcall.mono ?_)
    clear hcall
    rw [← HR.out]
    rw [← HRB.out]
    rintro e w26 ⟨v26, rfl, hr26, hg26⟩
    have Hh_26 := hid (hr26.clss (S := []) (by simp))
    obtain ⟨ro26, rc26, rfl, -, -⟩ := hr26
    have Hb_26 := hid (hg26.obj Hb_25.out (by simp))
    have Hg_26 := hid (Hg_25.out.trans hg26)
    have HrL_26 := hid (HrL_25.out.gr hg26.any)
    have HvL_26 := hid (HvL_25.out.gr hg26.any)
    have HWX_26 := hid (HWX_25.out.gr hg26.any)
    have HWY_26 := hid (HWY_25.out.gr hg26.any)
    have Hq_26 := hid (Hq_25.out.keep hg26 (by simp))
    have Hv_26 := hid (Hv_25.out.gr hg26)
    have HVX_26 := hid (HVX_25.out.gr hg26)
    have HVY_26 := hid (HVY_25.out.gr hg26)
    have Hm_26 := hid (Hm_25.out.gr hg26)
    have HmH_26 := hid (HmH_25.out.gr' (M' := New w22.heap.size w23) hg26 (by simp) (fun _ _ h => h))
    have HYX_26 := hid (HYX_25.out.gr' (M' := New w23.heap.size w24) hg26 (by simp) (fun _ _ h => h))
    have HYY_26 := hid (HYY_25.out.gr' (M' := New w24.heap.size w25) hg26 (by simp) (fun _ _ h => h))
    have hs26 := hg26.size
    have fHb_26 := fld Hb_26.out
    clear fHb_25 hg26
    go_wp2_with fail
    have hcall := eqLiteralSS_t R _ _ w26 Hh_26.out (HrL_26.out.sub (by simp))
    (with_reducible refine hcall.mono ?_)
    clear hcall
    rintro e w27 ⟨rfl, hg27⟩
    have Hb_27 := hid (hg27.obj Hb_26.out (by simp))
    have Hg_27 := hid (Hg_26.out.trans hg27)
    have HrL_27 := hid (HrL_26.out.gr hg27.any)
    have HvL_27 := hid (HvL_26.out.gr hg27.any)
    have HWX_27 := hid (HWX_26.out.gr hg27.any)
    have HWY_27 := hid (HWY_26.out.gr hg27.any)
    have Hq_27 := hid (Hq_26.out.keep hg27 (by simp))
    have Hv_27 := hid (Hv_26.out.gr hg27)
    have HVX_27 := hid (HVX_26.out.gr hg27)
    have HVY_27 := hid (HVY_26.out.gr hg27)
    have Hm_27 := hid (Hm_26.out.gr hg27)
    have HmH_27 := hid (HmH_26.out.gr' (M' := New w22.heap.size w23) hg27 (by simp) (fun _ _ h => h))
    have HYX_27 := hid (HYX_26.out.gr' (M' := New w23.heap.size w24) hg27 (by simp) (fun _ _ h => h))
    have HYY_27 := hid (HYY_26.out.gr' (M' := New w24.heap.size w25) hg27 (by simp) (fun _ _ h => h))
    have Hh_27 := hid (Hh_26.out.gr hg27)
    have hs27 := hg27.size
    have fHb_27 := fld Hb_27.out
    clear fHb_26 hg27
    go_wp2_with fail
    have hcall := heldLiteralSS_t R 1 _ w27 (Hq_27.out.clss (by simp)) (by omega) (by have := HRl.out; omega)
    (with_reducible refine hcall.mono ?_)
    clear hcall
    rintro e w28 ⟨rfl, hg28⟩
    have Hb_28 := hid (hg28.obj Hb_27.out (by simp))
    have Hg_28 := hid (Hg_27.out.trans hg28)
    have HrL_28 := hid (HrL_27.out.gr hg28.any)
    have HvL_28 := hid (HvL_27.out.gr hg28.any)
    have HWX_28 := hid (HWX_27.out.gr hg28.any)
    have HWY_28 := hid (HWY_27.out.gr hg28.any)
    have Hq_28 := hid (Hq_27.out.keep hg28 (by simp))
    have Hv_28 := hid (Hv_27.out.gr hg28)
    have HVX_28 := hid (HVX_27.out.gr hg28)
    have HVY_28 := hid (HVY_27.out.gr hg28)
    have Hm_28 := hid (Hm_27.out.gr hg28)
    have HmH_28 := hid (HmH_27.out.gr' (M' := New w22.heap.size w23) hg28 (by simp) (fun _ _ h => h))
    have HYX_28 := hid (HYX_27.out.gr' (M' := New w23.heap.size w24) hg28 (by simp) (fun _ _ h => h))
    have HYY_28 := hid (HYY_27.out.gr' (M' := New w24.heap.size w25) hg28 (by simp) (fun _ _ h => h))
    have Hh_28 := hid (Hh_27.out.gr hg28)
    have hs28 := hg28.size
    have fHb_28 := fld Hb_28.out
    clear fHb_27 hg28
    go_wp2_with fail
    go_ret
    exact ⟨rfl, Hg_28.out⟩
end Go.Proofs.YtlekngkcifgonaaGreat
