/-
  Walk of FnExactNewStore.
-/
import Derived.Test.YtihkeihnpiddoaaELh
import Derived.Test.YtihkeihnpiddoaaEEE
import Derived.Deep.RegionHeldLaw
set_option linter.unusedVariables false
set_option linter.unusedSimpArgs false
namespace Go.Proofs.Ytihkeihnpiddoaa
open Go.RowKit

theorem fixR_len (m : Mod) (D : List Nat) (hD : validM m = true → VM m D) : mkR (newSto m D).lv ≤ 1000 := by
  unfold newSto
  cases h : validM m
  · simp [zeroSto, mkR]
  · have hv := hD h
    have := hv.len
    rw [if_pos rfl]
    show mkR [ints (fix m.cons D)] ≤ 1000
    unfold mkR
    simp [ints_len, fix_len hv.cons]; omega
theorem newSto_mo (m : Mod) (D : List Nat) : mkMo (newSto m D).mod ≤ mkMo m := by
  unfold newSto
  cases h : validM m
  · rw [if_neg (by simp)]; simp [zeroSto, mkMo, mkCs]
  · rw [if_pos rfl]; exact Nat.le_refl _


set_option maxRecDepth 100000 in
set_option maxHeartbeats 4000000 in
theorem FnExactNewStore_c (m : Mod) (v : Value) (w : World) (hv : ModV [] w v m) :
    Calls Try.prog 3 #[v] w (fun e w' => e = .returned (.bool true) ∧ Gr [] w w') := by
  have Hv := hid hv
  obtain ⟨xo, xc, co, cc, rfl⟩ := hv.slices
  have hg0 : Gr [] w (w.alloc (.cells #[.slice xo m.doms.length xc, .slice co m.cons.length cc] 25)) := (Gr.refl _ _).alloc _
  have hb0 : (w.alloc (.cells #[.slice xo m.doms.length xc, .slice co m.cons.length cc] 25)).heap[w.heap.size]? = some (.cells #[.slice xo m.doms.length xc, .slice co m.cons.length cc] 25 (0, 0)) := heap_alloc_new _ _
  have Hg0 := hid hg0; have Hb0 := hid hb0
  have fl0 := fld hb0
  clear hv hg0 hb0
  go_enter Try.func3, Try.ntmps3
  go_wp2_with fail
  have hcall := szModel_c m 1048576 _ _ (Hv.out.gr Hg0.out) (by omega)
  (with_reducible refine hcall.mono ?_)
  clear hcall
  rintro e w1 ⟨rfl, hg1⟩
  have hb1 := hg1.obj Hb0.out (by simp)
  have fl1 := fld hb1
  have Hb1 := hid hb1; have Hg1 := hid (Hg0.out.trans hg1)
  clear fl0 hb1 hg1
  by_cases hbig : (1048576 : Int) < (szMo m : Int)
  · rw [cut_neg hbig]
    go_wp2_with fail
    go_ret
    exact ⟨rfl, Hg1.out⟩
  rw [cut_pos (by omega)]
  obtain ⟨l, hl⟩ : ∃ l : Int, l = 1048576 - (szMo m : Int) := ⟨_, rfl⟩
  rw [← hl]
  have hl0 : 0 ≤ l ∧ l ≤ 1048576 := by omega
  have Hs : Hid m.Small := hid (small_of_sz (by omega))
  have Hmo : Hid (mkMo m ≤ 2097152) := hid (mk_le (by omega))
  obtain ⟨D, hD⟩ := openVM m
  obtain ⟨R, hR⟩ : ∃ R, R = newSto m D := ⟨_, rfl⟩
  have HRk : Hid (mkR R.lv ≤ 1000) := hid (by rw [hR]; exact fixR_len m D hD)
  have HRm : Hid (mkMo R.mod ≤ 2097152) := hid (by have := newSto_mo m D; rw [← hR] at this; have := Hmo.out; omega)
  have HD := hid hD; have HR := hid hR
  clear hl hbig hD hR
  go_wp2_with fail
  have hcall := toModel_c m _ w1 (Hv.out.gr Hg1.out) Hs.out
  (with_reducible refine hcall.mono ?_)
  clear hcall
  rintro e w2 ⟨v2, rfl, hm2, hg2⟩
  have Hm2 := hid (New.mod hm2); have Hg2 := hid (Hg1.out.trans hg2)
  obtain ⟨xo2, xc2, co2, cc2, rfl⟩ := (New.mod hm2).slices
  have Hb2 := hid (hg2.obj Hb1.out (by simp))
  clear hm2 hg2 fl1
  go_wp2_with fail
  have hcall := specNewStore_c m D _ w2 Hm2.out HD.out Hs.out
  (with_reducible refine hcall.mono ?_)
  clear hcall
  rw [← HR.out]
  rintro e w3 ⟨v3, rfl, hr3, hg3⟩
  obtain ⟨aao, aac, abo, abc, aco, acc, rfl, -, -⟩ := hr3.open
  have ha4 : Gr [] w3 (w3.alloc (.cells #[.slice aao R.mod.doms.length aac, .slice abo R.mod.cons.length abc, .slice aco R.lv.length acc] 32)) := (Gr.refl _ _).alloc _
  have hx4 := sto3 w3 (.slice aao R.mod.doms.length aac) (.slice abo R.mod.cons.length abc) (.slice aco R.lv.length acc)
  have HA4 := hid hx4; have Hb4 := hid ((hg3.trans ha4).obj Hb2.out (by simp)); have Hg4 := hid (Hg2.out.trans (hg3.trans ha4)); have Hr4 := hid (hr3.gr ha4)
  have fl4 := fld Hb4.out
  clear hr3 hg3 ha4 hx4
  go_wp2_with fail
  generalize hW4 : w3.alloc (.cells #[.slice aao R.mod.doms.length aac, .slice abo R.mod.cons.length abc, .slice aco R.lv.length acc] 32) = w4 at *
  clear hW4
  have hcall := toModel_c m _ w4 (Hv.out.gr Hg4.out) Hs.out
  (with_reducible refine hcall.mono ?_)
  clear hcall
  rintro e w5 ⟨v5, rfl, hm5, hg5⟩
  obtain ⟨xo5, xc5, co5, cc5, rfl⟩ := (New.mod hm5).slices
  have ha6 : Gr [] w5 (w5.alloc (.cells #[.slice xo5 m.doms.length xc5, .slice co5 m.cons.length cc5] 29)) := (Gr.refl _ _).alloc _
  have hx6 : (w5.alloc (.cells #[.slice xo5 m.doms.length xc5, .slice co5 m.cons.length cc5] 29)).heap[w5.heap.size]? = some (.cells #[.slice xo5 m.doms.length xc5, .slice co5 m.cons.length cc5] 29 (0, 0)) := heap_alloc_new _ _
  have hs6 : (w5.alloc (.cells #[.slice xo5 m.doms.length xc5, .slice co5 m.cons.length cc5] 29)).heap.size = w5.heap.size + 1 := by simp
  have HX6 := hid hx6; have Hm6 := hid ((New.mod hm5).gr ha6); have Hh6 := hid (hm5.gr' (M' := New w4.heap.size w5) ha6 (by simp) (fun _ _ h => h)); have Hg46 := hid (hg5.trans ha6)
  have hs45 := hg5.size
  have fx6 := fld hx6
  clear hm5 hg5 ha6 hx6 fl4
  go_wp2_with fail
  generalize hW6 : w5.alloc (.cells #[.slice xo5 m.doms.length xc5, .slice co5 m.cons.length cc5] 29) = w6 at *
  clear hW6
  have hcall := NewStore_l m D _ w6 Hm6.out HD.out Hs.out
  (with_reducible refine hcall.mono ?_)
  clear hcall
  rw [← HR.out]
  rintro e w7 ⟨v7, rfl, hf7, hg7⟩
  obtain ⟨gao, gac, gbo, gbc, gco, gcc, rfl, -, -⟩ := (hf7.sto (S := []) (by simp)).open
  have ha8 : Gr [] w7 (w7.alloc (.cells #[.slice gao R.mod.doms.length gac, .slice gbo R.mod.cons.length gbc, .slice gco R.lv.length gcc] 32)) := (Gr.refl _ _).alloc _
  have hx8 := sto3 w7 (.slice gao R.mod.doms.length gac) (.slice gbo R.mod.cons.length gbc) (.slice gco R.lv.length gcc)
  have hs8 : (w7.alloc (.cells #[.slice gao R.mod.doms.length gac, .slice gbo R.mod.cons.length gbc, .slice gco R.lv.length gcc] 32)).heap.size = w7.heap.size + 1 := by simp
  have hs67 := hg7.size
  have HG8 := hid hx8; have Hf8 := hid (hf7.gr ha8 (by simp)); have Hg68 := hid (hg7.trans ha8)
  have Hg48 := hid (Hg46.out.trans (hg7.trans ha8))
  have HA8 := hid (Hg48.out.obj HA4.out (by simp)); have HX8 := hid (Hg68.out.obj HX6.out (by simp)); have Hb8 := hid (Hg48.out.obj Hb4.out (by simp))
  have fa8 := fld HA8.out; have fg8 := fld hx8
  clear hf7 hg7 ha8 hx8 fx6
  go_wp2_with fail
  generalize hW8 : w7.alloc (.cells #[.slice gao R.mod.doms.length gac, .slice gbo R.mod.cons.length gbc, .slice gco R.lv.length gcc] 32) = w8 at *
  clear hW8
  have Hg8 := hid (Hg4.out.trans Hg48.out)
  have hcall := eqStore_t R _ _ w8 (Hf8.out.sto (S := []) (by simp)) (Hr4.out.gr Hg48.out)
  (with_reducible refine hcall.mono ?_)
  clear hcall
  rintro e w9 ⟨rfl, hg9⟩
  have Hg89 := hid hg9; have Hg9 := hid (Hg8.out.trans hg9)
  have HA9 := hid (hg9.obj HA8.out (by simp)); have HX9 := hid (hg9.obj HX8.out (by simp)); have Hb9 := hid (hg9.obj Hb8.out (by simp)); have HG9 := hid (hg9.obj HG8.out (by simp))
  have Hm9 := hid (Hm6.out.gr (Hg68.out.trans hg9)); have Hf9 := hid (Hf8.out.gr hg9 (by simp)); have Hr9 := hid (Hr4.out.gr (Hg48.out.trans hg9))
  have Hh9 := hid (Hh6.out.gr' (M' := New w4.heap.size w5) (Hg68.out.trans hg9) (by simp) (fun _ _ h => h))
  have fb9 := fld Hb9.out; have fx9 := fld HX9.out
  have hs9 := hg9.size
  clear hg9 fa8 fg8
  go_wp2_with fail
  have HS9 : Hid (∀ W, Gr [] w9 W → ((W.cell? ⟨w5.heap.size, 0, none⟩ = some (.slice xo5 m.doms.length xc5) ∧ W.cell? ⟨w5.heap.size, 1, none⟩ = some (.slice co5 m.cons.length cc5)) ∧ (W.cell? ⟨w.heap.size, 0, none⟩ = some (.slice xo m.doms.length xc) ∧ W.cell? ⟨w.heap.size, 1, none⟩ = some (.slice co m.cons.length cc))) ∧ Gr [] w9 W) :=
    hid fun W h => ⟨⟨⟨fld (h.obj HX9.out (by simp)) 0, fld (h.obj HX9.out (by simp)) 1⟩, fld (h.obj Hb9.out (by simp)) 0, fld (h.obj Hb9.out (by simp)) 1⟩, h⟩
  go_region_held_law (fun W => ((W.cell? ⟨w5.heap.size, 0, none⟩ = some (.slice xo5 m.doms.length xc5) ∧ W.cell? ⟨w5.heap.size, 1, none⟩ = some (.slice co5 m.cons.length cc5)) ∧ (W.cell? ⟨w.heap.size, 0, none⟩ = some (.slice xo m.doms.length xc) ∧ W.cell? ⟨w.heap.size, 1, none⟩ = some (.slice co m.cons.length cc))) ∧ Gr [] w9 W)
    ((refine HS9.out _ ?_; with_reducible first | exact (Gr.refl [] w9).drew | exact Gr.refl [] w9 | exact HGa.out | exact HGb.out | assumption))
    (first
    | (go_simp; go_at_call 6; refine (toModel_c m _ _ (Hv.out.gr (Hg9.out.trans (Gr.refl [] w9).drew)) Hs.out).mono ?_; rintro e w10 ⟨v10, rfl, hm10, hg10⟩; obtain ⟨xo10, xc10, co10, cc10, rfl⟩ := (New.mod hm10).slices; have HGa := hid (((Gr.refl [] w9).drew).trans hg10); have Hm10 := hid (New.mod hm10); clear hm10 hg10; (try dsimp only))
    | (go_simp; go_at_call 9; refine (eqModel_t m _ _ _ (Hm9.out.gr HGa.out) Hm10.out).mono ?_; rintro e w11 ⟨rfl, hg11⟩; have HGb := hid (HGa.out.trans hg11); clear hg11; (try dsimp only)))
  all_goals
    obtain ⟨LX, hLX⟩ : ∃ L : List Nat, ∀ i, i ∈ L ↔ w4.heap.size ≤ i ∧ i < w5.heap.size :=
      ⟨List.range' w4.heap.size (w5.heap.size - w4.heap.size), fun i => by rw [List.mem_range'_1]; omega⟩
    obtain ⟨L, hL⟩ : ∃ L : List Nat, ∀ i, i ∈ L ↔ w4.heap.size ≤ i ∧ i < w7.heap.size :=
      ⟨List.range' w4.heap.size (w7.heap.size - w4.heap.size), fun i => by rw [List.mem_range'_1]; omega⟩
    have HLX := hid hLX; have HL := hid hL
    have hw4 : w.heap.size < w4.heap.size := lt_of_block Hb4.out
    have hA4 : w3.heap.size < w4.heap.size := lt_of_block HA4.out
    have HrL := hid ((StoV.sub (S' := L) Hr4.out (fun b hb hm => by have := (HL.out b).1 hm; omega)).gr (Hg48.out.trans (Hg89.out.trans HGb.out)).any)
    have HvL := hid ((ModV.sub (S' := L) Hv.out (fun b hb hm => by have := (HL.out b).1 hm; omega)).gr (Hg9.out.trans HGb.out).any)
    have Hh11 := hid (Hh9.out.gr' (M' := New w4.heap.size w5) HGb.out (by simp) (fun _ _ h => h))
    have Hf11 := hid (Hf9.out.gr HGb.out (by simp))
    have HA11 := hid (HGb.out.obj HA9.out (by simp)); have Hb11 := hid (HGb.out.obj Hb9.out (by simp)); have HG11 := hid (HGb.out.obj HG9.out (by simp)); have Hg11 := hid (Hg9.out.trans HGb.out)
    have fx11 := fld (HGb.out.obj HX9.out (by simp))
    clear fb9 fx9 hLX hL
    go_wp2_with fail
    have hcall := markModel_c (New w4.heap.size w5) m 1 _ _ Hh11.out (by omega) (by have := Hmo.out; omega)
    (with_reducible refine hcall.mono ?_)
    clear hcall
    rintro e w12 ⟨rfl, hmk12⟩
    have hg12 := hmk12.grL (L := LX) (fun k hk => (HLX.out k).2 ⟨hk.1, hk.2⟩)
    have hgL12 : Gr L _ w12 := hg12.sub (fun k _ hk => (HL.out k).2 (by have := (HLX.out k).1 hk; omega))
    obtain ⟨K, hK⟩ : ∃ K : Int, K = 1 + (mkMo m : Int) := ⟨_, rfl⟩
    rw [← hK]
    have hK0 : 0 ≤ K := by omega
    have HA12 := hid (hg12.obj HA11.out (fun h => by have := (HLX.out _).1 h; omega)); have Hb12 := hid (hg12.obj Hb11.out (fun h => by have := (HLX.out _).1 h; omega)); have HG12 := hid (hg12.obj HG11.out (fun h => by have := (HLX.out _).1 h; omega))
    have Hf12 := hid (Hf11.out.gr hg12 (fun b hb => .inl (by have := (HLX.out b).1 hb; omega)))
    have HrM := hid (HrL.out.gr hgL12); have HvM := hid (HvL.out.gr hgL12)
    have Hg12 := hid (Hg11.out.step hg12 (fun i hi => .inr (by have := (HLX.out i).1 hi; omega)))
    have fa12 := fld HA12.out; have fg12 := fld HG12.out
    clear hmk12 hg12 hgL12 hK fx11
    go_wp2_with fail
    have hcall := eqStore_t R _ _ w12 (Hf12.out.sto (S := []) (by simp)) (HrM.out.sub (by simp))
    (with_reducible refine hcall.mono ?_)
    clear hcall
    rintro e w13 ⟨rfl, hg13⟩
    have HA13 := hid (hg13.obj HA12.out (by simp)); have Hb13 := hid (hg13.obj Hb12.out (by simp)); have HG13 := hid (hg13.obj HG12.out (by simp))
    have Hf13 := hid (Hf12.out.gr hg13 (by simp)); have HrN := hid (HrM.out.gr hg13.any); have HvN := hid (HvM.out.gr hg13.any); have Hg13 := hid (Hg12.out.trans hg13)
    have fg13 := fld HG13.out
    clear hg13 fa12 fg12
    go_wp2_with fail
    obtain ⟨dv0, cv0, lv0, e13, hM13, hR13, hN13⟩ := Hf13.out
    simp only [Value.agg.injEq, Array.mk.injEq, List.cons.injEq, and_true] at e13
    obtain ⟨rfl, rfl, rfl⟩ := e13
    have HM13 := hid hM13; have HR13 := hid hR13; have HN13 := hid hN13
    obtain ⟨za, hza⟩ : ∃ z, z = mkMo R.mod := ⟨_, rfl⟩
    obtain ⟨zb, hzb⟩ : ∃ z, z = mkR R.lv := ⟨_, rfl⟩
    have Hza := hid hza; have Hzb := hid hzb
    have hza0 : za ≤ 2097152 := by rw [hza]; exact HRm.out
    have hzb0 : zb ≤ 1000 := by rw [hzb]; exact HRk.out
    clear hM13 hR13 hN13 hza hzb
    have hcall := markStore_w (fun b => w6.heap.size ≤ b ∧ b < w7.heap.size) R.mod R.lv 1 _ _ _ w13 HM13.out HR13.out (by omega) (by have := HRm.out; omega) (by have := HRk.out; omega)
    (with_reducible refine hcall.mono ?_)
    clear hcall
    rw [← Hza.out, ← Hzb.out]
    rintro e w14 ⟨rfl, hmk14, hw14⟩
    have HMd := hid (Marked.of HM13.out HR13.out HN13.out hmk14 hw14)
    rw [← Hza.out, ← Hzb.out] at HMd
    have hgL14 : Gr L w13 w14 := hmk14.grL (L := L) (fun k hk => (HL.out k).2 (by omega))
    have HA14 := hid (hgL14.obj HA13.out (fun h => by have := (HL.out _).1 h; omega)); have Hb14 := hid (hgL14.obj Hb13.out (fun h => by have := (HL.out _).1 h; omega)); have HG14 := hid (hgL14.obj HG13.out (fun h => by have := (HL.out _).1 h; omega))
    have HrO := hid (HrN.out.gr hgL14); have HvO := hid (HvN.out.gr hgL14)
    have Hg14 := hid (Hg13.out.step hgL14 (fun i hi => .inr (by have := (HL.out i).1 hi; omega)))
    have fg14 := fld HG14.out
    clear hmk14 hw14 hgL14 fg13
    go_wp2_with fail
    have hcall := heldStore_m _ za zb _ _ _ w14 HMd.out (by omega) (by omega)
    (with_reducible refine hcall.mono ?_)
    clear hcall
    rintro e w15 ⟨rfl, hg15⟩
    have HA15 := hid (hg15.obj HA14.out (by simp)); have Hb15 := hid (hg15.obj Hb14.out (by simp)); have HG15 := hid (hg15.obj HG14.out (by simp))
    have HMe := hid (HMd.out.gr hg15); have HrP := hid (HrO.out.gr hg15.any); have HvP := hid (HvO.out.gr hg15.any); have Hg15 := hid (Hg14.out.trans hg15)
    have fb15 := fld Hb15.out
    clear hg15 fg14
    go_wp2_with fail
    have hcall := toModel_c m _ w15 (HvP.out.sub (by simp)) Hs.out
    (with_reducible refine hcall.mono ?_)
    clear hcall
    rintro e w16 ⟨v16, rfl, hm16, hg16⟩
    obtain ⟨xo16, xc16, co16, cc16, rfl⟩ := (New.mod hm16).slices
    have Hm16 := hid (New.mod hm16); have Hg16 := hid hg16
    clear hm16 hg16 fb15
    go_wp2_with fail
    have hcall := NewStore_l m D _ _ Hm16.out HD.out Hs.out
    (with_reducible refine hcall.mono ?_)
    clear hcall
    rw [← HR.out]
    rintro e w17 ⟨v17, rfl, hf17, hg17⟩
    obtain ⟨hao, hac, hbo, hbc, hco, hcc, rfl, -, -⟩ := (hf17.sto (S := []) (by simp)).open
    have ha18 : Gr [] w17 (w17.alloc (.cells #[.slice hao R.mod.doms.length hac, .slice hbo R.mod.cons.length hbc, .slice hco R.lv.length hcc] 32)) := (Gr.refl _ _).alloc _
    have hx18 := sto3 w17 (.slice hao R.mod.doms.length hac) (.slice hbo R.mod.cons.length hbc) (.slice hco R.lv.length hcc)
    have Hg18 := hid ((Hg16.out.trans hg17).trans ha18)
    have Hs18 := hid ((hf17.sto (S := []) (by simp)).gr ha18)
    have fh18 := fld hx18; have fa18 := fld (Hg18.out.obj HA15.out (by simp))
    clear hf17 hg17 ha18 hx18
    go_wp2_with fail
    generalize hW18 : w17.alloc (.cells #[.slice hao R.mod.doms.length hac, .slice hbo R.mod.cons.length hbc, .slice hco R.lv.length hcc] 32) = w18 at *
    clear hW18
    have hcall := eqStore_t R _ _ w18 Hs18.out ((HrP.out.gr Hg18.out.any).sub (by simp))
    (with_reducible refine hcall.mono ?_)
    clear hcall
    rintro e w19 ⟨rfl, hg19⟩
    have Hg19 := hid (Hg18.out.trans hg19)
    have fg19 := fld (Hg19.out.obj HG15.out (by simp))
    have HMf := hid (HMe.out.gr Hg19.out)
    clear hg19 fh18 fa18
    go_wp2_with fail
    have hcall := heldStore_m _ za zb _ _ _ w19 HMf.out (by omega) (by omega)
    (with_reducible refine hcall.mono ?_)
    clear hcall
    rintro e w20 ⟨rfl, hg20⟩
    go_wp2_with fail
    go_ret
    exact ⟨rfl, (Hg15.out.trans Hg19.out).trans hg20⟩

end Go.Proofs.Ytihkeihnpiddoaa
