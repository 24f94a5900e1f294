/-
  Walk of FnExactCheckOptimal.
-/
import Derived.Test.YtlekngkcifgonaaGreatYSy1ToRe
import Derived.Test.YtlekngkcifgonaaGreatYLEToLM
import Derived.Test.YtlekngkcifgonaaGreatYBx
set_option linter.unusedVariables false
set_option linter.unusedSimpArgs false
namespace Go.Proofs.YtlekngkcifgonaaGreat
open Go.RowKit

set_option maxRecDepth 100000 in
set_option maxHeartbeats 8000000 in
theorem FnExactCheckOptimal_c (m : Mod) (X Y : List Int) (cls : List Cls) (v xv yv kv : Value) (w : World) (hv : ModV [] w v m) (hx : Nums [] w .i64 xv X) (hy : Nums [] w .i64 yv Y) (hk : ClsV [] w kv cls) :
    Calls Tryz.prog 12 #[v, xv, yv, kv] w (fun e w' => e = .returned (.bool true) ∧ Gr [] w w') := by
  have Hv := hid hv
  obtain ⟨xo, xc, co, cc, rfl⟩ := hv.slices
  obtain ⟨ko, kc, rfl, ⟨hk1, hk2⟩⟩ := hk.slice
  obtain ⟨po, pc, rfl, ⟨hp1, hp2, -⟩, -⟩ := id hx
  obtain ⟨qo, qc, rfl, ⟨hq1, hq2, -⟩, -⟩ := id hy
  have hg0 : Gr [] w (w.alloc (.cells #[.slice xo m.doms.length xc, .slice co m.cons.length cc] 72)) := (Gr.refl _ _).alloc _
  have hb0 : (w.alloc (.cells #[.slice xo m.doms.length xc, .slice co m.cons.length cc] 72)).heap[w.heap.size]? = some (.cells #[.slice xo m.doms.length xc, .slice co m.cons.length cc] 72 (0, 0)) := heap_alloc_new _ _
  have Hg0 := hid hg0; have Hb0 := hid hb0
  have HK := hid (hk.gr hg0); have HV := hid (Hv.out.gr hg0); have HX := hid (hx.gr hg0); have HY := hid (hy.gr hg0)
  have fl0 := fld hb0
  clear hv hg0 hb0 hk hx hy
  by_cases hX : 1048576 < X.length
  · have hX' : decide ((1048576 : Int) < (X.length : Int)) = true := by simp; omega
    go_enter Tryz.func12, Tryz.ntmps12
    go_wp2_with fail
    go_ret
    exact ⟨rfl, Hg0.out⟩
  have hX' : decide ((1048576 : Int) < (X.length : Int)) = false := by simp; omega
  by_cases hY : 1048576 < Y.length
  · have hY' : decide ((1048576 : Int) < (Y.length : Int)) = true := by simp; omega
    go_enter Tryz.func12, Tryz.ntmps12
    go_wp2_with fail
    go_ret
    exact ⟨rfl, Hg0.out⟩
  have hY' : decide ((1048576 : Int) < (Y.length : Int)) = false := by simp; omega
  go_enter Tryz.func12, Tryz.ntmps12
  go_wp2_with fail
  generalize hW : w.alloc (.cells #[.slice xo m.doms.length xc, .slice co m.cons.length cc] 72) = w0 at *
  clear hW
  have hcall := szModel_c m 1048576 _ _ HV.out (by omega)
  (with_reducible refine hcall.mono ?_)
  clear hcall
  rintro e w1 ⟨rfl, hg1⟩
  have G1 := hid hg1
  have fl1 := fld (hg1.obj Hb0.out (by simp))
  clear fl0 hg1
  by_cases hbig : (1048576 : Int) < (szMo m : Int)
  · rw [cut_neg hbig]
    go_wp2_with fail
    go_ret
    exact ⟨rfl, Hg0.out.trans G1.out⟩
  rw [cut_pos (by omega)]
  obtain ⟨l, hl⟩ : ∃ l : Int, l = 1048576 - (szMo m : Int) := ⟨_, rfl⟩
  rw [← hl]
  have hl0 : 0 ≤ l ∧ l ≤ 1048576 := by omega
  have Hs : Hid m.Small := hid (small_of_sz (by omega))
  obtain ⟨D, hD⟩ := openVM m
  have HD := hid hD
  clear hl hbig hD
  go_wp2_with fail
  have hcall := szLiteralSS_c cls l _ _ (HK.out.gr G1.out) (by omega)
  (with_reducible refine hcall.mono ?_)
  clear hcall
  rintro e w2 ⟨rfl, hg2⟩
  have G2 := hid (G1.out.trans hg2)
  have fl2 := fld (G2.out.obj Hb0.out (by simp))
  clear fl1 hg2
  by_cases hbig2 : l < (szK cls : Int)
  · rw [cut_neg hbig2]
    go_wp2_with fail
    go_ret
    exact ⟨rfl, Hg0.out.trans G2.out⟩
  rw [cut_pos (by omega)]
  obtain ⟨l2, hl2⟩ : ∃ l2 : Int, l2 = l - (szK cls : Int) := ⟨_, rfl⟩
  rw [← hl2]
  have hl20 : 0 ≤ l2 ∧ l2 ≤ 1048576 := by omega
  have hfew := szK_few (cls := cls) (n := 1048576) (by omega)
  have Hlen : Hid (∀ c ∈ cls, c.length ≤ 2000000) := hid fun c hc => by have := hfew.2 c hc; omega
  have hcl := hfew.1
  clear hl2 hbig2 hfew
  obtain ⟨r, hr⟩ : ∃ r, r = coptB m D X Y cls := ⟨_, rfl⟩
  have HR := hid hr
  clear hr
  go_wp2_with fail
  -- the reference
  have hcall := toModel_c m _ w2 (HV.out.gr G2.out) Hs.out
  (with_reducible refine hcall.mono ?_)
  clear hcall
  rintro e w4 ⟨v4, rfl, hm4, hg4⟩
  obtain ⟨xo4, xc4, co4, cc4, rfl⟩ := (New.mod hm4).slices
  have M4 := hid (New.mod hm4); have G4 := hid (G2.out.trans hg4)
  clear hm4 hg4
  go_wp2_with fail
  have hcall := toIntS_c X _ w4 (HX.out.gr G4.out) (by omega)
  (with_reducible refine hcall.mono ?_)
  clear hcall
  rintro e w5 ⟨v5, rfl, hn5, hg5⟩
  obtain ⟨a5, c5, rfl⟩ := hn5.c.form
  have X5 := hid (hn5.nums' (S := []) (by simp)); have G5 := hid (G4.out.trans hg5); have M5 := hid (M4.out.gr hg5)
  clear hn5 hg5
  go_wp2_with fail
  have hcall := toIntS_c Y _ w5 (HY.out.gr G5.out) (by omega)
  (with_reducible refine hcall.mono ?_)
  clear hcall
  rintro e w6 ⟨v6, rfl, hn6, hg6⟩
  obtain ⟨a6, c6, rfl⟩ := hn6.c.form
  have Y6 := hid (hn6.nums' (S := []) (by simp)); have G6 := hid (G5.out.trans hg6); have M6 := hid (M5.out.gr hg6); have X6 := hid (X5.out.gr hg6)
  clear hn6 hg6
  go_wp2_with fail
  have hcall := toLiteralSS_c cls _ w6 (HK.out.gr G6.out) (by omega) Hlen.out
  (with_reducible refine hcall.mono ?_)
  clear hcall
  rintro e w7 ⟨v7, rfl, hm7, hg7⟩
  obtain ⟨a7, c7, rfl, -⟩ := hm7.slice
  have K7 := hid hm7; have G7 := hid (G6.out.trans hg7); have M7 := hid (M6.out.gr hg7); have X7 := hid (X6.out.gr hg7); have Y7 := hid (Y6.out.gr hg7)
  clear hm7 hg7
  go_wp2_with fail
  have hcall := specCheckOptimal_c m D X Y cls _ _ _ _ w7 M7.out HD.out Hs.out X7.out Y7.out K7.out Hlen.out
  (with_reducible refine hcall.mono ?_)
  clear hcall
  rw [← HR.out]
  rintro e w8 ⟨rfl, hg8⟩
  have G8 := hid (G7.out.trans hg8)
  have fl8 := fld (G8.out.obj Hb0.out (by simp))
  clear hg8 fl2
  go_wp2_with fail
  -- the arguments
  have hcall := toModel_c m _ w8 (HV.out.gr G8.out) Hs.out
  (with_reducible refine hcall.mono ?_)
  clear hcall
  rintro e w9 ⟨v9, rfl, hm9, hg9⟩
  obtain ⟨xo9, xc9, co9, cc9, rfl⟩ := (New.mod hm9).slices
  have hga : Gr [] w9 (w9.alloc (.cells #[.slice xo9 m.doms.length xc9, .slice co9 m.cons.length cc9] 26)) := (Gr.refl _ _).alloc _
  have hba := heap_alloc_new w9 (.cells #[.slice xo9 m.doms.length xc9, .slice co9 m.cons.length cc9] 26)
  have MA := hid ((New.mod hm9).gr hga); have GA := hid ((G8.out.trans hg9).trans hga); have BA := hid hba
  clear hm9 hg9 hga hba
  go_wp2_with fail
  generalize hW : w9.alloc (.cells #[.slice xo9 m.doms.length xc9, .slice co9 m.cons.length cc9] 26) = wA at *
  clear hW
  have hcall := toIntS_c X _ wA (HX.out.gr GA.out) (by omega)
  (with_reducible refine hcall.mono ?_)
  clear hcall
  rintro e w10 ⟨v10, rfl, hn10, hg10⟩
  obtain ⟨a10, c10, rfl⟩ := hn10.c.form
  have X10 := hid (hn10.nums' (S := []) (by simp)); have I10 := hid hg10
  clear hn10 hg10
  go_wp2_with fail
  have hcall := toIntS_c Y _ w10 (HY.out.gr (GA.out.trans I10.out)) (by omega)
  (with_reducible refine hcall.mono ?_)
  clear hcall
  rintro e w11 ⟨v11, rfl, hn11, hg11⟩
  obtain ⟨a11, c11, rfl⟩ := hn11.c.form
  have Y11 := hid (hn11.nums' (S := []) (by simp)); have I11 := hid (I10.out.trans hg11); have X11 := hid (X10.out.gr hg11)
  clear hn11 hg11
  go_wp2_with fail
  have hcall := toLiteralSS_c cls _ w11 (HK.out.gr (GA.out.trans I11.out)) (by omega) Hlen.out
  (with_reducible refine hcall.mono ?_)
  clear hcall
  rintro e w12 ⟨v12, rfl, hm12, hg12⟩
  obtain ⟨a12, c12, rfl, -⟩ := hm12.slice
  have K12 := hid hm12; have I12 := hid (I11.out.trans hg12); have X12 := hid (X11.out.gr hg12); have Y12 := hid (Y11.out.gr hg12)
  have fl12 := fld (I12.out.obj BA.out (by simp))
  clear hm12 hg12
  go_wp2_with fail
  have hcall := CheckOptimal_c m D X Y cls _ _ _ _ w12 (MA.out.gr I12.out) HD.out Hs.out X12.out Y12.out K12.out Hlen.out
  (with_reducible refine hcall.mono ?_)
  clear hcall
  rw [← HR.out]
  rintro e w13 ⟨rfl, hg13⟩
  have I13 := hid (I12.out.trans hg13); have K13 := hid (K12.out.gr hg13); have X13 := hid (X12.out.gr hg13); have Y13 := hid (Y12.out.gr hg13)
  have fl13 := fld (I13.out.obj BA.out (by simp))
  have fm13 := fld ((GA.out.trans I13.out).obj Hb0.out (by simp))
  have fl13d := fld (I13.out.drew.obj BA.out (by simp))
  have fm13d := fld ((GA.out.trans I13.out).drew.obj Hb0.out (by simp))
  clear hg13 fl12 fl8
  have HMA : Hid (∀ W, Gr [] w13 W → ModV [] W (.agg #[.slice xo m.doms.length xc, .slice co m.cons.length cc]) m ∧ ModV [] W (.agg #[.slice xo9 m.doms.length xc9, .slice co9 m.cons.length cc9]) m ∧ W.heap[w9.heap.size]? = some (.cells #[.slice xo9 m.doms.length xc9, .slice co9 m.cons.length cc9] 26 (0, 0)) ∧ W.heap[w.heap.size]? = some (.cells #[.slice xo m.doms.length xc, .slice co m.cons.length cc] 72 (0, 0))) :=
    hid fun W h => ⟨HV.out.gr ((GA.out.trans I13.out).trans h), MA.out.gr (I13.out.trans h), (I13.out.trans h).obj BA.out (by simp), ((GA.out.trans I13.out).trans h).obj Hb0.out (by simp)⟩
  cases r
  all_goals
    go_wp2_with fail
    go_region_law (first
      | (go_simp; go_at_call 52; refine (toModel_c m _ _ (HMA.out _ ((Gr.refl _ _).drew)).1 Hs.out).mono ?_; rintro e wa ⟨va, rfl, hma, hga⟩; obtain ⟨xoa, xca, coa, cca, rfl⟩ := (New.mod hma).slices; have hgxa : Gr [] w13 wa := ((Gr.refl [] w13).drew).trans hga; have fxa := fld (HMA.out _ hgxa).2.2.1; have fxb := fld (HMA.out _ hgxa).2.2.2; have Hma := hid (New.mod hma); have Hgxa := hid hgxa; clear hma hga hgxa)
      | (go_simp; go_at_call 55; refine (eqModel_t m _ _ _ (HMA.out _ Hgxa.out).2.1 Hma.out).mono ?_; rintro e w14 ⟨rfl, hgz⟩))
    all_goals
      have I14 := hid (I13.out.trans (Hgxa.out.trans hgz)); have K14 := hid (K13.out.gr (Hgxa.out.trans hgz)); have X14 := hid (X13.out.gr (Hgxa.out.trans hgz)); have Y14 := hid (Y13.out.gr (Hgxa.out.trans hgz))
      clear hgz fxa fxb
      go_wp2_with fail
      have hcall := toIntS_c X _ w14 (HX.out.gr (GA.out.trans I14.out)) (by omega)
      (with_reducible refine hcall.mono ?_)
      clear hcall
      rintro e w15 ⟨v15, rfl, hn15, hg15⟩
      obtain ⟨a15, c15, rfl⟩ := hn15.c.form
      have Z15 := hid (hn15.nums' (S := []) (by simp)); have I15 := hid (I14.out.trans hg15); have K15 := hid (K14.out.gr hg15); have X15 := hid (X14.out.gr hg15); have Y15 := hid (Y14.out.gr hg15)
      clear hn15 hg15
      go_wp2_with fail
      have hcall := eqIntS_t X _ _ w15 X15.out Z15.out
      (with_reducible refine hcall.mono ?_)
      clear hcall
      rintro e w16 ⟨rfl, hg16⟩
      have I16 := hid (I15.out.trans hg16); have K16 := hid (K15.out.gr hg16); have Y16 := hid (Y15.out.gr hg16)
      clear hg16
      go_wp2_with fail
      have hcall := toIntS_c Y _ w16 (HY.out.gr (GA.out.trans I16.out)) (by omega)
      (with_reducible refine hcall.mono ?_)
      clear hcall
      rintro e w17 ⟨v17, rfl, hn17, hg17⟩
      obtain ⟨a17, c17, rfl⟩ := hn17.c.form
      have Z17 := hid (hn17.nums' (S := []) (by simp)); have I17 := hid (I16.out.trans hg17); have K17 := hid (K16.out.gr hg17); have Y17 := hid (Y16.out.gr hg17)
      clear hn17 hg17
      go_wp2_with fail
      have hcall := eqIntS_t Y _ _ w17 Y17.out Z17.out
      (with_reducible refine hcall.mono ?_)
      clear hcall
      rintro e w18 ⟨rfl, hg18⟩
      have I18 := hid (I17.out.trans hg18); have K18 := hid (K17.out.gr hg18)
      clear hg18
      go_wp2_with fail
      have hcall := toLiteralSS_c cls _ w18 (HK.out.gr (GA.out.trans I18.out)) (by omega) Hlen.out
      (with_reducible refine hcall.mono ?_)
      clear hcall
      rintro e w19 ⟨v19, rfl, hm19, hg19⟩
      obtain ⟨a19, c19, rfl, -⟩ := hm19.slice
      have Z19 := hid hm19; have I19 := hid (I18.out.trans hg19); have K19 := hid (K18.out.gr hg19)
      clear hm19 hg19
      go_wp2_with fail
      have hcall := eqLiteralSS_t cls _ _ w19 K19.out Z19.out
      (with_reducible refine hcall.mono ?_)
      clear hcall
      rintro e w20 ⟨rfl, hg20⟩
      have I20 := hid (I19.out.trans hg20)
      clear hg20
      go_wp2_with fail
      go_ret
      exact ⟨rfl, Hg0.out.trans (GA.out.trans I20.out)⟩
end Go.Proofs.YtlekngkcifgonaaGreat
