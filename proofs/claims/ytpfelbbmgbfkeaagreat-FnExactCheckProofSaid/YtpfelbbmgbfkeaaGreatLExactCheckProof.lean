/-
  Walk of FnExactCheckProof.
-/
import Derived.Test.YtpfelbbmgbfkeaaGreatEH
import Derived.Test.YtpfelbbmgbfkeaaGreatLK
import Derived.Test.YtpfelbbmgbfkeaaGreatCz
set_option linter.unusedVariables false
set_option linter.unusedSimpArgs false
namespace Go.Proofs.YtpfelbbmgbfkeaaGreat
open Go.RowKit

set_option maxRecDepth 100000 in
set_option maxHeartbeats 4000000 in
theorem FnExactCheckProof_c (m : Mod) (cls : List Cls) (v kv : Value) (w : World) (hv : ModV [] w v m) (hk : ClsV [] w kv cls) :
    Calls Tryz.prog 9 #[v, kv] w (fun e w' => e = .returned (.bool true) ∧ Gr [] w w') := by
  have Hv := hid hv
  obtain ⟨xo, xc, co, cc, rfl⟩ := hv.slices
  obtain ⟨ko, kc, rfl, ⟨hk1, hk2⟩⟩ := hk.slice
  have hg0 : Gr [] w (w.alloc (.cells #[.slice xo m.doms.length xc, .slice co m.cons.length cc] 46)) := (Gr.refl _ _).alloc _
  have hb0 : (w.alloc (.cells #[.slice xo m.doms.length xc, .slice co m.cons.length cc] 46)).heap[w.heap.size]? = some (.cells #[.slice xo m.doms.length xc, .slice co m.cons.length cc] 46 (0, 0)) := heap_alloc_new _ _
  have Hg0 := hid hg0; have Hb0 := hid hb0
  have HK := hid (hk.gr hg0); have HV := hid (Hv.out.gr hg0)
  have fl0 := fld hb0
  clear hv hg0 hb0 hk
  go_enter Tryz.func9, Tryz.ntmps9
  go_wp2_with fail
  generalize hW : w.alloc (.cells #[.slice xo m.doms.length xc, .slice co m.cons.length cc] 46) = w0 at *
  clear hW
  have hcall := szModel_c m 1048576 _ _ HV.out (by omega)
  (with_reducible refine hcall.mono ?_)
  clear hcall
  rintro e w1 ⟨rfl, hg1⟩
  have G1 := hid hg1
  have fl1 := fld (hg1.obj Hb0.out (by simp))
  clear fl0 hg1
  by_cases hbig : (1048576 : Int) < (szMo m : Int)
  · rw [cut_neg hbig]
    go_wp2_with fail
    go_ret
    exact ⟨rfl, Hg0.out.trans G1.out⟩
  rw [cut_pos (by omega)]
  obtain ⟨l, hl⟩ : ∃ l : Int, l = 1048576 - (szMo m : Int) := ⟨_, rfl⟩
  rw [← hl]
  have hl0 : 0 ≤ l ∧ l ≤ 1048576 := by omega
  have Hs : Hid m.Small := hid (small_of_sz (by omega))
  obtain ⟨D, hD⟩ := openVM m
  have HD := hid hD
  clear hl hbig hD
  go_wp2_with fail
  have hcall := szLiteralSS_c cls l _ _ (HK.out.gr G1.out) (by omega)
  (with_reducible refine hcall.mono ?_)
  clear hcall
  rintro e w2 ⟨rfl, hg2⟩
  have G2 := hid (G1.out.trans hg2)
  have fl2 := fld (G2.out.obj Hb0.out (by simp))
  clear fl1 hg2
  by_cases hbig2 : l < (szK cls : Int)
  · rw [cut_neg hbig2]
    go_wp2_with fail
    go_ret
    exact ⟨rfl, Hg0.out.trans G2.out⟩
  rw [cut_pos (by omega)]
  obtain ⟨l2, hl2⟩ : ∃ l2 : Int, l2 = l - (szK cls : Int) := ⟨_, rfl⟩
  rw [← hl2]
  have hl20 : 0 ≤ l2 ∧ l2 ≤ 1048576 := by omega
  have hfew := szK_few (cls := cls) (n := 1048576) (by omega)
  have Hlen : Hid (∀ c ∈ cls, c.length ≤ 2000000) := hid fun c hc => by have := hfew.2 c hc; omega
  have hcl := hfew.1
  clear hl2 hbig2 hfew
  obtain ⟨r, hr⟩ : ∃ r, r = chkB m D cls := ⟨_, rfl⟩
  have HR := hid hr
  clear hr
  go_wp2_with fail
  -- the reference
  have hcall := toModel_c m _ w2 (HV.out.gr G2.out) Hs.out
  (with_reducible refine hcall.mono ?_)
  clear hcall
  rintro e w4 ⟨v4, rfl, hm4, hg4⟩
  obtain ⟨xo4, xc4, co4, cc4, rfl⟩ := (New.mod hm4).slices
  have M4 := hid (New.mod hm4); have G4 := hid (G2.out.trans hg4)
  clear hm4 hg4
  go_wp2_with fail
  have hcall := toLiteralSS_c cls _ w4 (HK.out.gr G4.out) (by omega) Hlen.out
  (with_reducible refine hcall.mono ?_)
  clear hcall
  rintro e w5 ⟨v5, rfl, hm5, hg5⟩
  obtain ⟨a5, c5, rfl, -⟩ := hm5.slice
  have K5 := hid hm5; have G5 := hid (G4.out.trans hg5); have M5 := hid (M4.out.gr hg5)
  clear hm5 hg5
  go_wp2_with fail
  have hcall := specCheckProof_c m D cls _ _ w5 M5.out HD.out Hs.out K5.out Hlen.out
  (with_reducible refine hcall.mono ?_)
  clear hcall
  rw [← HR.out]
  rintro e w7 ⟨rfl, hg7⟩
  have G7 := hid (G5.out.trans hg7)
  have fl7 := fld (G7.out.obj Hb0.out (by simp))
  clear hg7 fl2
  go_wp2_with fail
  -- the arguments
  have hcall := toModel_c m _ w7 (HV.out.gr G7.out) Hs.out
  (with_reducible refine hcall.mono ?_)
  clear hcall
  rintro e w8 ⟨v8, rfl, hm8, hg8⟩
  obtain ⟨xo8, xc8, co8, cc8, rfl⟩ := (New.mod hm8).slices
  have hga : Gr [] w8 (w8.alloc (.cells #[.slice xo8 m.doms.length xc8, .slice co8 m.cons.length cc8] 26)) := (Gr.refl _ _).alloc _
  have hba := heap_alloc_new w8 (.cells #[.slice xo8 m.doms.length xc8, .slice co8 m.cons.length cc8] 26)
  have M9 := hid ((New.mod hm8).gr hga); have G9 := hid ((G7.out.trans hg8).trans hga); have B9 := hid hba
  clear hm8 hg8 hga hba
  go_wp2_with fail
  generalize hW : w8.alloc (.cells #[.slice xo8 m.doms.length xc8, .slice co8 m.cons.length cc8] 26) = w9 at *
  clear hW
  have hcall := toLiteralSS_c cls _ w9 (HK.out.gr G9.out) (by omega) Hlen.out
  (with_reducible refine hcall.mono ?_)
  clear hcall
  rintro e w10 ⟨v10, rfl, hm10, hg10⟩
  obtain ⟨a10, c10, rfl, -⟩ := hm10.slice
  have K10 := hid hm10; have I10 := hid hg10
  clear hm10 hg10
  have fl10 := fld (I10.out.obj B9.out (by simp))
  go_wp2_with fail
  have hcall := CheckProof_c m D cls _ _ w10 (M9.out.gr I10.out) HD.out K10.out Hlen.out
  (with_reducible refine hcall.mono ?_)
  clear hcall
  rw [← HR.out]
  rintro e w12 ⟨rfl, hg12⟩
  have I12 := hid (I10.out.trans hg12); have K12 := hid (K10.out.gr hg12)
  have fl12 := fld (I12.out.obj B9.out (by simp))
  have fm12 := fld ((G9.out.trans I12.out).obj Hb0.out (by simp))
  have fl12d := fld (I12.out.drew.obj B9.out (by simp))
  have fm12d := fld ((G9.out.trans I12.out).drew.obj Hb0.out (by simp))
  clear hg12 fl10 fl7
  have HMA : Hid (∀ W, Gr [] w12 W → ModV [] W (.agg #[.slice xo m.doms.length xc, .slice co m.cons.length cc]) m ∧ ModV [] W (.agg #[.slice xo8 m.doms.length xc8, .slice co8 m.cons.length cc8]) m ∧ W.heap[w8.heap.size]? = some (.cells #[.slice xo8 m.doms.length xc8, .slice co8 m.cons.length cc8] 26 (0, 0)) ∧ W.heap[w.heap.size]? = some (.cells #[.slice xo m.doms.length xc, .slice co m.cons.length cc] 46 (0, 0))) :=
    hid fun W h => ⟨HV.out.gr ((G9.out.trans I12.out).trans h), M9.out.gr (I12.out.trans h), (I12.out.trans h).obj B9.out (by simp), ((G9.out.trans I12.out).trans h).obj Hb0.out (by simp)⟩
  cases r
  all_goals
    go_wp2_with fail
    go_region_law (first
      | (go_simp; go_at_call 38; refine (toModel_c m _ _ (HMA.out _ ((Gr.refl _ _).drew)).1 Hs.out).mono ?_; rintro e wa ⟨va, rfl, hma, hga⟩; obtain ⟨xoa, xca, coa, cca, rfl⟩ := (New.mod hma).slices; have hgxa : Gr [] w12 wa := ((Gr.refl [] w12).drew).trans hga; have fxa := fld (HMA.out _ hgxa).2.2.1; have fxb := fld (HMA.out _ hgxa).2.2.2; have Hma := hid (New.mod hma); have Hgxa := hid hgxa; clear hma hga hgxa)
      | (go_simp; go_at_call 41; refine (eqModel_t m _ _ _ (HMA.out _ Hgxa.out).2.1 Hma.out).mono ?_; rintro e w13 ⟨rfl, hgz⟩))
    all_goals
      have I13 := hid (I12.out.trans (Hgxa.out.trans hgz)); have K13 := hid (K12.out.gr (Hgxa.out.trans hgz))
      clear hgz fxa fxb
      go_wp2_with fail
      have hcall := toLiteralSS_c cls _ w13 (HK.out.gr (G9.out.trans I13.out)) (by omega) Hlen.out
      (with_reducible refine hcall.mono ?_)
      clear hcall
      rintro e w14 ⟨v14, rfl, hm14, hg14⟩
      obtain ⟨a14, c14, rfl, -⟩ := hm14.slice
      have K14 := hid hm14; have I14 := hid (I13.out.trans hg14); have KX14 := hid (K13.out.gr hg14)
      clear hm14 hg14
      go_wp2_with fail
      have hcall := eqLiteralSS_t cls _ _ w14 KX14.out K14.out
      (with_reducible refine hcall.mono ?_)
      clear hcall
      rintro e w15 ⟨rfl, hg15⟩
      have I15 := hid (I14.out.trans hg15)
      clear hg15
      go_wp2_with fail
      go_ret
      exact ⟨rfl, Hg0.out.trans (G9.out.trans I15.out)⟩
end Go.Proofs.YtpfelbbmgbfkeaaGreat
