/-
  Walk of FnExactLowerBound.
-/
import Derived.Test.YtilcicoekpmelaaDoorPSy1ToRe
import Derived.Test.YtilcicoekpmelaaDoorPLw
set_option linter.unusedVariables false
set_option linter.unusedSimpArgs false
namespace Go.Proofs.YtilcicoekpmelaaDoor
open Go.RowKit

set_option maxRecDepth 100000 in
set_option maxHeartbeats 4000000 in
theorem FnExactLowerBound_c  (m : Mod) (X : List Int) (v vX : Value) (w : World) (hv : ModV [] w v m) (hX : Nums [] w .i64 vX X) (hT : Tab w) :
    Calls Tryd.prog 3 #[v, vX] w (fun e w' => e = .returned (.bool true) ∧ Gr [] w w') := by
  have Hv := hid hv; have HT := hid hT
  obtain ⟨xo, xc, co, cc, rfl⟩ := hv.slices
  obtain ⟨ko, kc, rfl, ⟨hk1, hk2, -⟩, -⟩ := id hX
  have hg0 : Gr [] w (w.alloc (.cells #[.slice xo m.doms.length xc, .slice co m.cons.length cc] 25)) := (Gr.refl _ _).alloc _
  have hb0 : (w.alloc (.cells #[.slice xo m.doms.length xc, .slice co m.cons.length cc] 25)).heap[w.heap.size]? = some (.cells #[.slice xo m.doms.length xc, .slice co m.cons.length cc] 25 (0, 0)) := heap_alloc_new _ _
  have Hg0 := hid hg0; have Hb0 := hid hb0
  have HX := hid (hX.gr hg0); have HV := hid (Hv.out.gr hg0)
  have fl0 := fld hb0
  clear hv hg0 hb0 hX hT
  by_cases bigX : 1048576 < X.length
  · go_enter Tryd.func3, Tryd.ntmps3
    go_wp2_with fail
    go_ret
    exact ⟨rfl, Hg0.out⟩
  have nbigX : decide ((1048576 : Int) < (X.length : Int)) = false := by simp; omega
  have hszX : X.length ≤ 1048576 := by omega
  clear bigX
  go_enter Tryd.func3, Tryd.ntmps3
  go_wp2_with fail
  generalize hW : w.alloc (.cells #[.slice xo m.doms.length xc, .slice co m.cons.length cc] 25) = w0 at *
  clear hW
  have hcall := szModel_c m 1048576 _ _ HV.out (by omega)
  (with_reducible refine hcall.mono ?_)
  clear hcall
  rintro e w1 ⟨rfl, hg1⟩
  have G1 := hid hg1
  have fl1 := fld (hg1.obj Hb0.out (by simp))
  clear fl0 hg1
  by_cases hbig : (1048576 : Int) < (szMo m : Int)
  · rw [cut_neg hbig]
    go_wp2_with fail
    go_ret
    exact ⟨rfl, Hg0.out.trans G1.out⟩
  rw [cut_pos (by omega)]
  obtain ⟨l, hl⟩ : ∃ l : Int, l = 1048576 - (szMo m : Int) := ⟨_, rfl⟩
  rw [← hl]
  have hl0 : 0 ≤ l ∧ l ≤ 1048576 := by omega
  have Hs : Hid m.Small := hid (small_of_sz (by omega))
  obtain ⟨D, hD⟩ := openVM m
  have HD := hid hD
  clear hl hbig hD
  obtain ⟨R, hR⟩ : ∃ R, R = (lowO m D X).getD 0 := ⟨_, rfl⟩
  obtain ⟨RB, hRB⟩ : ∃ RB, RB = (lowO m D X).isSome := ⟨_, rfl⟩
  have HR := hid hR; have HRB := hid hRB
  clear hR hRB
  have hRR : (R != R) = false := by simp
  have hRRB : (RB != RB) = false := by simp
  go_wp2_with fail
  -- the reference
  have hcall := toModel_c m _ w1 (HV.out.gr G1.out) Hs.out
  (with_reducible refine hcall.mono ?_)
  clear hcall
  rintro e w4 ⟨v4, rfl, hm4, hg4⟩
  obtain ⟨xo4, xc4, co4, cc4, rfl⟩ := (New.mod hm4).slices
  have M4 := hid (New.mod hm4); have G4 := hid (G1.out.trans hg4)
  clear hm4 hg4
  go_wp2_with fail
  have hcall := toIntS_c X _ w4 (HX.out.gr G4.out) (by omega)
  (with_reducible refine hcall.mono ?_)
  clear hcall
  rintro e w5 ⟨v5, rfl, ho5, hg5⟩
  have X5 := hid (ho5.nums (S := []) (by simp))
  obtain ⟨a5, c5, rfl, -, -⟩ := ho5.nums (S := []) (by simp)
  have G5 := hid (G4.out.trans hg5); have M5 := hid (M4.out.gr hg5)
  clear ho5 hg5
  go_wp2_with fail
  have hcall := specLowerBound_c m D X _ _ w5 M5.out HD.out Hs.out X5.out
  (with_reducible refine hcall.mono ?_)
  clear hcall
  rw [← HR.out, ← HRB.out]
  rintro e w7 ⟨rfl, hg7⟩
  have G7 := hid (G5.out.trans hg7)
  have fl7 := fld (G7.out.obj Hb0.out (by simp))
  clear hg7 fl1
  go_wp2_with fail
  -- the arguments
  have hcall := toModel_c m _ w7 (HV.out.gr G7.out) Hs.out
  (with_reducible refine hcall.mono ?_)
  clear hcall
  rintro e w8 ⟨v8, rfl, hm8, hg8⟩
  obtain ⟨xo8, xc8, co8, cc8, rfl⟩ := (New.mod hm8).slices
  have hga : Gr [] w8 (w8.alloc (.cells #[.slice xo8 m.doms.length xc8, .slice co8 m.cons.length cc8] 31)) := (Gr.refl _ _).alloc _
  have hba := heap_alloc_new w8 (.cells #[.slice xo8 m.doms.length xc8, .slice co8 m.cons.length cc8] 31)
  have M9 := hid ((New.mod hm8).gr hga); have G9 := hid ((G7.out.trans hg8).trans hga); have B9 := hid hba
  clear hm8 hg8 hga hba
  go_wp2_with fail
  generalize hW : w8.alloc (.cells #[.slice xo8 m.doms.length xc8, .slice co8 m.cons.length cc8] 31) = w9 at *
  clear hW
  have hcall := toIntS_c X _ w9 (HX.out.gr G9.out) (by omega)
  (with_reducible refine hcall.mono ?_)
  clear hcall
  rintro e w10 ⟨v10, rfl, ho10, hg10⟩
  have X10 := hid (ho10.nums (S := []) (by simp))
  obtain ⟨a10, c10, rfl, -, -⟩ := ho10.nums (S := []) (by simp)
  have I10 := hid hg10
  have fl10 := fld (I10.out.obj B9.out (by simp))
  clear ho10 hg10
  go_wp2_with fail
  have hcall := LowerBound_c m D X _ _ w10 (M9.out.gr I10.out) HD.out X10.out (HT.out.gr ((Hg0.out.trans G9.out).trans I10.out))
  (with_reducible refine hcall.mono ?_)
  clear hcall
  rw [← HR.out, ← HRB.out]
  rintro e w12 ⟨rfl, hg12⟩
  have I12 := hid (I10.out.trans hg12); have X12 := hid (X10.out.gr hg12)
  have fl12 := fld (I12.out.obj B9.out (by simp))
  have fm12 := fld ((G9.out.trans I12.out).obj Hb0.out (by simp))
  have fl12d := fld (I12.out.drew.obj B9.out (by simp))
  have fm12d := fld ((G9.out.trans I12.out).drew.obj Hb0.out (by simp))
  clear hg12 fl10 fl7
  have HMA : Hid (∀ W, Gr [] w12 W → ModV [] W (.agg #[.slice xo m.doms.length xc, .slice co m.cons.length cc]) m ∧ ModV [] W (.agg #[.slice xo8 m.doms.length xc8, .slice co8 m.cons.length cc8]) m ∧ W.heap[w8.heap.size]? = some (.cells #[.slice xo8 m.doms.length xc8, .slice co8 m.cons.length cc8] 31 (0, 0)) ∧ W.heap[w.heap.size]? = some (.cells #[.slice xo m.doms.length xc, .slice co m.cons.length cc] 25 (0, 0))) :=
    hid fun W h => ⟨HV.out.gr ((G9.out.trans I12.out).trans h), M9.out.gr (I12.out.trans h), (I12.out.trans h).obj B9.out (by simp), ((G9.out.trans I12.out).trans h).obj Hb0.out (by simp)⟩
  go_wp2_with fail
  go_region_law (first
    | (go_simp; go_at_call 6; refine (toModel_c m _ _ (HMA.out _ ((Gr.refl _ _).drew)).1 Hs.out).mono ?_; rintro e wa ⟨va, rfl, hma, hga⟩; obtain ⟨xoa, xca, coa, cca, rfl⟩ := (New.mod hma).slices; have hgxa : Gr [] w12 wa := ((Gr.refl [] w12).drew).trans hga; have fxa := fld (HMA.out _ hgxa).2.2.1; have fxb := fld (HMA.out _ hgxa).2.2.2; have Hma := hid (New.mod hma); have Hgxa := hid hgxa; clear hma hga hgxa)
    | (go_simp; go_at_call 9; refine (eqModel_t m _ _ _ (HMA.out _ Hgxa.out).2.1 Hma.out).mono ?_; rintro e w13 ⟨rfl, hgz⟩))
  all_goals
    have I13 := hid (I12.out.trans (Hgxa.out.trans hgz)); have X13 := hid (X12.out.gr (Hgxa.out.trans hgz))
    clear hgz fxa fxb
    go_wp2_with fail
    have hcall := toIntS_c X _ w13 (HX.out.gr (G9.out.trans I13.out)) (by omega)
    (with_reducible refine hcall.mono ?_)
    clear hcall
    rintro e w14 ⟨v14, rfl, ho14, hg14⟩
    have X14 := hid (ho14.nums (S := []) (by simp))
    obtain ⟨a14, c14, rfl, -, -⟩ := ho14.nums (S := []) (by simp)
    have I14 := hid (I13.out.trans hg14); have XX14 := hid (X13.out.gr hg14)
    clear ho14 hg14
    go_wp2_with fail
    have hcall := eqIntS_t X _ _ w14 XX14.out X14.out
    (with_reducible refine hcall.mono ?_)
    clear hcall
    rintro e w15 ⟨rfl, hg15⟩
    have I15 := hid (I14.out.trans hg15)
    clear hg15
    go_wp2_with fail
    go_ret
    exact ⟨rfl, Hg0.out.trans (G9.out.trans I15.out)⟩
end Go.Proofs.YtilcicoekpmelaaDoor
