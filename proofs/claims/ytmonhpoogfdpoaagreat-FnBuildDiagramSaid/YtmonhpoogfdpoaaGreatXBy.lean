/-
  Walk of the reference's BuildDiagram.
-/
import Derived.Test.YtmonhpoogfdpoaaGreatXBt2
import Derived.Test.YtmonhpoogfdpoaaGreatXBr
import Derived.Test.YtmonhpoogfdpoaaGreatXTu
import Derived.Test.YtmonhpoogfdpoaaGreatXG1
set_option linter.unusedVariables false
set_option linter.unusedSimpArgs false
namespace Go.Proofs.YtmonhpoogfdpoaaGreat
open Go.RowKit

structure SbI (n : Nat) (S0 : SS) (B : Nat) (wb : World) (i : Nat) (outv layerv : Value) (us : List Value) (wr : World) : Prop where
  gr : Gr [] wb wr
  ow : OwnV 1 B wr 24 outv (us.map fun u => [u])
  ul : us.length = i
  ee : ∀ (j : Nat) u r, us[j]? = some u → (dgm n [S0])[j]? = some r → RowsV outv.ownBlock.toList wr u r
  la : DgV outv.ownBlock.toList wr layerv (layS S0 i)
theorem SbI.next {n : Nat} {S0 : SS} {B : Nat} {wb wr w4 w6 : World} {i : Nat} {outv layerv ev nv out2 : Value} {us : List Value} (h : SbI n S0 B wb i outv layerv us wr) (hi : i < n) (hB : wb.heap.size ≤ B) (h4 : Gr [] wr w4)
    (hev : RowsV outv.ownBlock.toList w4 ev ((layS S0 i).map (rowP (nextL (layS S0 i) [])))) (hnv : DgV outv.ownBlock.toList w4 nv (nextL (layS S0 i) [])) (hg : Gr outv.ownBlock.toList w4 w6)
    (hown : OwnV 1 B w6 24 out2 ((us ++ [ev]).map fun u => [u])) (hwh : ∀ b, out2.ownBlock = some b → outv.ownBlock = some b ∨ w4.heap.size ≤ b) : SbI n S0 B wb (i + 1) out2 nv (us ++ [ev]) w6 := by
  have hs4 := h4.size
  have hT : ∀ t ∈ outv.ownBlock.toList, t ∈ outv.ownBlock.toList ∨ w4.heap.size ≤ t := fun t ht => .inl ht
  have hL : ∀ b ∈ out2.ownBlock.toList, b ∈ outv.ownBlock.toList ∨ w4.heap.size ≤ b := fun b hb => by
    simp only [Option.mem_toList] at hb ⊢
    exact hwh b hb
  refine ⟨(h.gr.trans h4).step hg fun t ht => .inr ?_, hown, by rw [List.length_append, h.ul]; rfl, fun j u r hu hr => ?_, hnv.mv hg hT hL⟩
  · have := (h.ow.own (Option.mem_toList.1 ht)).1; omega
  · by_cases hj : j < us.length
    · rw [List.getElem?_append_left hj] at hu
      exact ((h.ee j u r hu hr).gr h4.any).mv hg hT hL
    · have hje : j = i := by
        have := (List.getElem?_eq_some_iff.1 hu).1
        rw [List.length_append, h.ul] at this
        have := h.ul
        simp at *; omega
      subst hje
      rw [List.getElem?_append_right (by omega), h.ul, Nat.sub_self] at hu
      rw [dgm_get0 S0 hi] at hr
      simp at hu hr
      rw [← hu, ← hr]
      exact hev.mv hg hT hL
theorem SbI.fin {n : Nat} {S0 : SS} {B : Nat} {wb wr : World} {outv layerv : Value} {us : List Value} (h : SbI n S0 B wb n outv layerv us wr) : DgV [] wr outv (dgm n [S0]) :=
  h.ow.dg (by rw [h.ul, dgm_len]) (by simp) fun j u r hu hr => (h.ee j u r hu hr).sub (by simp)

set_option maxRecDepth 100000 in
set_option maxHeartbeats 4000000 in
theorem specBuildDiagram_c (c : Con) (ds : List Int) (D : List Nat) (cv dv0 : Value) (w : World) (hv : ConV [] w cv c) (hx : Nums [] w .i64 dv0 ds) (hkl : c.vars.length ≤ 2000000) (hD : domsOk ds = true → ds = ints D ∧ Below64 D) :
    Calls Tryz.prog 7 #[cv, dv0] w fun e w' => ∃ v, e = .returned v ∧ DgV [] w' v (bldD c ds D) ∧ Gr [] w w' := by
  have Hv := hid hv
  have Hx := hid hx
  obtain ⟨vo, vc, ao, ac, ro, rc, rfl⟩ := hv.slices
  obtain ⟨dO, dc, rfl, ⟨hd1, hd2, _⟩, _⟩ := hx
  have hb0 := ((Gr.refl [] _).alloc (.cells #[] 24)).obj (heap_alloc_new w (.cells #[.int .i64 c.kind, .slice vo c.vars.length vc, .slice ao c.args.length ac, .int .i64 c.bound, .slice ro c.rows.length rc] 26)) (by simp)
  have hg0 : Gr [] w ((w.alloc (.cells #[.int .i64 c.kind, .slice vo c.vars.length vc, .slice ao c.args.length ac, .int .i64 c.bound, .slice ro c.rows.length rc] 26)).alloc (.cells #[] 24)) := ((Gr.refl _ _).alloc _).alloc _
  have hfl := fld hb0
  have how : OwnV 1 (w.heap.size + 1) ((w.alloc (.cells #[.int .i64 c.kind, .slice vo c.vars.length vc, .slice ao c.args.length ac, .int .i64 c.bound, .slice ro c.rows.length rc] 26)).alloc (.cells #[] 24)) 24 (.slice (some ⟨w.heap.size + 1, 0, none⟩) 0 0) [] := by
    have := OwnV.empty (size := 1) (B := w.heap.size + 1) (w.alloc (.cells #[.int .i64 c.kind, .slice vo c.vars.length vc, .slice ao c.args.length ac, .int .i64 c.bound, .slice ro c.rows.length rc] 26)) 24 (by simp)
    rwa [World.size_alloc] at this
  have hfb := fld (heap_alloc_new w (.cells #[.int .i64 c.kind, .slice vo c.vars.length vc, .slice ao c.args.length ac, .int .i64 c.bound, .slice ro c.rows.length rc] 26))
  have Hbx := hid (heap_alloc_new w (.cells #[.int .i64 c.kind, .slice vo c.vars.length vc, .slice ao c.args.length ac, .int .i64 c.bound, .slice ro c.rows.length rc] 26))
  have Hb0 := hid hb0; have Hg0 := hid hg0; have HD := hid hD; have How := hid how
  clear hv hb0 hg0 hD how
  go_enter Tryz.func7, Tryz.ntmps7
  go_wp2_with fail
  have hcall := validDomains_c ds _ _ (Hx.out.gr Hg0.out)
  (with_reducible refine hcall.mono ?_)
  clear hcall
  rintro e w1 ⟨rfl, hg1⟩
  have hfl1 := fld (hg1.obj Hb0.out (by simp))
  have Hg1b := hid hg1
  have Hg1 := hid (Hg0.out.trans hg1); have Hb1 := hid (hg1.obj Hb0.out (by simp))
  clear hg1 hfl hfb
  cases hok : domsOk ds
  · go_wp2_with fail
    go_ret
    exact ⟨_, rfl, by unfold bldD; rw [hok]; exact DgV.nil _ _, Hg1.out⟩
  obtain ⟨rfl, hb64⟩ := HD.out hok
  have hn4 : 1 ≤ D.length ∧ D.length ≤ 4 := by
    unfold domsOk at hok
    rw [Bool.and_eq_true, inB_iff, ints_len] at hok
    omega
  have hdl := ints_len D
  rw [hdl] at hd1 ⊢
  rw [hdl] at Hx
  have HB64 := hid hb64
  have HOK := hid hok
  clear hok hb64 HD hdl
  go_wp2_with fail
  have hcall := specValidConstraint_c c (D.length : Int) _ _ (Hv.out.gr Hg1.out) hkl (by omega)
  (with_reducible refine hcall.mono ?_)
  clear hcall
  have e2 : validConS c (D.length : Int) = validCon c (D.length : Int) := by unfold validCon; rw [inB_iff.2 (by omega)]; rfl
  rw [e2]
  clear e2
  rintro e w2 ⟨rfl, hg2⟩
  have hfl2 := fld (hg2.obj Hb1.out (by simp))
  have Hg2b := hid (Hg1b.out.trans hg2)
  have Hg2 := hid (Hg1.out.trans hg2); have Hb2 := hid (hg2.obj Hb1.out (by simp))
  clear hg2 hfl1
  cases hvc : validCon c (D.length : Int)
  · go_wp2_with fail
    go_ret
    exact ⟨_, rfl, by unfold bldD; rw [HOK.out, ints_len, hvc]; exact DgV.nil _ _, Hg2.out⟩
  have hc : VC c D.length := validCon_iff.1 hvc
  have HC := hid hc
  have hl : 1 ≤ c.vars.length ∧ c.vars.length ≤ 4 := by have := hc.k; have := hc.n4; omega
  have HVC := hid hvc
  clear hc hvc
  go_wp2_with fail
  have hcall := specTuples_c c D _ _ _ (Hv.out.gr Hg2.out) (Hx.out.gr Hg2.out) HC.out HB64.out
  (with_reducible refine hcall.mono ?_)
  clear hcall
  rintro e w3 ⟨v3, rfl, hF3, hg3⟩
  have e3 : (tups (wordN c.vars D)).filter (satB c) = tupC c D := rfl
  rw [e3] at hF3
  obtain ⟨fo, fc, rfl, hfc1, hfc2, _⟩ := hF3.slice
  have Hg3b := hid (Hg2b.out.trans hg3)
  have Hg3 := hid (Hg2.out.trans hg3); have hb3 := hg3.obj Hb2.out (by simp)
  have hfl3 := fld hb3
  have hF3' := hF3.rows (S := [w.heap.size + 1]) fun b hb => .inl (by
    rw [List.mem_singleton] at hb
    have := Hg2b.out.size
    rw [World.size_alloc, World.size_alloc] at this; omega)
  have HF3 := hid hF3'; have Hb3 := hid hb3
  have hlen : (tupC c D).length ≤ 100000000 := by
    have := good_card _ _ (tupC_good c D)
    have h2 : 6 ^ c.vars.length ≤ 6 ^ 4 := Nat.pow_le_pow_right (by decide) hl.2
    omega
  clear hg3 hF3 hfl2 hF3' hb3 e3
  cases hz : ((tupC c D).length == 0)
  case true =>
    have hz' : tupC c D = [] := List.length_eq_zero_iff.1 (by simpa using hz)
    have hz2 : ((tupC c D).length : Int) = 0 := by rw [hz']; rfl
    go_wp2_with fail
    go_ret
    exact ⟨_, rfl, by unfold bldD; rw [HOK.out, ints_len, HVC.out, if_pos hz']; exact DgV.nil _ _, Hg3.out⟩
  have hz' : tupC c D ≠ [] := fun e => by rw [e] at hz; simp at hz
  have hz2 : (((tupC c D).length : Int) == 0) = false := by simpa using hz
  have Hz := hid hz'
  obtain ⟨S0, hS0⟩ : ∃ S0, S0 = tupC c D := ⟨_, rfl⟩
  rw [← hS0] at HF3 hlen hz2 hfc1 Hz ⊢
  have HS0 := hid hS0
  clear hz hz' hS0
  have HI0 : Hid (SbI c.vars.length S0 (w.heap.size + 1) (w.alloc (.cells #[.int .i64 c.kind, .slice vo c.vars.length vc, .slice ao c.args.length ac, .int .i64 c.bound, .slice ro c.rows.length rc] 26)) 0 (.slice (some ⟨w.heap.size + 1, 0, none⟩) 0 0) (.slice (some ⟨w3.heap.size, 0, none⟩) 1 1) [] (w3.alloc (.cells #[.slice fo S0.length fc] 24))) := hid (by
    have hg : Gr [] w3 (w3.alloc (.cells #[.slice fo S0.length fc] 24)) := (Gr.refl _ _).alloc _
    refine ⟨((Gr.refl _ _).alloc _).trans (Hg3b.out.trans hg), (How.out.gr Hg3b.out).gr hg, rfl, by simp, ⟨_, _, rfl, by simp [layS], fun i r hi => ?_⟩⟩
    simp only [layS] at hi
    match i, hi with
    | 0, hi =>
      simp at hi
      subst hi
      refine ⟨_, 0, _, rfl, ?_, cell_new _ _ _, ?_⟩
      · rw [ob]
        have := Hg3b.out.size
        rw [World.size_alloc, World.size_alloc] at this
        simp; omega
      · exact (HF3.out.gr hg.any)
    | i + 1, hi => simp at hi)
  clear hfl3
  have hfl4 := fld (HI0.out.gr.obj Hbx.out (by simp))
  have hfl3 := fld Hb3.out
  go_wp2_with fail
  clear hfl3 hfl4
  go_loopw [5, 7, 8] (fun outv layerv u wr => ∃ (i : Nat) (us : List Value), i ≤ c.vars.length ∧ u = .int .i64 i ∧ SbI c.vars.length S0 (w.heap.size + 1) (w.alloc (.cells #[.int .i64 c.kind, .slice vo c.vars.length vc, .slice ao c.args.length ac, .int .i64 c.bound, .slice ro c.rows.length rc] 26)) i outv layerv us wr) (fun _ _ u _ => c.vars.length - (intOf u).toNat)
  case atStart => exact ⟨0, [], by omega, rfl, HI0.out⟩
  case round =>
    obtain ⟨i, us, hi, rfl, hI⟩ := hrel
    have HI := hid hI
    obtain ⟨oo, oc, hov, hoc⟩ := hI.ow.form
    rw [List.length_map] at hov hoc
    subst hov
    obtain ⟨lo, lc, rfl, ⟨hl1, hl2, -⟩, -⟩ := id hI.la
    clear hI
    have fxb := fld (HI.out.gr.obj Hbx.out (by simp))
    by_cases hlt : i < c.vars.length
    · have hok : LayOk (c.vars.length - (i + 1) + 1) (layS S0 i) := by
        have := layS_ok (n := c.vars.length) (by rw [HS0.out]; exact tupC_good c D) Hz.out i (by omega)
        rwa [show c.vars.length - i = c.vars.length - (i + 1) + 1 by omega] at this
      have hll : (layS S0 i).length ≤ 216 := by
        have h1 := layS_len (S0 := S0) i
        have h2 : 6 ^ i ≤ 6 ^ 3 := Nat.pow_le_pow_right (by decide) (by omega)
        omega
      have hcall := nextLayer_c (c.vars.length - (i + 1)) (layS S0 i) _ wr (Value.slice oo us.length oc).ownBlock.toList (fun b hb => (HI.out.ow.own (Option.mem_toList.1 hb)).2) HI.out.la hok (by omega) hll
      have Hcall := hid hcall
      clear hcall hok
      have hul : us.length ≤ 4 := by have := HI.out.ul; omega
      go_wp2_with fail
      refine Hcall.out.mono ?_
      rintro e w4 ⟨ev, nv, rfl, hev, hnv, hg4⟩
      obtain ⟨eo, ec, rfl, -, -⟩ := id hev
      simp only [List.length_map] at hev ⊢
      have Hev := hid hev; have Hnv := hid hnv; have Hg4 := hid hg4
      have fxc := fld ((HI.out.gr.trans hg4).obj Hbx.out (by simp))
      clear hev hnv hg4 Hcall fxb
      have hwz : w.heap.size + 1 ≤ w4.heap.size := by have h1 := HI.out.gr.size; have h2 := Hg4.out.size; rw [World.size_alloc] at h1; omega
      go_wp2_with (at_builtin; refine wp_appV rfl _ _ 29 rfl 1 (w.heap.size + 1) 24 _ 24 infoRr rfl (by omega) (by omega) Tryz.underlying29 _ (us.map fun u => [u]) rfl ((HI.out.ow.gr Hg4.out).gr ((Gr.refl _ _).alloc _)) _ 1 [.slice eo (layS S0 i).length ec] rfl rfl (by simp [Value.oneCell']) (fun j u hj => by match j, hj with | 0, hj => (simp at hj; subst hj; exact cell_new _ _ _) | j + 1, hj => simp at hj) (by rw [List.length_map]; omega) (by rw [World.size_alloc]; omega) ?_; intro g6 c6 w6 hown6 hg6 hwh6 hlt6)
      have hgal : Gr [] w4 (w4.alloc (.cells #[.slice eo (layS S0 i).length ec] 24)) := (Gr.refl _ _).alloc _
      have hsB := hgal.size
      rw [List.length_map] at hown6
      have hn := HI.out.next (nv := nv) hlt (by simp) Hg4.out Hev.out Hnv.out (hgal.any.trans hg6) (by simpa using hown6) fun b hb => by
        rw [ob] at hb; cases hb
        exact hwh6.imp id (fun h => by omega)
      refine ⟨⟨i + 1, us ++ [.slice eo (layS S0 i).length ec], by omega, by go_num, hn⟩, by simp [intOf]; omega⟩
    · have hie : i = c.vars.length := by omega
      subst hie
      go_wp2_with fail
      go_ret
      refine ⟨_, rfl, ?_, ((Gr.refl _ _).alloc _).trans HI.out.gr⟩
      unfold bldD
      rw [HOK.out, ints_len, HVC.out, ← HS0.out]
      simp only [Bool.and_self, if_true]
      rw [if_neg Hz.out]
      exact HI.out.fin
end Go.Proofs.YtmonhpoogfdpoaaGreat
