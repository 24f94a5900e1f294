/-
  Walks: IsImplied of the reference.
-/
import Derived.Test.YtpfelbbmgbfkeaaGreatWj
set_option linter.unusedVariables false
set_option linter.unusedSimpArgs false
namespace Go.Proofs.YtpfelbbmgbfkeaaGreat
open Go.RowKit

set_option maxRecDepth 100000 in
set_option maxHeartbeats 4000000 in
theorem impliedBy_c (m : Mod) (D : List Nat) (cls : List Cls) (c : Cls) (mv kv cv : Value) (w : World) (hv : ModV [] w mv m) (hD : VM m D) (hk : ClsV [] w kv cls) (hok : KOk cls D.length) (hc : LitsV [] w cv c) (hcv : validClS c D.length = true) :
    Calls Tryz.prog 90 #[mv, kv, cv] w fun e w' => e = .returned (.bool (refB m.cons cls (restL D (negsL c)))) ∧ Gr [] w w' := by
  obtain ⟨hc1, hc2, hc3⟩ := validClS_iff.1 hcv
  have Hv := hid hv; have HD := hid hD; have Hk := hid hk; have Hok := hid hok; have Hc := hid hc
  obtain ⟨mdv, mcv, rfl, hdv, _⟩ := hv
  obtain ⟨ko, kc, rfl, ⟨hk1, hk2⟩⟩ := hk.slice
  have hg0 : Gr [] w (w.alloc (.cells #[mdv, mcv] 26)) := (Gr.refl _ _).alloc _
  have hb0 := heap_alloc_new w (.cells #[mdv, mcv] 26)
  have Hdv := hid ((hdv.gr hg0)); have Hg0 := hid hg0
  have Hmv := hid (Hv.out.gr hg0); have Hkv := hid (hk.gr hg0); have Hcv := hid (hc.gr hg0)
  have Hno := hid hc1
  have hdl := hD.len
  have HrL := hid (restL_len (negsL c) D); have HrB := hid (restL_below (negsL c) hD.below)
  have Hb0 := hid hb0
  have hdm := hD.doms
  have Hdm := hid hdm
  clear hk hok hc hb0 hg0 hdv hD hc1 hc2 hcv hdm
  go_enter Tryz.func90, Tryz.ntmps90
  go_wp2_with fail
  generalize hW : w.alloc (.cells #[mdv, mcv] 26) = w0 at *
  clear hW
  have f0 := fld Hb0.out
  have f0d := fld ((Gr.refl [] w0).drew.obj Hb0.out (by simp))
  go_region_law (first
    | (go_simp; go_at_call 143; refine (assume_c D c _ _ _ (by rw [← Hdm.out]; exact Hdv.out.gr (by first | exact (Gr.refl [] w0).drew | exact Gr.refl [] w0)) (Hcv.out.gr (by first | exact (Gr.refl [] w0).drew | exact Gr.refl [] w0)) Hno.out hdl HD.out.below (by omega)).mono ?_; rintro e w6 ⟨v6, rfl, ho6, hg6⟩; have hgx : Gr [] w0 w6 := Gr.trans (by first | exact (Gr.refl [] w0).drew | exact Gr.refl [] w0) hg6; have HGX := hid hgx; have HO6 := hid ho6; have fb6 := fld (hgx.obj Hb0.out (by simp)); clear ho6 hg6 hgx; (try dsimp only))
    | (go_simp; go_at_call 142; refine (refute_c m cls (restL D (negsL c)) _ _ _ _ (Hmv.out.gr HGX.out) (Hkv.out.gr HGX.out) (HO6.out.nums' (by simp)) (by rw [HrL.out]; exact HD.out.cons) HrB.out (by rw [HrL.out]; exact hdl) (by rw [HrL.out]; exact Hok.out)).mono ?_; rintro e w7 ⟨rfl, hg7⟩; have HG7 := hid hg7; clear hg7; (try dsimp only)))
  all_goals
    go_wp2_with fail
    go_ret
    exact ⟨rfl, Hg0.out.trans (HGX.out.trans HG7.out)⟩

theorem validCl_in {c : Cls} {n : Nat} (h : 1 ≤ n ∧ n ≤ 4) : validCl c n = validClS c n := by
  unfold validCl
  rw [inB_iff.2 (by omega), Bool.true_and]
set_option maxRecDepth 100000 in
set_option maxHeartbeats 1000000 in
theorem validProof_c (cls : List Cls) (n : Nat) (kv : Value) (w : World) (hk : ClsV [] w kv cls) (hl : ∀ c ∈ cls, c.length ≤ 2000000) (hn : 1 ≤ n ∧ n ≤ 4) :
    Calls Tryz.prog 89 #[kv, .int .i64 (n : Int)] w fun e w' => e = .returned (.bool (clsB n cls)) ∧ Gr [] w w' := by
  have Hk := hid hk; have Hl := hid hl
  obtain ⟨ko, kc, rfl, ⟨hk1, hk2⟩⟩ := hk.slice
  clear hk hl
  go_enter Tryz.func89, Tryz.ntmps89
  go_wp2_with fail
  go_loopw [5] (fun i wr => ∃ j : Nat, j ≤ cls.length ∧ i = .int .i64 j ∧ Hid (∀ (i : Nat) x, i < j → cls[i]? = some x → validCl x n = true) ∧ Gr [] w wr) (fun i _ => cls.length - (intOf i).toNat)
  case atStart => exact ⟨0, Nat.zero_le _, rfl, hid (by intro j x hj; omega), Gr.refl _ _⟩
  case round =>
    obtain ⟨j, hj, rfl, HP, hg⟩ := hrel
    by_cases hlt : j < cls.length
    · obtain ⟨c, hx⟩ := get_some hlt
      obtain ⟨b, o, vo, vc, rfl, -, k0, hlv⟩ := (Hk.out.gr hg).at hx
      have Hx := hid hx; have Hlv := hid hlv; have Hg := hid hg
      clear hx hlv hg
      go_wp2_with fail
      have hcall := specValidClause_c c n _ _ Hlv.out (Hl.out c (List.mem_of_getElem? Hx.out)) (by omega)
      (with_reducible refine hcall.mono ?_)
      clear hcall
      rintro e w2 ⟨rfl, hg2⟩
      cases hb : validClS c n
      · go_wp2_with fail
        go_ret
        refine ⟨ret_bool ?_, Hg.out.trans hg2⟩
        have : cls.all (fun c => validCl c n) = false := List.all_eq_false.2 ⟨c, List.mem_of_getElem? Hx.out, by rw [validCl_in hn, hb]; simp⟩
        unfold clsB
        rw [this, Bool.and_false]
      · have hb' : validCl c n = true := by rw [validCl_in hn, hb]
        have Hb := hid hb'
        clear hb hb'
        go_wp2_with fail
        refine ⟨⟨j + 1, by omega, by go_num, hid ?_, Hg.out.trans hg2⟩, by simp [intOf]; omega⟩
        intro i x hi hx
        by_cases e : i = j
        · subst e; rw [Hx.out] at hx; cases hx; exact Hb.out
        · exact HP.out i x (by omega) hx
    · have hall : cls.all (fun c => validCl c n) = true := List.all_eq_true.2 fun c hc => by
        obtain ⟨i, hi⟩ := List.mem_iff_getElem?.1 hc
        exact HP.out i c (by have := (List.getElem?_eq_some_iff.1 hi).1; omega) hi
      have Hall := hid hall
      clear hall
      cases h2 : decide ((cls.length : Int) ≤ 200)
      all_goals
        have h2' := h2
        have H2 := hid h2'
        clear h2'
        go_wp2_with fail
        go_ret
        refine ⟨ret_bool ?_, hg⟩
        unfold clsB
        rw [Hall.out, Bool.and_true, ← H2.out]
        congr 1
        exact propext ⟨fun h => by omega, fun h => by omega⟩

set_option maxRecDepth 100000 in
set_option maxHeartbeats 1000000 in
theorem specIsImplied_c (m : Mod) (D : List Nat) (cls : List Cls) (c : Cls) (mv kv cv : Value) (w : World) (hv : ModV [] w mv m) (hD : validM m = true → VM m D) (hs : m.Small) (hk : ClsV [] w kv cls) (hl : ∀ c ∈ cls, c.length ≤ 2000000) (hc : LitsV [] w cv c) (hcl : c.length ≤ 2000000) :
    Calls Tryz.prog 30 #[mv, kv, cv] w fun e w' => e = .returned (.bool (implB m D cls c)) ∧ Gr [] w w' := by
  have Hv := hid hv; have HD := hid hD; have Hk := hid hk; have Hl := hid hl; have Hc := hid hc
  obtain ⟨mdv, mcv, rfl, hdv, _⟩ := hv
  obtain ⟨ko, kc, rfl, ⟨hk1, hk2⟩⟩ := hk.slice
  obtain ⟨xo, xc, rfl, ⟨hx1, hx2, -⟩, -⟩ := id hdv
  have hg0 : Gr [] w (w.alloc (.cells #[.slice xo m.doms.length xc, mcv] 26)) := (Gr.refl _ _).alloc _
  have hb0 := heap_alloc_new w (.cells #[.slice xo m.doms.length xc, mcv] 26)
  have Hmv := hid (Hv.out.gr hg0); have Hkv := hid (hk.gr hg0); have Hcv := hid (hc.gr hg0); have Hg0 := hid hg0; have Hb0 := hid hb0
  have f0 := fld hb0
  have Hs := hid hs
  clear hk hl hc hdv hg0 hb0 hD hs
  go_enter Tryz.func30, Tryz.ntmps30
  go_wp2_with fail
  generalize hW : w.alloc (.cells #[.slice xo m.doms.length xc, mcv] 26) = w0 at *
  clear hW
  have hcall := specValidModel_c m _ _ Hmv.out Hs.out
  (with_reducible refine hcall.mono ?_)
  clear hcall
  rintro e w1 ⟨rfl, hg1⟩
  have Hg1 := hid hg1
  cases hb : validM m
  · go_wp2_with fail
    go_ret
    exact ⟨ret_bool (by unfold implB; rw [hb]; rfl), Hg0.out.trans Hg1.out⟩
  · have hVM := HD.out hb
    have hdl := hVM.len
    have Hde : Hid (m.doms.length = D.length) := hid (by rw [hVM.doms, ints_len])
    have HVM := hid hVM; have Hb := hid hb
    have f1 := fld (hg1.obj Hb0.out (by simp))
    clear hVM hg1 hb
    go_wp2_with fail
    have hcall := validProof_c cls m.doms.length _ _ (Hkv.out.gr Hg1.out) Hl.out (by rw [Hde.out]; exact hdl)
    (with_reducible refine hcall.mono ?_)
    clear hcall
    rintro e w2 ⟨rfl, hg2⟩
    have Hg2 := hid (Hg1.out.trans hg2)
    cases hb2 : clsB m.doms.length cls
    · go_wp2_with fail
      go_ret
      exact ⟨ret_bool (by unfold implB; rw [Hb.out, hb2]; rfl), Hg0.out.trans Hg2.out⟩
    · have Hok : Hid (KOk cls D.length) := hid (by rw [Hde.out] at hb2; exact clsB_ok hb2)
      have Hb2 := hid hb2
      have f2 := fld (Hg2.out.obj Hb0.out (by simp))
      clear hb2 hg2
      go_wp2_with fail
      have hcall := specValidClause_c c m.doms.length _ _ (Hcv.out.gr Hg2.out) hcl (by rw [Hde.out]; omega)
      (with_reducible refine hcall.mono ?_)
      clear hcall
      rintro e w3 ⟨rfl, hg3⟩
      have Hg3 := hid (Hg2.out.trans hg3)
      cases hb3 : validClS c m.doms.length
      · go_wp2_with fail
        go_ret
        exact ⟨ret_bool (by unfold implB; rw [Hb.out, Hb2.out, validCl_in (by rw [Hde.out]; exact hdl), hb3]; rfl), Hg0.out.trans Hg3.out⟩
      · have Hcs : Hid (validClS c D.length = true) := hid (by rw [← Hde.out]; exact hb3)
        have f3 := fld (Hg3.out.obj Hb0.out (by simp))
        have Hb3 := hid hb3
        clear hb3 hg3
        go_wp2_with fail
        have hcall := impliedBy_c m D cls c _ _ _ _ (Hmv.out.gr Hg3.out) HVM.out (Hkv.out.gr Hg3.out) Hok.out (Hcv.out.gr Hg3.out) Hcs.out
        (with_reducible refine hcall.mono ?_)
        clear hcall
        rintro e w4 ⟨rfl, hg4⟩
        go_wp2_with fail
        go_ret
        exact ⟨ret_bool (by unfold implB; rw [Hb.out, Hb2.out, validCl_in (by rw [Hde.out]; exact hdl), Hb3.out]; rfl), (Hg0.out.trans Hg3.out).trans hg4⟩
end Go.Proofs.YtpfelbbmgbfkeaaGreat
