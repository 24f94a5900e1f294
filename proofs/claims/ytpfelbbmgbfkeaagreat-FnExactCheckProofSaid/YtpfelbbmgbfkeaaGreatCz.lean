/-
  Walks of CheckProof, on both sides.
-/
import Derived.Test.YtpfelbbmgbfkeaaGreatWl
set_option linter.unusedVariables false
set_option linter.unusedSimpArgs false
namespace Go.Proofs.YtpfelbbmgbfkeaaGreat
open Go.RowKit

theorem ClsV.take {S : List Nat} {w : World} {ao : Option Addr} {n cap : Nat} {cs : List Cls} (h : ClsV S w (.slice ao n cap) cs) (k : Nat) (hk : k ≤ cs.length) : ClsV S w (.slice ao k cap) (cs.take k) := by
  obtain ⟨ao', cap', e, ⟨h1, h2, h3⟩, hc⟩ := h
  cases e
  refine ⟨ao, cap, by rw [List.length_take, Nat.min_eq_left hk], ⟨by rw [List.length_take]; omega, h2, h3⟩, fun i c hi => hc i c ?_⟩
  rw [List.getElem?_take] at hi
  split at hi
  · exact hi
  · cases hi
theorem KOk.take {cls : List Cls} {n : Nat} (h : KOk cls n) (k : Nat) : KOk (cls.take k) n :=
  ⟨fun c hc => h.lits c (List.mem_of_mem_take hc), fun c hc => h.short c (List.mem_of_mem_take hc), by have := h.few; rw [List.length_take]; omega⟩
/-- Step i of a proof is implied by the steps before it. -/
def stepB (m : Mod) (D : List Nat) (p : List Cls) (i : Nat) : Bool := refB m.cons (p.take i) (restL D (negsL (p.getD i [])))
/-- What CheckProof answers. -/
def chkB (m : Mod) (D : List Nat) (p : List Cls) : Bool := validM m && (clsB m.doms.length p && (!(p.length == 0) && (((p.getD (p.length - 1) []).length == 0) && (List.range p.length).all (stepB m D p))))
theorem steps_all {m : Mod} {D : List Nat} {p : List Cls} (h : ∀ i, i < p.length → stepB m D p i = true) : (List.range p.length).all (stepB m D p) = true := List.all_eq_true.2 fun i hi => h i (List.mem_range.1 hi)
theorem steps_no {m : Mod} {D : List Nat} {p : List Cls} {i : Nat} (hi : i < p.length) (h : stepB m D p i = false) : (List.range p.length).all (stepB m D p) = false := List.all_eq_false.2 ⟨i, List.mem_range.2 hi, by rw [h]; simp⟩
theorem clsB_one {n : Nat} {cls : List Cls} (h : clsB n cls = true) {i : Nat} {c : Cls} (hc : cls[i]? = some c) : validClS c n = true := by
  unfold clsB at h
  rw [Bool.and_eq_true, List.all_eq_true] at h
  have := h.2 c (List.mem_of_getElem? hc)
  unfold validCl at this
  rw [Bool.and_eq_true] at this
  exact this.2

set_option maxRecDepth 100000 in
set_option maxHeartbeats 4000000 in
theorem CheckProof_c (m : Mod) (D : List Nat) (p : List Cls) (mv kv : Value) (w : World) (hv : ModV [] w mv m) (hD : validM m = true → VM m D) (hk : ClsV [] w kv p) (hl : ∀ c ∈ p, c.length ≤ 2000000) :
    Calls Tryz.prog 50 #[mv, kv] w fun e w' => e = .returned (.bool (chkB m D p)) ∧ Gr [] w w' := by
  have Hv := hid hv; have HD := hid hD; have Hk := hid hk; have Hl := hid hl
  obtain ⟨mdv, mcv, rfl, hdv, _⟩ := hv
  obtain ⟨ko, kc, rfl, ⟨hk1, hk2⟩⟩ := hk.slice
  obtain ⟨xo, xc, rfl, ⟨hx1, hx2, -⟩, -⟩ := id hdv
  have hg0 : Gr [] w (w.alloc (.cells #[.slice xo m.doms.length xc, mcv] 26)) := (Gr.refl _ _).alloc _
  have hb0 := heap_alloc_new w (.cells #[.slice xo m.doms.length xc, mcv] 26)
  have Hmv := hid (Hv.out.gr hg0); have Hkv := hid (hk.gr hg0); have Hg0 := hid hg0; have Hb0 := hid hb0
  have hI : I64 (m.doms.length : Int) := by unfold I64; omega
  have HI := hid hI
  have f0 := fld hb0
  clear hk hl hdv hg0 hb0 hD hI
  go_enter Tryz.func50, Tryz.ntmps50
  go_wp2_with fail
  generalize hW : w.alloc (.cells #[.slice xo m.doms.length xc, mcv] 26) = w0 at *
  clear hW
  have hcall := ValidModel_c m _ _ Hmv.out
  (with_reducible refine hcall.mono ?_)
  clear hcall
  rintro e w1 ⟨rfl, hg1⟩
  have Hg1 := hid hg1
  cases hb : validM m
  · go_wp2_with fail
    go_ret
    exact ⟨ret_bool (by unfold chkB; rw [hb]; rfl), Hg0.out.trans Hg1.out⟩
  have hVM := HD.out hb
  have hdl := hVM.len
  have Hde : Hid (m.doms.length = D.length) := hid (by rw [hVM.doms, ints_len])
  have HVM := hid hVM; have Hb := hid hb
  have f1 := fld (hg1.obj Hb0.out (by simp))
  clear hVM hg1 hb f0
  go_wp2_with fail
  have hcall := proofOk_c p m.doms.length _ _ (Hkv.out.gr Hg1.out) Hl.out HI.out
  (with_reducible refine hcall.mono ?_)
  clear hcall
  rintro e w2 ⟨rfl, hg2⟩
  have Hg2 := hid (Hg1.out.trans hg2)
  cases hb2 : clsB m.doms.length p
  · go_wp2_with fail
    go_ret
    exact ⟨ret_bool (by unfold chkB; rw [Hb.out, hb2]; rfl), Hg0.out.trans Hg2.out⟩
  have Hok : Hid (KOk p D.length) := hid (by rw [Hde.out] at hb2; exact clsB_ok hb2)
  have Hb2 := hid hb2
  clear hb2 hg2 f1
  rcases Nat.eq_zero_or_pos p.length with hp0 | hp0
  · have t0 : ((p.length : Int) == 0) = true := by rw [hp0]; rfl
    have Hp0 := hid hp0
    clear hp0
    go_wp2_with fail
    go_ret
    exact ⟨ret_bool (by unfold chkB; rw [Hb.out, Hb2.out, Hp0.out]; rfl), Hg0.out.trans Hg2.out⟩
  obtain ⟨k, hkk⟩ : ∃ k, p.length = k + 1 := ⟨p.length - 1, by omega⟩
  obtain ⟨last, hlast⟩ := get_some (xs := p) (k := k) (by omega)
  obtain ⟨bl, ol, lo, lc, e9, -, kl, -⟩ := (Hkv.out.gr Hg2.out).at hlast
  subst e9
  have t0 : ((p.length : Int) == 0) = false := by rw [beq_eq_false_iff_ne]; omega
  have t0n : (p.length == 0) = false := by rw [beq_eq_false_iff_ne]; omega
  have twr : IntKind.i64.wrap ((p.length : Int) - 1) = (k : Int) := by rw [IntKind.wrap_i64]; omega
  have hkl : k < p.length := by omega
  have hgd : p.getD (p.length - 1) [] = last := by rw [show p.length - 1 = k by omega, List.getD_eq_getElem?_getD, hlast]; rfl
  have Hgd := hid hgd; have Hkk := hid hkk; have T0 := hid t0n
  clear hgd hlast hkk t0n
  rcases Nat.eq_zero_or_pos last.length with hz | hz
  rotate_left
  · have hlt' : (last.length == 0) = false := by rw [beq_eq_false_iff_ne]; omega
    have hlt : decide ((0 : Int) < (last.length : Int)) = true := by simp; omega
    have hltn : decide (0 < last.length) = true := by simp; omega
    have Hlt := hid hlt'
    clear hlt' hz
    go_wp2_with fail
    go_ret
    exact ⟨ret_bool (by unfold chkB; rw [Hb.out, Hb2.out, T0.out, Hgd.out, Hlt.out]; rfl), Hg0.out.trans Hg2.out⟩
  have hlt' : (last.length == 0) = true := by rw [beq_iff_eq]; exact hz
  have hlt : decide ((0 : Int) < (last.length : Int)) = false := by rw [hz]; rfl
  have hltn : decide (0 < last.length) = false := by rw [hz]; rfl
  have Hlt := hid hlt'
  clear hlt' hz
  have Hres : Hid (chkB m D p = (List.range p.length).all (stepB m D p)) := hid (by unfold chkB; rw [Hb.out, Hb2.out, T0.out, Hgd.out, Hlt.out]; rfl)
  go_wp2_with fail
  clear kl twr hlt t0 hltn
  go_loopw [35] (fun i wr => ∃ n : Nat, n ≤ p.length ∧ i = .int .i64 n ∧ Hid (∀ j, j < n → stepB m D p j = true) ∧ Gr [] w0 wr) (fun i _ => p.length - (intOf i).toNat)
  case atStart => exact ⟨0, Nat.zero_le _, rfl, hid (fun j hj => by omega), Hg2.out⟩
  case round =>
    obtain ⟨n, hn, rfl, HP, hg⟩ := hrel
    have Hg := hid hg
    by_cases hlt : n < p.length
    · obtain ⟨c, hx⟩ := get_some hlt
      obtain ⟨b, o, vo, vc, e9, -, k0, hlv⟩ := (Hkv.out.gr hg).at hx
      cases e9
      have hst : stepB m D p n = refB m.cons (p.take n) (restL D (negsL c)) := by unfold stepB; rw [List.getD_eq_getElem?_getD, hx]; rfl
      have hvc : validClS c D.length = true := by have := clsB_one Hb2.out hx; rwa [Hde.out] at this
      have hK := (Hkv.out.gr hg).take n hn
      have Hst := hid hst; have Hvc := hid hvc; have HK := hid hK; have Hlv := hid hlv
      have fr := fld (hg.obj Hb0.out (by simp))
      have frd := fld (hg.drew.obj Hb0.out (by simp))
      have hnk : n ≤ kc := by omega
      clear hx hlv hst hvc hK hg
      go_wp2_with fail
      go_region_law (first
        | (go_simp; go_at_call 87; refine (implied_c m D (p.take n) c _ _ _ _ (Hmv.out.gr (by first | exact Hg.out.drew | exact Hg.out)) HVM.out (HK.out.gr (by first | exact (Gr.refl [] wr).drew | exact Gr.refl [] wr)) (Hok.out.take n) (Hlv.out.gr (by first | exact (Gr.refl [] wr).drew | exact Gr.refl [] wr)) Hvc.out).mono ?_; rw [← Hst.out]; rintro e w5 ⟨rfl, hg5⟩; have hgx : Gr [] wr w5 := Gr.trans (by first | exact (Gr.refl [] wr).drew | exact Gr.refl [] wr) hg5; have HGX := hid hgx; clear hg5 hgx; (try dsimp only)))
      all_goals
        cases hs : stepB m D p n
        · go_wp2_with fail
          go_ret
          exact ⟨ret_bool (by rw [Hres.out, steps_no hlt hs]), Hg0.out.trans (Hg.out.trans HGX.out)⟩
        · have Hss := hid hs
          clear hs
          go_wp2_with fail
          refine ⟨⟨n + 1, by omega, by go_num, hid fun j hj => ?_, Hg.out.trans HGX.out⟩, by simp [intOf]; omega⟩
          by_cases e : j = n
          · rw [e]; exact Hss.out
          · exact HP.out j (by omega)
    · have hk : n = p.length := by omega
      subst hk
      go_wp2_with fail
      go_ret
      exact ⟨ret_bool (by rw [Hres.out, steps_all HP.out]), Hg0.out.trans Hg.out⟩

set_option maxRecDepth 100000 in
set_option maxHeartbeats 4000000 in
theorem specCheckProof_c (m : Mod) (D : List Nat) (p : List Cls) (mv kv : Value) (w : World) (hv : ModV [] w mv m) (hD : validM m = true → VM m D) (hs : m.Small) (hk : ClsV [] w kv p) (hl : ∀ c ∈ p, c.length ≤ 2000000) :
    Calls Tryz.prog 49 #[mv, kv] w fun e w' => e = .returned (.bool (chkB m D p)) ∧ Gr [] w w' := by
  have Hv := hid hv; have HD := hid hD; have Hk := hid hk; have Hl := hid hl; have Hs := hid hs
  obtain ⟨mdv, mcv, rfl, hdv, _⟩ := hv
  obtain ⟨ko, kc, rfl, ⟨hk1, hk2⟩⟩ := hk.slice
  obtain ⟨xo, xc, rfl, ⟨hx1, hx2, -⟩, -⟩ := id hdv
  have hg0 : Gr [] w (w.alloc (.cells #[.slice xo m.doms.length xc, mcv] 26)) := (Gr.refl _ _).alloc _
  have hb0 := heap_alloc_new w (.cells #[.slice xo m.doms.length xc, mcv] 26)
  have Hmv := hid (Hv.out.gr hg0); have Hkv := hid (hk.gr hg0); have Hg0 := hid hg0; have Hb0 := hid hb0
  have f0 := fld hb0
  clear hk hl hdv hg0 hb0 hD hs
  go_enter Tryz.func49, Tryz.ntmps49
  go_wp2_with fail
  generalize hW : w.alloc (.cells #[.slice xo m.doms.length xc, mcv] 26) = w0 at *
  clear hW
  have hcall := specValidModel_c m _ _ Hmv.out Hs.out
  (with_reducible refine hcall.mono ?_)
  clear hcall
  rintro e w1 ⟨rfl, hg1⟩
  have Hg1 := hid hg1
  cases hb : validM m
  · go_wp2_with fail
    go_ret
    exact ⟨ret_bool (by unfold chkB; rw [hb]; rfl), Hg0.out.trans Hg1.out⟩
  have hVM := HD.out hb
  have hdl := hVM.len
  have Hde : Hid (m.doms.length = D.length) := hid (by rw [hVM.doms, ints_len])
  have HVM := hid hVM; have Hb := hid hb
  have f1 := fld (hg1.obj Hb0.out (by simp))
  clear hVM hg1 hb f0
  go_wp2_with fail
  have hcall := validProof_c p m.doms.length _ _ (Hkv.out.gr Hg1.out) Hl.out (by rw [Hde.out]; exact hdl)
  (with_reducible refine hcall.mono ?_)
  clear hcall
  rintro e w2 ⟨rfl, hg2⟩
  have Hg2 := hid (Hg1.out.trans hg2)
  cases hb2 : clsB m.doms.length p
  · go_wp2_with fail
    go_ret
    exact ⟨ret_bool (by unfold chkB; rw [Hb.out, hb2]; rfl), Hg0.out.trans Hg2.out⟩
  have Hok : Hid (KOk p D.length) := hid (by rw [Hde.out] at hb2; exact clsB_ok hb2)
  have Hb2 := hid hb2
  clear hb2 hg2 f1
  rcases Nat.eq_zero_or_pos p.length with hp0 | hp0
  · have t0 : ((p.length : Int) == 0) = true := by rw [hp0]; rfl
    have Hp0 := hid hp0
    clear hp0
    go_wp2_with fail
    go_ret
    exact ⟨ret_bool (by unfold chkB; rw [Hb.out, Hb2.out, Hp0.out]; rfl), Hg0.out.trans Hg2.out⟩
  obtain ⟨k, hkk⟩ : ∃ k, p.length = k + 1 := ⟨p.length - 1, by omega⟩
  obtain ⟨last, hlast⟩ := get_some (xs := p) (k := k) (by omega)
  obtain ⟨bl, ol, lo, lc, e9, -, kl, -⟩ := (Hkv.out.gr Hg2.out).at hlast
  subst e9
  have t0 : ((p.length : Int) == 0) = false := by rw [beq_eq_false_iff_ne]; omega
  have t0n : (p.length == 0) = false := by rw [beq_eq_false_iff_ne]; omega
  have twr : IntKind.i64.wrap ((p.length : Int) - 1) = (k : Int) := by rw [IntKind.wrap_i64]; omega
  have hkl : k < p.length := by omega
  have hgd : p.getD (p.length - 1) [] = last := by rw [show p.length - 1 = k by omega, List.getD_eq_getElem?_getD, hlast]; rfl
  have Hgd := hid hgd; have Hkk := hid hkk; have T0 := hid t0n
  clear hgd hlast hkk t0n
  rcases Nat.eq_zero_or_pos last.length with hz | hz
  rotate_left
  · have hlt' : (last.length == 0) = false := by rw [beq_eq_false_iff_ne]; omega
    have hlt : decide ((0 : Int) < (last.length : Int)) = true := by simp; omega
    have hltn : decide (0 < last.length) = true := by simp; omega
    have Hlt := hid hlt'
    clear hlt' hz
    go_wp2_with fail
    go_ret
    exact ⟨ret_bool (by unfold chkB; rw [Hb.out, Hb2.out, T0.out, Hgd.out, Hlt.out]; rfl), Hg0.out.trans Hg2.out⟩
  have hlt' : (last.length == 0) = true := by rw [beq_iff_eq]; exact hz
  have hlt : decide ((0 : Int) < (last.length : Int)) = false := by rw [hz]; rfl
  have hltn : decide (0 < last.length) = false := by rw [hz]; rfl
  have Hlt := hid hlt'
  clear hlt' hz
  have Hres : Hid (chkB m D p = (List.range p.length).all (stepB m D p)) := hid (by unfold chkB; rw [Hb.out, Hb2.out, T0.out, Hgd.out, Hlt.out]; rfl)
  go_wp2_with fail
  clear kl twr hlt t0 hltn
  go_loopw [5] (fun i wr => ∃ n : Nat, n ≤ p.length ∧ i = .int .i64 n ∧ Hid (∀ j, j < n → stepB m D p j = true) ∧ Gr [] w0 wr) (fun i _ => p.length - (intOf i).toNat)
  case atStart => exact ⟨0, Nat.zero_le _, rfl, hid (fun j hj => by omega), Hg2.out⟩
  case round =>
    obtain ⟨n, hn, rfl, HP, hg⟩ := hrel
    have Hg := hid hg
    by_cases hlt : n < p.length
    · obtain ⟨c, hx⟩ := get_some hlt
      obtain ⟨b, o, vo, vc, e9, -, k0, hlv⟩ := (Hkv.out.gr hg).at hx
      cases e9
      have hst : stepB m D p n = refB m.cons (p.take n) (restL D (negsL c)) := by unfold stepB; rw [List.getD_eq_getElem?_getD, hx]; rfl
      have hvc : validClS c D.length = true := by have := clsB_one Hb2.out hx; rwa [Hde.out] at this
      have hK := (Hkv.out.gr hg).take n hn
      have Hst := hid hst; have Hvc := hid hvc; have HK := hid hK; have Hlv := hid hlv
      have fr := fld (hg.obj Hb0.out (by simp))
      have frd := fld (hg.drew.obj Hb0.out (by simp))
      have k0d := ((Gr.refl [] wr).drew).cell k0 (by simp)
      have hnk : n ≤ kc := by omega
      clear hx hlv hst hvc hK hg
      go_wp2_with fail
      go_region_law (first
        | (go_simp; go_at_call 90; refine (impliedBy_c m D (p.take n) c _ _ _ _ (Hmv.out.gr (by first | exact Hg.out.drew | exact Hg.out)) HVM.out (HK.out.gr (by first | exact (Gr.refl [] wr).drew | exact Gr.refl [] wr)) (Hok.out.take n) (Hlv.out.gr (by first | exact (Gr.refl [] wr).drew | exact Gr.refl [] wr)) Hvc.out).mono ?_; rw [← Hst.out]; rintro e w5 ⟨rfl, hg5⟩; have hgx : Gr [] wr w5 := Gr.trans (by first | exact (Gr.refl [] wr).drew | exact Gr.refl [] wr) hg5; have HGX := hid hgx; clear hg5 hgx; (try dsimp only)))
      all_goals
        cases hs : stepB m D p n
        · go_wp2_with fail
          go_ret
          exact ⟨ret_bool (by rw [Hres.out, steps_no hlt hs]), Hg0.out.trans (Hg.out.trans HGX.out)⟩
        · have Hss := hid hs
          clear hs
          go_wp2_with fail
          refine ⟨⟨n + 1, by omega, by go_num, hid fun j hj => ?_, Hg.out.trans HGX.out⟩, by simp [intOf]; omega⟩
          by_cases e : j = n
          · rw [e]; exact Hss.out
          · exact HP.out j (by omega)
    · have hk : n = p.length := by omega
      subst hk
      go_wp2_with fail
      go_ret
      exact ⟨ret_bool (by rw [Hres.out, steps_all HP.out]), Hg0.out.trans Hg.out⟩
end Go.Proofs.YtpfelbbmgbfkeaaGreat
