/-
  Walk of FnLowerBound.
-/
import Derived.Test.YtilcicoekpmelaaGreatDoorPLw
import Derived.Test.YtilcicoekpmelaaGreatDoorPLd
import Derived.Test.YtilcicoekpmelaaGreatDoorPSy1ToRe
set_option linter.unusedVariables false
set_option linter.unusedSimpArgs false
namespace Go.Proofs.YtilcicoekpmelaaGreatDoor
open Go.RowKit

theorem lowO_open {m : Mod} {D : List Nat} {o : List Int} {b : Int} (h : lowO m D o = some b) : validM m = true ∧ objB o m.doms.length = true ∧ 0 ∉ fix m.cons D ∧ b = lowS o (fix m.cons D) := by
  cases hv : (validM m && objB o m.doms.length)
  · rw [lowO_no hv] at h; cases h
  rw [lowO_yes hv] at h
  rw [Bool.and_eq_true] at hv
  by_cases h0 : 0 ∈ fix m.cons D
  · rw [if_pos h0] at h; cases h
  · rw [if_neg h0] at h
    exact ⟨hv.1, hv.2, h0, (Option.some.inj h).symm⟩
theorem objVal_sol {m : Mod} {D : List Nat} {O z : List Int} (hVM : VM m D) (ho : objB O m.doms.length = true) (hz : z ∈ sols m.cons D) : objVal O z = dot O z := by
  have hDl : m.doms.length = D.length := by rw [hVM.doms, ints_len]
  have h1 := obj_len ho
  have h4 := hVM.len.2
  have hz' := solv hz
  unfold objVal
  rw [if_pos ⟨by omega, by omega, allB_iff.2 h1.2, allB_iff.2 hz'.2⟩]


set_option maxRecDepth 100000 in
set_option maxHeartbeats 8000000 in
theorem FnLowerBound_c (v : Value) (bs : List Int) (ao : Option Addr) (cap : Nat) (w : World) (hv : v = .slice ao bs.length cap) (hlen : bs.length ≤ 9223372036854775807) (hcap : bs.length ≤ cap) (hc : Cells [] w .u8 ao bs) (hb : ∀ b ∈ bs, 0 ≤ b ∧ b ≤ 255) (hT : Tab w) :
    Calls Tryz.prog 3 #[v] w fun e w' => e = .returned (.bool true) ∧ Gr [] w w' := by
  subst hv
  have Hc := hid hc; have Hb := hid hb; have HT := hid hT; clear hc hb hT
  by_cases hbig : 1048576 < bs.length
  · go_enter Tryz.func3, Tryz.ntmps3
    go_wp2_with fail
    go_ret
    exact ⟨rfl, Gr.refl _ _⟩
  have hbig' : decide ((1048576 : Int) < (bs.length : Int)) = false := by simp; omega
  go_enter Tryz.func3, Tryz.ntmps3
  go_wp2_with fail
  have hcall := DrawLowerBound_c _ bs w ao cap rfl hlen hcap Hc.out Hb.out
  (with_reducible refine hcall.mono ?_)
  clear hcall
  rintro e w1 ⟨m, mv, ov, O, rfl, hmv, hms, ⟨hd1, hd4⟩, hO, -, hg1⟩
  obtain ⟨xo, xc, co, cc, rfl⟩ := hmv.slices
  have ha2 : Gr [] w1 (w1.alloc (.cells #[.slice xo m.doms.length xc, .slice co m.cons.length cc] 26)) := (Gr.refl _ _).alloc _
  have hb2 : (w1.alloc (.cells #[.slice xo m.doms.length xc, .slice co m.cons.length cc] 26)).heap[w1.heap.size]? = some (.cells #[.slice xo m.doms.length xc, .slice co m.cons.length cc] 26 (0, 0)) := heap_alloc_new _ _
  have HG2 := hid (hg1.trans ha2); have Hmv2 := hid (hmv.gr ha2); have Hms := hid hms; have Hb2 := hid hb2
  have HO2 := hid (hO.gr ha2); have HT2 := hid (HT.out.gr (hg1.trans ha2))
  obtain ⟨Oo, Oc, rfl, -, -⟩ := hO
  clear hmv hms ha2 hb2 hg1 hbig
  obtain ⟨D, hD⟩ := openVM m
  have HD := hid hD; clear hD
  go_wp2_with fail
  generalize hW : w1.alloc (.cells #[.slice xo m.doms.length xc, .slice co m.cons.length cc] 26) = w2 at *
  clear hW
  obtain ⟨B, hB⟩ : ∃ B, B = (lowO m D O).getD 0 := ⟨_, rfl⟩
  obtain ⟨K, hK⟩ : ∃ K, K = (lowO m D O).isSome := ⟨_, rfl⟩
  have HB := hid hB; have HK := hid hK; clear hB hK
  have hcall := LowerBound_c m D O _ _ w2 Hmv2.out HD.out HO2.out HT2.out
  (with_reducible refine hcall.mono ?_)
  clear hcall
  rw [← HB.out, ← HK.out]
  rintro e w3 ⟨rfl, hg3⟩
  have HG3 := hid hg3
  have fl3 := fld (HG3.out.obj Hb2.out (by simp))
  clear hg3
  go_wp2_with fail
  have hcall := specLowerBound_c m D O _ _ w3 (Hmv2.out.gr HG3.out) HD.out Hms.out (HO2.out.gr HG3.out)
  (with_reducible refine hcall.mono ?_)
  clear hcall
  rw [← HB.out, ← HK.out]
  rintro e w4 ⟨rfl, hg4⟩
  have HG4 := hid (HG3.out.trans hg4)
  have fl4 := fld (HG4.out.obj Hb2.out (by simp))
  have hKK : (K != K) = false := by cases K <;> rfl
  have hKe : (K == K) = true := by cases K <;> rfl
  have hBB : (B != B) = false := by simp
  have hBe : (B == B) = true := by simp
  clear hg4 fl3
  go_wp2_with fail
  have hcall := ValidModel_c m _ w4 (Hmv2.out.gr HG4.out)
  (with_reducible refine hcall.mono ?_)
  clear hcall
  rintro e w5 ⟨rfl, hg5⟩
  have HG5 := hid (HG4.out.trans hg5)
  have fl5 := fld (HG5.out.obj Hb2.out (by simp))
  clear hg5 fl4
  cases hval : validM m
  · go_wp2_with fail
    go_ret
    exact ⟨rfl, HG2.out.trans HG5.out⟩
  clear hval
  cases hKc : K
  · subst hKc
    go_wp2_with fail
    go_ret
    exact ⟨rfl, HG2.out.trans HG5.out⟩
  subst hKc
  obtain ⟨b, hb⟩ := Option.isSome_iff_exists.1 HK.out.symm
  have hBb : B = b := by rw [HB.out, hb]; rfl
  subst hBb
  obtain ⟨hv1, hv2, hv3, hv4⟩ := lowO_open hb
  have HVM := hid (HD.out hv1); have Hob := hid hv2; have H0 := hid hv3; have HBs := hid hv4; have Hval := hid hv1
  clear hb hv1 hv2 hv3 hv4 hKK hKe
  go_wp2_with fail
  have hcall := SolveAll_c m 20 _ _ (Hmv2.out.gr HG5.out) D HD.out
  (with_reducible refine hcall.mono ?_)
  clear hcall
  rintro e w6 ⟨v6, rfl, hr6, hg6⟩
  obtain ⟨zs, hzs⟩ : ∃ zs, zs = allO m 20 D := ⟨_, rfl⟩
  rw [← hzs] at hr6
  have Hzm : Hid (∀ x ∈ zs, x ∈ sols m.cons D) := hid (by rw [hzs]; unfold allO; split; exact fun x hx => List.mem_of_mem_take hx; simp)
  have Hr6 := hid hr6
  obtain ⟨ro, rc, rfl, ⟨hr1, hr2, -⟩, -⟩ := hr6
  have HG6 := hid (HG5.out.trans hg6)
  have Hb6 := hid (HG6.out.obj Hb2.out (by simp))
  clear hzs hg6 fl5
  go_wp2_with fail
  go_loopw [10] (fun i' wr => ∃ n : Nat, n ≤ zs.length ∧ i' = .int .i64 n ∧ Gr [] w6 wr) (fun i' _ => zs.length - (intOf i').toNat)
  case atStart => exact ⟨0, Nat.zero_le _, rfl, Gr.refl _ _⟩
  case round =>
  obtain ⟨n, hn, rfl, hg⟩ := hrel
  have flr := fld (hg.obj Hb6.out (by simp))
  have Hg := hid hg
  by_cases hlt : n < zs.length
  · obtain ⟨x, hx⟩ := get_some hlt
    have hxs := Hzm.out x (List.mem_of_getElem? hx)
    obtain ⟨b, o', u, e1, hc0, hn0⟩ := (Hr6.out.gr hg).at0 hx
    subst e1
    obtain ⟨xo', xc', rfl, ⟨hx1, hx2, -⟩, -⟩ := id hn0
    obtain ⟨cx, hcx⟩ : ∃ cx, cx = objVal O x := ⟨_, rfl⟩
    have hle : B ≤ cx := by rw [hcx, HBs.out, objVal_sol HVM.out Hob.out hxs]; exact lowS_sol HVM.out Hob.out hxs
    have hlt1 : decide (cx < B) = false := decide_eq_false (by omega)
    have Hn0 := hid hn0; have Hcx := hid hcx
    clear hx hxs hn0 hcx hle hg
    go_wp2_with fail
    have hcall := ObjectiveValue_c O x _ _ _ (HO2.out.gr (HG6.out.trans Hg.out)) Hn0.out
    (with_reducible refine hcall.mono ?_)
    clear hcall
    rw [← Hcx.out]
    rintro e w7 ⟨rfl, hg7⟩
    go_wp2_with fail
    exact ⟨⟨n + 1, by omega, by go_num, Hg.out.trans hg7⟩, by simp [intOf]; omega⟩
  · have HGf := hid (HG6.out.trans hg)
    obtain ⟨f, hf⟩ : ∃ f, f = fix m.cons D := ⟨_, rfl⟩
    have hfl : 0 < f.length := by rw [hf, fix_len HVM.out.cons, ← show m.doms.length = D.length by rw [HVM.out.doms, ints_len]]; omega
    obtain ⟨y, hy⟩ := get_some hfl
    have hy0 : y ≠ 0 := fun h => H0.out (by rw [← hf, ← h]; exact List.mem_of_getElem? hy)
    have hyi : (ints f)[0]? = some (y : Int) := by rw [ints_get, hy]; rfl
    have hyn : ((y : Int) != 0) = true := by simp [hy0]
    have hPr : propO m D = some (ints f) := by unfold propO; rw [Hval.out, hf]; rfl
    have HPr := hid hPr; have Hyi := hid hyi
    have hil : 0 < (ints f).length := by rw [ints_len]; exact hfl
    clear hg hf hfl hy hyi hPr hy0
    go_wp2_with fail
    have hcall := Propagate_c m _ _ (Hmv2.out.gr HGf.out) D HD.out
    (with_reducible refine hcall.mono ?_)
    clear hcall
    rw [HPr.out]
    rintro e w7 ⟨v7, rfl, ho7, hg7⟩
    have hn7 : Nums [] w7 .i64 v7 (ints f) := (OwnC.numsM (show OwnC _ w7 3 v7 (ints f) from ho7)).nums (by simp)
    obtain ⟨po, pc, rfl, ⟨hp1, hp2, -⟩, -⟩ := id hn7
    obtain ⟨b5, o5, e5, -, hc5⟩ := hn7.at Hyi.out
    subst e5
    simp only [Nat.add_zero] at hc5
    clear ho7 hn7
    go_wp2_with fail
    go_ret
    exact ⟨rfl, (HG2.out.trans HGf.out).trans hg7⟩

end Go.Proofs.YtilcicoekpmelaaGreatDoor
