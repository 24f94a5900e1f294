/-
  Walk of FnModelRoundTrip.
-/
import Derived.Test.YtmonhpoogfdpoaaGreatDoorPV7
import Derived.Test.YtmonhpoogfdpoaaGreatDoorPSt
import Derived.Test.YtmonhpoogfdpoaaGreatDoorPMr
set_option linter.unusedVariables false
set_option linter.unusedSimpArgs false
namespace Go.Proofs.YtmonhpoogfdpoaaGreatDoor
open Go.RowKit

theorem encM_ne {m : Mod} (h : validM m = true) : encM m ≠ [] := by
  intro e
  have hk := (mod_ok h).ld
  cases hd : m.doms with
  | nil => rw [hd] at hk; simp at hk
  | cons d l => simp [encM, hd] at e


set_option maxRecDepth 100000 in
set_option maxHeartbeats 4000000 in
theorem FnModelRoundTrip_c (code : Value) (bs : List Int) (ao : Option Addr) (cap : Nat) (w : World) (hv : code = .slice ao bs.length cap) (hlen : bs.length ≤ 9223372036854775807) (hcap : bs.length ≤ cap) (hc : Cells [] w .u8 ao bs) (hb : ∀ b ∈ bs, 0 ≤ b ∧ b ≤ 255) (hT : TabT w) :
    Calls Tryz.prog 4 #[code] w (fun e w' => e = .returned (.bool true) ∧ Gr [] w w') := by
  subst hv
  have Hc := hid hc; have Hb := hid hb; have HT := hid hT; clear hc hb hT
  by_cases hbig : 1048576 < bs.length
  · go_enter Tryz.func4, Tryz.ntmps4
    go_wp2_with fail
    go_ret
    exact ⟨rfl, Gr.refl _ _⟩
  have hbig' : decide ((1048576 : Int) < (bs.length : Int)) = false := by simp; omega
  go_enter Tryz.func4, Tryz.ntmps4
  go_wp2_with fail
  have hcall := DrawEncodeModel_c _ bs w ao cap rfl hlen hcap Hc.out Hb.out
  (with_reducible refine hcall.mono ?_)
  clear hcall
  rintro e w1 ⟨m, mv, rfl, hmv, hms, hg1⟩
  obtain ⟨xo, xc, co, cc, rfl⟩ := hmv.slices
  have ha2 : Gr [] w1 (w1.alloc (.cells #[.slice xo m.doms.length xc, .slice co m.cons.length cc] 27)) := (Gr.refl _ _).alloc _
  have hb2 : (w1.alloc (.cells #[.slice xo m.doms.length xc, .slice co m.cons.length cc] 27)).heap[w1.heap.size]? = some (.cells #[.slice xo m.doms.length xc, .slice co m.cons.length cc] 27 (0, 0)) := heap_alloc_new _ _
  have HG2 := hid (hg1.trans ha2); have HM2 := hid (hmv.gr ha2); have Hms := hid hms; have Hb2 := hid hb2
  have fb2 := fld hb2
  clear hmv hms ha2 hb2 hg1 hbig
  go_wp2_with fail
  generalize hW2 : w1.alloc (.cells #[.slice xo m.doms.length xc, .slice co m.cons.length cc] 27) = w2 at *
  clear hW2
  cases hval : validM m
  · have Hval := hid hval
    have hcall := EncodeModel_c m _ w2 HM2.out (HT.out.gr HG2.out)
    (with_reducible refine hcall.mono ?_)
    clear hcall
    rw [Hval.out]
    rintro e w3 ⟨rfl, hg3⟩
    have Hg3 := hid hg3
    have fb3 := fld (hg3.obj Hb2.out (by simp))
    clear fb2 hg3
    go_wp2_with fail
    have hcall := specEncodeModel_c m _ w3 (HM2.out.gr Hg3.out) Hms.out
    (with_reducible refine hcall.mono ?_)
    clear hcall
    rw [Hval.out]
    rintro e w4 ⟨rfl, hg4⟩
    have Hg4 := hid (Hg3.out.trans hg4)
    have fb4 := fld (Hg4.out.obj Hb2.out (by simp))
    clear hg4 fb3
    go_wp2_with fail
    have hcall := specEncodeModel_c m _ w4 (HM2.out.gr Hg4.out) Hms.out
    (with_reducible refine hcall.mono ?_)
    clear hcall
    rw [Hval.out]
    rintro e w5 ⟨rfl, hg5⟩
    have Hg5 := hid (Hg4.out.trans hg5)
    have fb5 := fld (Hg5.out.obj Hb2.out (by simp))
    clear hg5 fb4
    go_wp2_with fail
    have hcall := ValidModel_c m _ w5 (HM2.out.gr Hg5.out)
    (with_reducible refine hcall.mono ?_)
    clear hcall
    rw [Hval.out]
    rintro e w6 ⟨rfl, hg6⟩
    go_wp2_with fail
    go_ret
    exact ⟨rfl, (HG2.out.trans Hg5.out).trans hg6⟩
  · have Hval := hid hval
    have hcall := EncodeModel_c m _ w2 HM2.out (HT.out.gr HG2.out)
    (with_reducible refine hcall.mono ?_)
    clear hcall
    rw [if_pos Hval.out]
    rintro e w3 ⟨rfl, hg3⟩
    obtain ⟨s, hs⟩ : ∃ s, s = encM m := ⟨_, rfl⟩
    rw [← hs]
    have hsl : s.length ≤ 10000 := by rw [hs]; exact encM_len Hval.out
    have hsn : s ≠ [] := by rw [hs]; exact encM_ne Hval.out
    have Hs := hid hs
    have Hg3 := hid hg3
    have fb3 := fld (hg3.obj Hb2.out (by simp))
    clear fb2 hg3 hs
    go_wp2_with fail
    have hcall := specEncodeModel_c m _ w3 (HM2.out.gr Hg3.out) Hms.out
    (with_reducible refine hcall.mono ?_)
    clear hcall
    rw [if_pos Hval.out, ← Hs.out]
    rintro e w4 ⟨rfl, hg4⟩
    have Hg4 := hid (Hg3.out.trans hg4)
    have fb4 := fld (Hg4.out.obj Hb2.out (by simp))
    clear hg4 fb3
    have hse : List.isEmpty s = false := by
      cases s with
      | nil => exact absurd rfl hsn
      | cons _ _ => rfl
    clear hsn
    go_wp2_with fail
    have hcall := DecodeModel_c s w4 (by omega) (HT.out.gr (HG2.out.trans Hg4.out))
    (with_reducible refine hcall.mono ?_)
    clear hcall
    rw [Hs.out, decI_encM Hval.out]
    rintro e w5 ⟨yo, yc, zo, zc, m', rfl, hm', hm5, -, hg5⟩
    obtain rfl : m' = m := hm'
    have Hg5 := hid (Hg4.out.trans hg5)
    have hb5 := Hg5.out.obj Hb2.out (by simp)
    have HB5 := hid hb5
    have HM5 := hid (hm5.mod (S := []) (by simp))
    clear hg5 hm5 fb4
    have ha6 : Gr [] w5 (w5.alloc (.cells #[.slice yo m'.doms.length yc, .slice zo m'.cons.length zc] 27)) := (Gr.refl _ _).alloc _
    have hx6 := heap_alloc_new w5 (.cells #[.slice yo m'.doms.length yc, .slice zo m'.cons.length zc] 27)
    have fb5 := fld (ha6.obj HB5.out (by simp)); have fx5 := fld hx6
    have HA6 := hid ha6
    clear hx6 ha6 hb5
    go_wp2_with fail
    generalize w5.alloc (.cells #[.slice yo m'.doms.length yc, .slice zo m'.cons.length zc] 27) = w6 at *
    have hcall := equalModels_t m' _ _ w6 (HM5.out.gr HA6.out) (HM2.out.gr (Hg5.out.trans HA6.out))
    (with_reducible refine hcall.mono ?_)
    clear hcall
    rintro e w7 ⟨rfl, hg7⟩
    have hgE := ((HG2.out.trans Hg5.out).trans HA6.out).trans hg7
    go_wp2_with fail
    go_ret
    exact ⟨rfl, hgE⟩

end Go.Proofs.YtmonhpoogfdpoaaGreatDoor
