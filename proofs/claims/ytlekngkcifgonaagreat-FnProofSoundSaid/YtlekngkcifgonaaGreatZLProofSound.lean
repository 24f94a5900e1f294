/-
  Walk of FnProofSound.
-/
import Derived.Test.YtlekngkcifgonaaGreatZPzGc
import Derived.Test.YtlekngkcifgonaaGreatZUsToPc
import Derived.Test.YtlekngkcifgonaaGreatZSy1ToRe
set_option linter.unusedVariables false
set_option linter.unusedSimpArgs false
namespace Go.Proofs.YtlekngkcifgonaaGreat
open Go.RowKit

set_option maxRecDepth 100000 in
set_option maxHeartbeats 4000000 in
theorem FnProofSound_c (v : Value) (bs : List Int) (ao : Option Addr) (cap : Nat) (w : World) (hv : v = .slice ao bs.length cap) (hlen : bs.length ≤ 9223372036854775807) (hcap : bs.length ≤ cap) (hc : Cells [] w .u8 ao bs) (hb : ∀ b ∈ bs, 0 ≤ b ∧ b ≤ 255) :
    Calls Tryz.prog 10 #[v] w fun e w' => e = .returned (.bool true) ∧ Gr [] w w' := by
  subst hv
  have Hc := hid hc; have Hb := hid hb; clear hc hb
  by_cases hbig : 1048576 < bs.length
  · go_enter Tryz.func10, Tryz.ntmps10
    go_wp2_with fail
    go_ret
    exact ⟨rfl, Gr.refl _ _⟩
  have hbig' : decide ((1048576 : Int) < (bs.length : Int)) = false := by simp; omega
  go_enter Tryz.func10, Tryz.ntmps10
  go_wp2_with fail
  have hcall := DrawCheckProof_c _ bs w ao cap rfl hlen hcap Hc.out Hb.out
  (with_reducible refine hcall.mono ?_)
  clear hcall
  rintro e w1 ⟨m, mv, kv, cls, rfl, hmv, hms, ⟨hd1, hd4⟩, hk, hkl, hkc, hg1⟩
  obtain ⟨xo, xc, co, cc, rfl⟩ := hmv.slices
  obtain ⟨ko, kc, rfl, ⟨hk1, hk2⟩⟩ := hk.slice
  have ha2 : Gr [] w1 (w1.alloc (.cells #[.slice xo m.doms.length xc, .slice co m.cons.length cc] 26)) := (Gr.refl _ _).alloc _
  have hb2 : (w1.alloc (.cells #[.slice xo m.doms.length xc, .slice co m.cons.length cc] 26)).heap[w1.heap.size]? = some (.cells #[.slice xo m.doms.length xc, .slice co m.cons.length cc] 26 (0, 0)) := heap_alloc_new _ _
  have HG2 := hid (hg1.trans ha2); have Hmv2 := hid (hmv.gr ha2); have Hms := hid hms; have Hb2 := hid hb2
  have HK2 := hid (hk.gr ha2)
  have HKl : Hid (∀ c ∈ cls, c.length ≤ 2000000) := hid fun c h => by have := hkc c h; omega
  clear hmv hms ha2 hb2 hg1 hbig hk hkc
  obtain ⟨D, hD⟩ := openVM m
  have HD := hid hD; clear hD
  obtain ⟨r, hr⟩ : ∃ r, r = chkB m D cls := ⟨_, rfl⟩
  have HR := hid hr; clear hr
  go_wp2_with fail
  generalize hW : w1.alloc (.cells #[.slice xo m.doms.length xc, .slice co m.cons.length cc] 26) = w2 at *
  clear hW
  have hcall := CheckProof_c m D cls _ _ _ Hmv2.out HD.out HK2.out HKl.out
  (with_reducible refine hcall.mono ?_)
  clear hcall
  rw [← HR.out]
  rintro e w3 ⟨rfl, hg3⟩
  have HG3 := hid hg3
  have fl3 := fld (HG3.out.obj Hb2.out (by simp))
  clear hg3
  go_wp2_with fail
  have hcall := specCheckProof_c m D cls _ _ _ (Hmv2.out.gr HG3.out) HD.out Hms.out (HK2.out.gr HG3.out) HKl.out
  (with_reducible refine hcall.mono ?_)
  clear hcall
  rw [← HR.out]
  rintro e w4 ⟨rfl, hg4⟩
  have HG4 := hid (HG3.out.trans hg4)
  have fl4 := fld (HG4.out.obj Hb2.out (by simp))
  clear hg4 fl3
  cases r
  · go_wp2_with fail
    have hcall := specCheckProof_c m D cls _ _ _ (Hmv2.out.gr HG4.out) HD.out Hms.out (HK2.out.gr HG4.out) HKl.out
    (with_reducible refine hcall.mono ?_)
    clear hcall
    rw [← HR.out]
    rintro e w5 ⟨rfl, hg5⟩
    go_wp2_with fail
    go_ret
    exact ⟨rfl, (HG2.out.trans HG4.out).trans hg5⟩
  · have hval := (chkB_open HR.out.symm).1
    have hn : countI m D = 0 := by unfold countI; rw [hval, chkB_sound (HD.out hval) HR.out.symm]; rfl
    have Hn := hid hn
    clear hval hn
    go_wp2_with fail
    have hcall := CountSolutions_c m _ _ (Hmv2.out.gr HG4.out) D HD.out
    (with_reducible refine hcall.mono ?_)
    clear hcall
    rw [Hn.out]
    rintro e w5 ⟨rfl, hg5⟩
    go_wp2_with fail
    go_ret
    exact ⟨rfl, (HG2.out.trans HG4.out).trans hg5⟩
end Go.Proofs.YtlekngkcifgonaaGreat
