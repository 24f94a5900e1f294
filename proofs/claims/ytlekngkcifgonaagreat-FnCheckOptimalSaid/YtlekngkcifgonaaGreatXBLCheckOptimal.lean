/-
  Walk of FnCheckOptimal.
-/
import Derived.Test.YtlekngkcifgonaaGreatXBOq
set_option linter.unusedVariables false
set_option linter.unusedSimpArgs false
namespace Go.Proofs.YtlekngkcifgonaaGreat
open Go.RowKit

theorem chk_val {m : Mod} {D : List Nat} {O X Y : List Int} (hVM : VM m D) (ho : objB O m.doms.length = true) (hx : X ∈ sols m.cons D) (hy : Y ∈ sols m.cons D) (hd : dot O X = dot O Y) : (objVal O X == objVal O Y) = true := by
  have hDl : m.doms.length = D.length := by rw [hVM.doms, ints_len]
  have h1 := obj_len ho
  have h4 := hVM.len.2
  have key : ∀ z, z ∈ sols m.cons D → objVal O z = dot O z := fun z hz => by
    have hz' := solv hz
    unfold objVal
    rw [if_pos ⟨by omega, by omega, allB_iff.2 h1.2, allB_iff.2 hz'.2⟩]
  rw [key X hx, key Y hy, hd]
  simp


set_option maxRecDepth 100000 in
set_option maxHeartbeats 8000000 in
theorem FnCheckOptimal_c (v : Value) (bs : List Int) (ao : Option Addr) (cap : Nat) (w : World) (hv : v = .slice ao bs.length cap) (hlen : bs.length ≤ 9223372036854775807) (hcap : bs.length ≤ cap) (hc : Cells [] w .u8 ao bs) (hb : ∀ b ∈ bs, 0 ≤ b ∧ b ≤ 255) :
    Calls Tryz.prog 4 #[v] w fun e w' => e = .returned (.bool true) ∧ Gr [] w w' := by
  subst hv
  have Hc := hid hc; have Hb := hid hb; clear hc hb
  by_cases hbig : 1048576 < bs.length
  · go_enter Tryz.func4, Tryz.ntmps4
    go_wp2_with fail
    go_ret
    exact ⟨rfl, Gr.refl _ _⟩
  have hbig' : decide ((1048576 : Int) < (bs.length : Int)) = false := by simp; omega
  go_enter Tryz.func4, Tryz.ntmps4
  go_wp2_with fail
  have hcall := DrawCheckOptimal_c _ bs w ao cap rfl hlen hcap Hc.out Hb.out
  (with_reducible refine hcall.mono ?_)
  clear hcall
  rintro e w1 ⟨m, mv, ov, xv, kv, O, X, P, rfl, hmv, hms, ⟨hd1, hd4⟩, hO, hX, hk, hkl, hkc, hg1⟩
  obtain ⟨xo, xc, co, cc, rfl⟩ := hmv.slices
  have ha2 : Gr [] w1 (w1.alloc (.cells #[.slice xo m.doms.length xc, .slice co m.cons.length cc] 26)) := (Gr.refl _ _).alloc _
  have hb2 : (w1.alloc (.cells #[.slice xo m.doms.length xc, .slice co m.cons.length cc] 26)).heap[w1.heap.size]? = some (.cells #[.slice xo m.doms.length xc, .slice co m.cons.length cc] 26 (0, 0)) := heap_alloc_new _ _
  have HG2 := hid (hg1.trans ha2); have Hmv2 := hid (hmv.gr ha2); have Hms := hid hms; have Hb2 := hid hb2
  have HO2 := hid (hO.gr ha2); have HX2 := hid (hX.gr ha2)
  obtain ⟨ko, kc, rfl, -⟩ := hk.slice
  have HK2 := hid (hk.gr ha2)
  have HPc : Hid (∀ c ∈ P, c.length ≤ 2000000) := hid fun c h => by have := hkc c h; omega
  clear hk hkc
  obtain ⟨Oo, Oc, rfl, -, -⟩ := hO
  obtain ⟨Xo, Xc, rfl, -, -⟩ := hX
  clear hmv hms ha2 hb2 hg1 hbig
  obtain ⟨D, hD⟩ := openVM m
  have HD := hid hD; clear hD
  obtain ⟨r, hr⟩ : ∃ r, r = coptB m D O X P := ⟨_, rfl⟩
  have HR := hid hr; clear hr
  go_wp2_with fail
  generalize hW : w1.alloc (.cells #[.slice xo m.doms.length xc, .slice co m.cons.length cc] 26) = w2 at *
  clear hW
  have hcall := CheckOptimal_c m D O X P _ _ _ _ w2 Hmv2.out HD.out Hms.out HO2.out HX2.out HK2.out HPc.out
  (with_reducible refine hcall.mono ?_)
  clear hcall
  rw [← HR.out]
  rintro e w3 ⟨rfl, hg3⟩
  have HG3 := hid hg3
  have fl3 := fld (HG3.out.obj Hb2.out (by simp))
  clear hg3
  go_wp2_with fail
  have hcall := specCheckOptimal_c m D O X P _ _ _ _ w3 (Hmv2.out.gr HG3.out) HD.out Hms.out (HO2.out.gr HG3.out) (HX2.out.gr HG3.out) (HK2.out.gr HG3.out) HPc.out
  (with_reducible refine hcall.mono ?_)
  clear hcall
  rw [← HR.out]
  rintro e w4 ⟨rfl, hg4⟩
  have HG4 := hid (HG3.out.trans hg4)
  have fl4 := fld (HG4.out.obj Hb2.out (by simp))
  clear hg4 fl3
  cases r
  · go_wp2_with fail
    have hcall := specCheckOptimal_c m D O X P _ _ _ _ w4 (Hmv2.out.gr HG4.out) HD.out Hms.out (HO2.out.gr HG4.out) (HX2.out.gr HG4.out) (HK2.out.gr HG4.out) HPc.out
    (with_reducible refine hcall.mono ?_)
    clear hcall
    rw [← HR.out]
    rintro e w5 ⟨rfl, hg5⟩
    go_wp2_with fail
    go_ret
    exact ⟨rfl, (HG2.out.trans HG4.out).trans hg5⟩
  · have hchk : coptB m D O X P = true := HR.out.symm
    have hop : validM m = true ∧ objB O m.doms.length = true ∧ X ∈ sols m.cons D ∧ validM (lowM m O X) = true := betB_open (by
      have h := hchk
      unfold coptB at h
      rw [Bool.and_eq_true] at h
      exact h.1)
    have HVM := hid (HD.out hop.1)
    obtain ⟨y, hy1, hy2, hy3⟩ := copt_best HVM.out hchk
    have Hy1 := hid hy1
    have Hval := hid (chk_val HVM.out hop.2.1 hop.2.2.1 hy2 hy3)
    have his : isB m.cons D X = true := by unfold isB; exact decide_eq_true hop.2.2.1
    have His := hid his
    clear hchk hop hy1 hy2 hy3 his
    go_wp2_with fail
    have hcall := Minimize_c m O _ _ w4 (Hmv2.out.gr HG4.out) (HO2.out.gr HG4.out) D HD.out
    (with_reducible refine hcall.mono ?_)
    clear hcall
    rw [Hy1.out]
    rintro e w6 ⟨v6, rfl, hn6, hg6⟩
    have hn6 : Nums [] w6 .i64 v6 y := hn6.nums (S := []) (by simp)
    obtain ⟨zo, zc, rfl, -, -⟩ := id hn6
    have Hn6 := hid hn6
    have HG6 := hid (HG4.out.trans hg6)
    have fl6 := fld (HG6.out.obj Hb2.out (by simp))
    clear hn6 hg6 fl4
    have hsome : (some y).isSome = true := rfl
    go_wp2_with fail
    have hcall := IsSolution_b m D X _ _ w6 (Hmv2.out.gr HG6.out) HVM.out (HX2.out.gr HG6.out)
    (with_reducible refine hcall.mono ?_)
    clear hcall
    rw [His.out]
    rintro e w7 ⟨rfl, hg7⟩
    have HG7 := hid (HG6.out.trans hg7); have Hn7 := hid (Hn6.out.gr hg7)
    clear hg7 fl6
    go_wp2_with fail
    have hcall := ObjectiveValue_c O X _ _ w7 (HO2.out.gr HG7.out) (HX2.out.gr HG7.out)
    (with_reducible refine hcall.mono ?_)
    clear hcall
    rintro e w8 ⟨rfl, hg8⟩
    have HG8 := hid (HG7.out.trans hg8); have Hn8 := hid (Hn7.out.gr hg8)
    clear hg8
    go_wp2_with fail
    have hcall := ObjectiveValue_c O y _ _ w8 (HO2.out.gr HG8.out) Hn8.out
    (with_reducible refine hcall.mono ?_)
    clear hcall
    rintro e w9 ⟨rfl, hg9⟩
    have hval := Hval.out
    go_wp2_with fail
    go_ret
    exact ⟨rfl, (HG2.out.trans HG8.out).trans hg9⟩

end Go.Proofs.YtlekngkcifgonaaGreat
