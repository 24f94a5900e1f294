/-
  Walk of FnProveOptimal.
-/
import Derived.Test.YtlekngkcifgonaaGreatXAOq
set_option linter.unusedVariables false
set_option linter.unusedSimpArgs false
namespace Go.Proofs.YtlekngkcifgonaaGreat
open Go.RowKit

theorem opt_val {m : Mod} {D : List Nat} {O X Y : List Int} (hVM : VM m D) (ho : objB O m.doms.length = true) (hx : X ∈ sols m.cons D) (hy : Y ∈ sols m.cons D) (hd : dot O X = dot O Y) : (objVal O X == objVal O Y) = true := by
  have hDl : m.doms.length = D.length := by rw [hVM.doms, ints_len]
  have h1 := obj_len ho
  have h4 := hVM.len.2
  have key : ∀ z, z ∈ sols m.cons D → objVal O z = dot O z := fun z hz => by
    have hz' := solv hz
    unfold objVal
    rw [if_pos ⟨by omega, by omega, allB_iff.2 h1.2, allB_iff.2 hz'.2⟩]
  rw [key X hx, key Y hy, hd]
  simp


set_option maxRecDepth 100000 in
set_option maxHeartbeats 8000000 in
theorem FnProveOptimal_c (v : Value) (bs : List Int) (ao : Option Addr) (cap : Nat) (w : World) (hv : v = .slice ao bs.length cap) (hlen : bs.length ≤ 9223372036854775807) (hcap : bs.length ≤ cap) (hc : Cells [] w .u8 ao bs) (hb : ∀ b ∈ bs, 0 ≤ b ∧ b ≤ 255) :
    Calls Tryz.prog 3 #[v] w fun e w' => e = .returned (.bool true) ∧ Gr [] w w' := by
  subst hv
  have Hc := hid hc; have Hb := hid hb; clear hc hb
  by_cases hbig : 1048576 < bs.length
  · go_enter Tryz.func3, Tryz.ntmps3
    go_wp2_with fail
    go_ret
    exact ⟨rfl, Gr.refl _ _⟩
  have hbig' : decide ((1048576 : Int) < (bs.length : Int)) = false := by simp; omega
  go_enter Tryz.func3, Tryz.ntmps3
  go_wp2_with fail
  have hcall := DrawProveOptimal_s [] _ bs w ao cap rfl hlen hcap Hc.out Hb.out (by simp)
  (with_reducible refine hcall.mono ?_)
  clear hcall
  rintro e w1 ⟨m, mv, ov, xv, O, X, rfl, hmv, hms, ⟨hd1, hd4⟩, hO, hX, -, -, hg1⟩
  obtain ⟨xo, xc, co, cc, rfl⟩ := hmv.slices
  have ha2 : Gr [] w1 (w1.alloc (.cells #[.slice xo m.doms.length xc, .slice co m.cons.length cc] 26)) := (Gr.refl _ _).alloc _
  have hb2 : (w1.alloc (.cells #[.slice xo m.doms.length xc, .slice co m.cons.length cc] 26)).heap[w1.heap.size]? = some (.cells #[.slice xo m.doms.length xc, .slice co m.cons.length cc] 26 (0, 0)) := heap_alloc_new _ _
  have HG2 := hid (hg1.trans ha2); have Hmv2 := hid (hmv.gr ha2); have Hms := hid hms; have Hb2 := hid hb2
  have HO2 := hid (hO.gr ha2); have HX2 := hid (hX.gr ha2)
  obtain ⟨Oo, Oc, rfl, -, -⟩ := hO
  obtain ⟨Xo, Xc, rfl, -, -⟩ := hX
  clear hmv hms ha2 hb2 hg1 hbig
  obtain ⟨D, hD⟩ := openVM m
  have HD := hid hD; clear hD
  go_wp2_with fail
  generalize hW : w1.alloc (.cells #[.slice xo m.doms.length xc, .slice co m.cons.length cc] 26) = w2 at *
  clear hW
  have hcall := ProveOptimal_c m D O X _ _ _ w2 Hmv2.out HD.out Hms.out HO2.out HX2.out
  (with_reducible refine hcall.mono ?_)
  clear hcall
  obtain ⟨Y, hY⟩ : ∃ Y, Y = optO m D O X := ⟨_, rfl⟩
  have hsh := optO_short (o := O) (x := X) HD.out
  rw [← hY] at hsh ⊢
  have HY := hid hY; clear hY
  rintro e w3 ⟨v3, rfl, hk3, hg3⟩
  obtain ⟨ok, hok⟩ : ∃ ok, ok = Y.isSome := ⟨_, rfl⟩
  rw [← hok]
  obtain ⟨P, hP⟩ : ∃ P, P = Y.getD [] := ⟨_, rfl⟩
  rw [← hP] at hk3 hsh
  have hk3 := hk3.clss (S := []) (by simp)
  obtain ⟨po, pc, rfl, -⟩ := hk3.slice
  have HK3 := hid hk3; have HG3 := hid hg3
  have HPc : Hid (∀ c ∈ P, c.length ≤ 2000000) := hid fun c h => by have := hsh.2 c h; omega
  have Hok := hid hok; have HP := hid hP
  have fl3 := fld (HG3.out.obj Hb2.out (by simp))
  clear hk3 hg3 hsh hok hP
  go_wp2_with fail
  have hcall := specProveOptimal_c m D O X _ _ _ w3 (Hmv2.out.gr HG3.out) HD.out Hms.out (HO2.out.gr HG3.out) (HX2.out.gr HG3.out)
  (with_reducible refine hcall.mono ?_)
  clear hcall
  rw [← HY.out]
  rintro e w4 ⟨v4, rfl, hk4, hg4⟩
  rw [← HP.out] at hk4
  rw [← Hok.out]
  have hk4 := hk4 [] (by simp)
  obtain ⟨qo, qc, rfl, -⟩ := hk4.slice
  have HK4 := hid hk4; have Hg4 := hid hg4; have HG4 := hid (HG3.out.trans hg4)
  have fl4 := fld (HG4.out.obj Hb2.out (by simp))
  have hne : (ok != ok) = false := by cases ok <;> rfl
  have heq : (ok == ok) = true := by cases ok <;> rfl
  clear hk4 hg4 fl3
  go_wp2_with fail
  have hcall := equalProofs_t P _ _ w4 (HK3.out.gr Hg4.out) HK4.out
  (with_reducible refine hcall.mono ?_)
  clear hcall
  rintro e w5 ⟨rfl, hg5⟩
  have HG5 := hid (HG4.out.trans hg5); have HK5 := hid (HK3.out.gr (Hg4.out.trans hg5)); have HZ5 := hid (HK4.out.gr hg5)
  have fl5 := fld (HG5.out.obj Hb2.out (by simp))
  clear hg5 fl4
  cases hY : Y with
  | none =>
    have Hokf : ok = false := by rw [Hok.out, hY]; rfl
    subst Hokf
    clear hY
    go_wp2_with fail
    have hcall := equalProofs_t P _ _ w5 HK5.out HZ5.out
    (with_reducible refine hcall.mono ?_)
    clear hcall
    rintro e w6 ⟨rfl, hg6⟩
    go_wp2_with fail
    go_ret
    exact ⟨rfl, (HG2.out.trans HG5.out).trans hg6⟩
  | some a =>
  have Hokt : ok = true := by rw [Hok.out, hY]; rfl
  subst Hokt
  have hPa : P = a := by rw [HP.out, hY]; rfl
  subst hPa
  have hbet : betB m D O X = true := by
    have h := HY.out
    rw [hY] at h
    cases hb : betB m D O X
    · unfold optO at h; rw [hb] at h; simp at h
    · rfl
  have hop := betB_open hbet
  have HVM := hid (HD.out hop.1)
  have hchk : coptB m D O X P = true := optO_chk HVM.out (by rw [← HY.out, hY])
  obtain ⟨y, hy1, hy2, hy3⟩ := copt_best HVM.out hchk
  have Hy1 := hid hy1; have Hchk := hid hchk
  have hval := opt_val HVM.out hop.2.1 hop.2.2.1 hy2 hy3
  have Hval := hid hval
  clear hY hbet hop hchk hy1 hy2 hy3 hval
  go_wp2_with fail
  have hcall := Minimize_c m O _ _ w5 (Hmv2.out.gr HG5.out) (HO2.out.gr HG5.out) D HD.out
  (with_reducible refine hcall.mono ?_)
  clear hcall
  rw [Hy1.out]
  rintro e w6 ⟨v6, rfl, hn6, hg6⟩
  have hn6 : Nums [] w6 .i64 v6 y := hn6.nums (S := []) (by simp)
  obtain ⟨zo, zc, rfl, -, -⟩ := id hn6
  have Hn6 := hid hn6
  have HG6 := hid (HG5.out.trans hg6); have HK6 := hid (HK5.out.gr hg6)
  have fl6 := fld (HG6.out.obj Hb2.out (by simp))
  clear hn6 hg6 fl5
  have hsome : (some y).isSome = true := rfl
  go_wp2_with fail
  have hcall := CheckOptimal_c m D O X P _ _ _ _ w6 (Hmv2.out.gr HG6.out) HD.out Hms.out (HO2.out.gr HG6.out) (HX2.out.gr HG6.out) HK6.out HPc.out
  (with_reducible refine hcall.mono ?_)
  clear hcall
  rw [Hchk.out]
  rintro e w7 ⟨rfl, hg7⟩
  have HG7 := hid (HG6.out.trans hg7); have Hn7 := hid (Hn6.out.gr hg7)
  clear hg7 fl6
  go_wp2_with fail
  have hcall := ObjectiveValue_c O X _ _ w7 (HO2.out.gr HG7.out) (HX2.out.gr HG7.out)
  (with_reducible refine hcall.mono ?_)
  clear hcall
  rintro e w8 ⟨rfl, hg8⟩
  have HG8 := hid (HG7.out.trans hg8); have Hn8 := hid (Hn7.out.gr hg8)
  clear hg8
  go_wp2_with fail
  have hcall := ObjectiveValue_c O y _ _ w8 (HO2.out.gr HG8.out) Hn8.out
  (with_reducible refine hcall.mono ?_)
  clear hcall
  rintro e w9 ⟨rfl, hg9⟩
  have hval := Hval.out
  go_wp2_with fail
  go_ret
  exact ⟨rfl, (HG2.out.trans HG8.out).trans hg9⟩

end Go.Proofs.YtlekngkcifgonaaGreat
