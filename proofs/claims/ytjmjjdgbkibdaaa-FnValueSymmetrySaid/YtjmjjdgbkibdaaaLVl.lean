/-
  Walk of FnValueSymmetry.
-/
import Derived.Test.YtjmjjdgbkibdaaaLPS
import Derived.Test.YtjmjjdgbkibdaaaG13
import Derived.Test.YtjmjjdgbkibdaaaSy4
import Derived.Test.YtjmjjdgbkibdaaaSl
import Derived.Test.YtjmjjdgbkibdaaaVsP
set_option linter.unusedVariables false
set_option linter.unusedSimpArgs false
namespace Go.Proofs.Ytjmjjdgbkibdaaa
open Go.RowKit


set_option maxRecDepth 100000 in
set_option maxHeartbeats 4000000 in
theorem FnValueSymmetry_c (code : Value) (bs : List Int) (ao : Option Addr) (cap : Nat) (w : World) (hv : code = .slice ao bs.length cap) (hlen : bs.length ≤ 9223372036854775807) (hcap : bs.length ≤ cap) (hc : Cells [] w .u8 ao bs) (hb : ∀ b ∈ bs, 0 ≤ b ∧ b ≤ 255) :
    Calls Try.prog 4 #[code] w (fun e w' => e = .returned (.bool true) ∧ Gr [] w w') := by
  subst hv
  have Hc := hid hc; have Hb := hid hb; clear hc hb
  by_cases hbig : 1048576 < bs.length
  · go_enter Try.func4, Try.ntmps4
    go_wp2_with fail
    go_ret
    exact ⟨rfl, Gr.refl _ _⟩
  have hbig' : decide ((1048576 : Int) < (bs.length : Int)) = false := by simp; omega
  go_enter Try.func4, Try.ntmps4
  go_wp2_with fail
  have hcall := DrawIsValueSymmetry_c _ bs w ao cap rfl hlen hcap Hc.out Hb.out
  (with_reducible refine hcall.mono ?_)
  clear hcall
  rintro e w1 ⟨m, mv, I, J, rfl, hmv, hms, hI, hJ, hg1⟩
  obtain ⟨xo, xc, co, cc, rfl⟩ := hmv.slices
  have ha2 : Gr [] w1 (w1.alloc (.cells #[.slice xo m.doms.length xc, .slice co m.cons.length cc] 31)) := (Gr.refl _ _).alloc _
  have hb2 : (w1.alloc (.cells #[.slice xo m.doms.length xc, .slice co m.cons.length cc] 31)).heap[w1.heap.size]? = some (.cells #[.slice xo m.doms.length xc, .slice co m.cons.length cc] 31 (0, 0)) := heap_alloc_new _ _
  have HG2 := hid (hg1.trans ha2); have Hmv2 := hid (hmv.gr ha2); have Hms := hid hms; have Hb2 := hid hb2
  clear hmv hms ha2 hb2 hg1 hbig
  obtain ⟨D, hD⟩ := openVM m
  have HD := hid hD; clear hD
  go_wp2_with fail
  have hcall := IsValueSymmetry_c m I J _ _ Hmv2.out D HD.out
  (with_reducible refine hcall.mono ?_)
  clear hcall
  obtain ⟨ok, hok⟩ : ∃ ok, ok = vsymB m D I J := ⟨_, rfl⟩
  rw [← hok]
  have Hok := hid hok; clear hok
  rintro e w3 ⟨rfl, hg3⟩
  have fl3 := fld (hg3.obj Hb2.out (by simp))
  have HG3 := hid hg3; clear hg3
  go_wp2_with fail
  have hcall := specIsValueSymmetry_c m I J _ _ (Hmv2.out.gr HG3.out) Hms.out D HD.out
  (with_reducible refine hcall.mono ?_)
  clear hcall
  rw [← Hok.out]
  rintro e w4 ⟨rfl, hg4⟩
  have HG4 := hid (HG3.out.trans hg4)
  have fl4 := fld (HG4.out.obj Hb2.out (by simp))
  have hne : (ok != ok) = false := by cases ok <;> rfl
  have heq : (ok == ok) = true := by cases ok <;> rfl
  clear hg4 fl3
  go_wp2_with fail
  have hcall := ValidModel_c m _ _ (Hmv2.out.gr HG4.out)
  (with_reducible refine hcall.mono ?_)
  clear hcall
  rintro e w5 ⟨rfl, hg5⟩
  have HG5 := hid (HG4.out.trans hg5)
  have fl5 := fld (HG5.out.obj Hb2.out (by simp))
  clear hg5 fl4
  cases hval : validM m
  · clear hval
    go_wp2_with fail
    have hcall := specIsValueSymmetry_c m I J _ _ (Hmv2.out.gr HG5.out) Hms.out D HD.out
    (with_reducible refine hcall.mono ?_)
    clear hcall
    rw [← Hok.out]
    rintro e w6 ⟨rfl, hg6⟩
    go_wp2_with fail
    go_ret
    exact ⟨ret_bool (by first | rfl | (cases ok <;> rfl)), (HG2.out.trans HG5.out).trans hg6⟩
  have Hval := hid hval
  clear hval
  cases ok
  · go_wp2_with fail
    have hcall := specIsValueSymmetry_c m I J _ _ (Hmv2.out.gr HG5.out) Hms.out D HD.out
    (with_reducible refine hcall.mono ?_)
    clear hcall
    rw [← Hok.out]
    rintro e w6 ⟨rfl, hg6⟩
    go_wp2_with fail
    go_ret
    exact ⟨ret_bool (by first | rfl | (cases ok <;> rfl)), (HG2.out.trans HG5.out).trans hg6⟩
  have Hok' := Hok.out.symm
  unfold vsymB at Hok'
  rw [Bool.and_eq_true, Bool.and_eq_true, Bool.and_eq_true] at Hok'
  obtain ⟨⟨⟨-, hi5⟩, hj5⟩, hpr⟩ := Hok'
  have hi5 := inB_iff.1 hi5; have hj5 := inB_iff.1 hj5
  obtain ⟨i, rfl⟩ := Int.eq_ofNat_of_zero_le (show 0 ≤ I by omega)
  obtain ⟨j, rfl⟩ := Int.eq_ofNat_of_zero_le (show 0 ≤ J by omega)
  have Hpr := hid hpr
  have hi6 : i < 6 := by omega
  have hj6 : j < 6 := by omega
  have Hji : Hid (vsymB m D j i = true) := hid (by rw [vsymB_comm]; exact Hok.out.symm)
  have HVM := hid (HD.out Hval.out)
  have HDL : Hid (m.doms.length = D.length) := hid (by rw [HVM.out.doms, ints_len])
  clear hpr hi5 hj5 hI hJ
  go_wp2_with fail
  have hcall := Backbone_c m _ _ (Hmv2.out.gr HG5.out) D HD.out
  (with_reducible refine hcall.mono ?_)
  clear hcall
  obtain ⟨B, hB⟩ : ∃ B, B = backL m.cons D (sols m.cons D).length := ⟨_, rfl⟩
  have hbo : (backO m D).getD [] = ints B := by unfold backO; rw [Hval.out, hB]; rfl
  rw [hbo]
  have HB := hid hB
  clear hB hbo
  rintro e w6 ⟨v6, rfl, hn6, hg6⟩
  have hn6 := hn6.nums (S := []) (by simp)
  have Hn6 := hid hn6
  obtain ⟨zo, zc, rfl, ⟨hz1, hz2, -⟩, -⟩ := hn6
  have HG6 := hid (HG5.out.trans hg6)
  have Hb6 := hid (HG6.out.obj Hb2.out (by simp))
  have fl6 := fld Hb6.out
  have hBl : B.length ≤ 4 := by rw [HB.out, backL_len]; exact HVM.out.len.2
  have hil : (ints B).length ≤ 4 := by rw [ints_len]; exact hBl
  clear hg6 fl5
  go_wp2_with fail
  go_loopw [8] (fun i wr => ∃ n : Nat, n ≤ (ints B).length ∧ i = .int .i64 n ∧ Gr [] w6 wr) (fun i _ => (ints B).length - (intOf i).toNat)
  case atStart => exact ⟨0, Nat.zero_le _, rfl, Gr.refl _ _⟩
  case round =>
    obtain ⟨n, hn, rfl, hg⟩ := hrel
    have flr := fld (hg.obj Hb6.out (by simp))
    have Hg := hid hg; clear hg
    by_cases hlt : n < (ints B).length
    · have hnB : n < B.length := by rw [ints_len] at hlt; exact hlt
      obtain ⟨d, hd⟩ : ∃ d, B[n]? = some d := ⟨_, List.getElem?_eq_getElem hnB⟩
      have hdi : (ints B)[n]? = some (d : Int) := by rw [ints_get, hd]; rfl
      have hd64 : d < 64 := by have := backL_below m.cons D (sols m.cons D).length; rw [← HB.out] at this; exact this d (List.mem_of_getElem? hd)
      have hbs : d.testBit i = d.testBit j := by
        have := back_sym (i := n) (u := i) (v := j) (cs := m.cons) (D := D) (by rw [HB.out, backL_len] at hnB; exact hnB) Hpr.out
        rw [← HB.out, List.getD_eq_getElem?_getD, hd] at this
        exact this
      obtain ⟨tb, htb⟩ : ∃ tb, tb = d.testBit i := ⟨_, rfl⟩
      have Hti := hid htb; have Htj : Hid (tb = d.testBit j) := hid (htb.trans hbs)
      have hne : (tb != tb) = false := by cases tb <;> rfl
      obtain ⟨b1, o1, e1, -, c1⟩ := (Hn6.out.gr Hg.out).at hdi
      subst e1
      have hm1 : ∀ c : GrW [] wr, c.val.cell? ⟨b1, o1 + n, none⟩ = some (.int .i64 d) := fun c => c.gr.cell c1 (by simp)
      have V1 : Hid (∀ c : GrW [] wr, Calls Try.prog 23 #[.int .i64 d, .int .i64 i] c.val fun e w' => e = .returned (.bool tb) ∧ Gr [] c.val w') := hid fun c => by
        rw [Hti.out]
        exact (DomainHas_c d i hd64 hi6 c.val).mono fun e W ⟨h1, h2⟩ => ⟨h1, by rw [h2]; exact Gr.refl _ _⟩
      have V2 : Hid (∀ c : GrW [] wr, Calls Try.prog 23 #[.int .i64 d, .int .i64 j] c.val fun e w' => e = .returned (.bool tb) ∧ Gr [] c.val w') := hid fun c => by
        rw [Htj.out]
        exact (DomainHas_c d j hd64 hj6 c.val).mono fun e W ⟨h1, h2⟩ => ⟨h1, by rw [h2]; exact Gr.refl _ _⟩
      clear hd hdi hbs htb c1
      go_wp2_with fail
      refine wp_region_gr [] _ (by kernel_rfl) (by kernel_rfl) (Gr.refl _ _) ?_
      repeat (go_big_quiet_step ((first | (go_at_call 23; with_reducible exact Calls.gr_of (V1.out _)) | (go_at_call 23; with_reducible exact Calls.gr_of (V2.out _)))))
      refine wpQuiet_nil ?_
      rintro w7 ⟨n7, hw7⟩
      have hg7 : Gr [] wr w7 := hw7 ▸ n7.gr
      clear hw7 n7 hm1
      go_wp2_with fail
      exact ⟨⟨n + 1, by omega, by go_num, Hg.out.trans hg7⟩, by simp [intOf]; omega⟩
    · go_wp2_with fail
      have hcall := IsValueSymmetry_c m j i _ _ (Hmv2.out.gr (HG6.out.trans Hg.out)) D HD.out
      (with_reducible refine hcall.mono ?_)
      clear hcall
      rw [Hji.out]
      rintro e w7 ⟨rfl, hg7⟩
      go_wp2_with fail
      go_ret
      exact ⟨rfl, (HG2.out.trans (HG6.out.trans Hg.out)).trans hg7⟩

end Go.Proofs.Ytjmjjdgbkibdaaa
