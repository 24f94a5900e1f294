/-
  Walk of FnSolveAll.
-/
import Derived.Test.YthjmdcilfbgidaaSl
set_option linter.unusedVariables false
namespace Go.Proofs.Ythjmdcilfbgidaa
open Go.RowKit

theorem lexLess_t (xs ys : List Int) (vx vy : Value) (w : World) (hx : Nums [] w .i64 vx xs) (hy : Nums [] w .i64 vy ys) (hl : xs.length = ys.length) (hb : lexB xs ys = true) :
    Calls Try.prog 40 #[vx, vy] w fun e w' => e = .returned (.bool true) ∧ Gr [] w w' := by
  have h := lexLess_c xs ys vx vy w hx hy hl
  rwa [hb] at h

set_option maxRecDepth 100000 in
set_option maxHeartbeats 4000000 in
theorem FnSolveAll_c (code : Value) (bs : List Int) (ao : Option Addr) (cap : Nat) (w : World) (hv : code = .slice ao bs.length cap) (hlen : bs.length ≤ 9223372036854775807) (hcap : bs.length ≤ cap) (hc : Cells [] w .u8 ao bs) (hb : ∀ b ∈ bs, 0 ≤ b ∧ b ≤ 255) :
    Calls Try.prog 10 #[code] w (fun e w' => e = .returned (.bool true) ∧ Gr [] w w') := by
  subst hv
  have Hc := hid hc; have Hb := hid hb; clear hc hb
  by_cases hbig : 1048576 < bs.length
  · go_enter Try.func10, Try.ntmps10
    go_wp2_with fail
    go_ret
    exact ⟨rfl, Gr.refl _ _⟩
  have hbig' : decide ((1048576 : Int) < (bs.length : Int)) = false := by simp; omega
  go_enter Try.func10, Try.ntmps10
  go_wp2_with fail
  have hcall := DrawSolveAll_c _ bs w ao cap rfl hlen hcap Hc.out Hb.out
  (with_reducible refine hcall.mono ?_)
  clear hcall
  rintro e w1 ⟨m, mv, L, rfl, hmv, hms, hg1⟩
  obtain ⟨dv, cv, rfl, hdv, hcv⟩ := hmv
  have hmv : ModV [] w1 (.agg #[dv, cv]) m := ⟨dv, cv, rfl, hdv, hcv⟩
  obtain ⟨xo, xc, rfl, _, _⟩ := hdv
  obtain ⟨co, cc, rfl, _, _⟩ := hcv
  have ha2 : Gr [] w1 (w1.alloc (.cells #[.slice xo m.doms.length xc, .slice co m.cons.length cc] 26)) := (Gr.refl _ _).alloc _
  have hb2 : (w1.alloc (.cells #[.slice xo m.doms.length xc, .slice co m.cons.length cc] 26)).heap[w1.heap.size]? = some (.cells #[.slice xo m.doms.length xc, .slice co m.cons.length cc] 26 (0, 0)) := heap_alloc_new _ _
  have HG2 := hid (hg1.trans ha2); have Hmv2 := hid (hmv.gr ha2); have Hms := hid hms; have Hb2 := hid hb2
  clear hmv hms ha2 hb2 hg1 hbig
  obtain ⟨D, hD⟩ : ∃ D, validM m = true → VM m D := by
    by_cases h : validM m = true
    · obtain ⟨D, h⟩ := validM_open h; exact ⟨D, fun _ => h⟩
    · exact ⟨[], fun h' => absurd h' h⟩
  have HD := hid hD; clear hD
  go_wp2_with fail
  have hcall := SolveAll_c m L _ _ Hmv2.out D HD.out
  (with_reducible refine hcall.mono ?_)
  clear hcall
  rintro e w3 ⟨v3, rfl, hr3, hg3⟩
  obtain ⟨zs, hzs⟩ : ∃ zs, zs = allO m L D := ⟨_, rfl⟩
  rw [← hzs] at hr3
  have Hr3 := hid hr3
  obtain ⟨zo, zc, rfl, ⟨hz1, hz2, _⟩, _⟩ := hr3
  have Hzs := hid hzs; have HG3 := hid hg3
  have fl3 := fld (hg3.obj Hb2.out (by simp))
  clear hzs hg3
  go_wp2_with fail
  have hcall := specSolveAll_c m L _ _ (Hmv2.out.gr HG3.out) Hms.out D HD.out
  (with_reducible refine hcall.mono ?_)
  clear hcall
  rintro e w4 ⟨v4, rfl, hr4, hg4⟩
  rw [← Hzs.out] at hr4
  have Hr4 := hid hr4; have Hg4 := hid hg4
  clear hr4 hg4
  go_wp2_with fail
  have hcall := equalLists_t zs _ _ _ (Hr3.out.gr Hg4.out) Hr4.out
  (with_reducible refine hcall.mono ?_)
  clear hcall
  rintro e w5 ⟨rfl, hg5⟩
  have HG35 := hid (Hg4.out.trans hg5)
  have fl5 := fld ((HG3.out.trans HG35.out).obj Hb2.out (by simp))
  clear hg5 fl3
  go_wp2_with fail
  have hcall := ValidModel_c m _ _ (Hmv2.out.gr (HG3.out.trans HG35.out))
  (with_reducible refine hcall.mono ?_)
  clear hcall
  rintro e w6 ⟨rfl, hg6⟩
  have HG36 := hid (HG35.out.trans hg6)
  have HG26 := hid (HG3.out.trans HG36.out)
  have fl6 := fld (HG26.out.obj Hb2.out (by simp))
  clear hg6 fl5
  cases hval : validM m
  · clear hval
    go_wp2_with fail
    have hcall := specSolveAll_c m L _ _ (Hmv2.out.gr HG26.out) Hms.out D HD.out
    (with_reducible refine hcall.mono ?_)
    clear hcall
    rintro e w7 ⟨v7, rfl, hr7, hg7⟩
    rw [← Hzs.out] at hr7
    have Hr7 := hid hr7; have Hg7 := hid hg7
    clear hr7 hg7
    go_wp2_with fail
    have hcall := equalLists_t zs _ _ _ (Hr3.out.gr (HG36.out.trans Hg7.out)) Hr7.out
    (with_reducible refine hcall.mono ?_)
    clear hcall
    rintro e w8 ⟨rfl, hg8⟩
    go_wp2_with fail
    go_ret
    exact ⟨rfl, ((HG2.out.trans HG26.out).trans Hg7.out).trans hg8⟩
  by_cases hL0 : L < 0
  · clear hval
    go_wp2_with fail
    have hcall := specSolveAll_c m L _ _ (Hmv2.out.gr HG26.out) Hms.out D HD.out
    (with_reducible refine hcall.mono ?_)
    clear hcall
    rintro e w7 ⟨v7, rfl, hr7, hg7⟩
    rw [← Hzs.out] at hr7
    have Hr7 := hid hr7; have Hg7 := hid hg7
    clear hr7 hg7
    go_wp2_with fail
    have hcall := equalLists_t zs _ _ _ (Hr3.out.gr (HG36.out.trans Hg7.out)) Hr7.out
    (with_reducible refine hcall.mono ?_)
    clear hcall
    rintro e w8 ⟨rfl, hg8⟩
    go_wp2_with fail
    go_ret
    exact ⟨rfl, ((HG2.out.trans HG26.out).trans Hg7.out).trans hg8⟩
  by_cases hL20 : 20 < L
  · clear hval
    go_wp2_with fail
    have hcall := specSolveAll_c m L _ _ (Hmv2.out.gr HG26.out) Hms.out D HD.out
    (with_reducible refine hcall.mono ?_)
    clear hcall
    rintro e w7 ⟨v7, rfl, hr7, hg7⟩
    rw [← Hzs.out] at hr7
    have Hr7 := hid hr7; have Hg7 := hid hg7
    clear hr7 hg7
    go_wp2_with fail
    have hcall := equalLists_t zs _ _ _ (Hr3.out.gr (HG36.out.trans Hg7.out)) Hr7.out
    (with_reducible refine hcall.mono ?_)
    clear hcall
    rintro e w8 ⟨rfl, hg8⟩
    go_wp2_with fail
    go_ret
    exact ⟨rfl, ((HG2.out.trans HG26.out).trans Hg7.out).trans hg8⟩
  have hVM := HD.out hval
  have HVM := hid hVM
  have hL0' : 0 ≤ L := by omega
  have hL20' : L ≤ 20 := by omega
  have hall : allO m L D = (sols m.cons D).take L.toNat := by unfold allO; rw [hval, inB_iff.2 ⟨by omega, by omega⟩]; rfl
  have hzl : zs = (sols m.cons D).take L.toNat := by rw [Hzs.out, hall]
  have Hzl := hid hzl
  have Hval := hid hval
  clear hval hVM hall hzl
  go_wp2_with fail
  have Hr6 := hid (Hr3.out.gr HG36.out)
  have Hm6 := hid (Hmv2.out.gr HG26.out)
  have Hb6 := hid (HG26.out.obj Hb2.out (by simp))
  go_loopw [6] (fun i wr => ∃ n : Nat, n ≤ zs.length ∧ i = .int .i64 n ∧ Gr [] w6 wr) (fun i _ => zs.length - (intOf i).toNat)
  case atStart => exact ⟨0, by omega, rfl, Gr.refl _ _⟩
  case round =>
    obtain ⟨n, hn, rfl, hg⟩ := hrel
    have flr := fld (hg.obj Hb6.out (by simp))
    have Hg := hid hg
    clear hg
    by_cases hlt : n < zs.length
    · obtain ⟨x, hx⟩ := get_some hlt
      have hxs : x ∈ sols m.cons D := by
        have h := List.mem_of_getElem? hx
        rw [Hzl.out] at h
        exact List.mem_of_mem_take h
      obtain ⟨b1, o1, u1, rfl, hc1, hn1⟩ := (Hr6.out.gr Hg.out).at hx
      have Hn1 := hid hn1; have Hxs := hid hxs; have Hx := hid hx
      clear hn1 hxs hx
      rcases Nat.eq_zero_or_pos n with hn0 | hn0
      · subst hn0
        rw [Nat.add_zero] at hc1
        have hm0 : ∀ k : GrW [] wr, k.val.cell? ⟨w1.heap.size, 0, none⟩ = some (.slice xo m.doms.length xc) := fun k => fld (k.gr.obj (Hg.out.obj Hb6.out (by simp)) (by simp)) 0
        have hm1 : ∀ k : GrW [] wr, k.val.cell? ⟨w1.heap.size, 1, none⟩ = some (.slice co m.cons.length cc) := fun k => fld (k.gr.obj (Hg.out.obj Hb6.out (by simp)) (by simp)) 1
        have hm2 : ∀ k : GrW [] wr, k.val.cell? ⟨b1, o1, none⟩ = some u1 := fun k => k.gr.cell hc1 (by simp)
        have Hm6r := hid (Hm6.out.gr Hg.out)
        clear flr hc1
        go_wp2_with fail
        refine wp_region_gr [] _ (by kernel_rfl) (by kernel_rfl) (Gr.refl _ _) ?_
        repeat (go_big_quiet_step ((go_at_call 39; exact Calls.gr_of (IsSolution_t m D x _ _ _ (Hm6r.out.gr (GrW.gr _)) HVM.out (Hn1.out.gr (GrW.gr _)) Hxs.out))))
        refine wpQuiet_nil ?_
        rintro w7 ⟨n7, hw7⟩
        have hg7 : Gr [] wr w7 := hw7 ▸ n7.gr
        clear hw7 n7 hm0 hm1 hm2
        go_wp2_with fail
        exact ⟨⟨0 + 1, by omega, by go_num, Hg.out.trans hg7⟩, by simp [intOf]; omega⟩
      · obtain ⟨p, rfl⟩ : ∃ p, n = p + 1 := ⟨n - 1, by omega⟩
        obtain ⟨x0, hx0⟩ := get_some (xs := zs) (k := p) (by omega)
        obtain ⟨b2, o2, u2, e2, hc2, hn2⟩ := (Hr6.out.gr Hg.out).at hx0
        obtain ⟨rfl, rfl⟩ : b2 = b1 ∧ o2 = o1 := by simpa [eq_comm] using e2
        have hx0s : x0 ∈ sols m.cons D := by
          have h := List.mem_of_getElem? hx0
          rw [Hzl.out] at h
          exact List.mem_of_mem_take h
        have hlx : lexB x0 x = true := by
          have hp := (sols_sorted m.cons D).take (i := L.toNat)
          rw [← Hzl.out] at hp
          have hxe := Hx.out
          obtain ⟨h1, h2⟩ := List.getElem?_eq_some_iff.1 hx0
          obtain ⟨h3, h4⟩ := List.getElem?_eq_some_iff.1 hxe
          have := List.pairwise_iff_getElem.1 hp p (p + 1) h1 h3 (by omega)
          rw [h2, h4] at this
          exact this
        have hll : x0.length = x.length := by rw [tups_len (mem_sols.1 hx0s).1, tups_len (mem_sols.1 Hxs.out).1]
        have Hlx := hid hlx; have Hll := hid hll; have Hn2 := hid hn2
        have hm0 : ∀ k : GrW [] wr, k.val.cell? ⟨w1.heap.size, 0, none⟩ = some (.slice xo m.doms.length xc) := fun k => fld (k.gr.obj (Hg.out.obj Hb6.out (by simp)) (by simp)) 0
        have hm1 : ∀ k : GrW [] wr, k.val.cell? ⟨w1.heap.size, 1, none⟩ = some (.slice co m.cons.length cc) := fun k => fld (k.gr.obj (Hg.out.obj Hb6.out (by simp)) (by simp)) 1
        have hm2 : ∀ k : GrW [] wr, k.val.cell? ⟨b2, o2 + (p + 1), none⟩ = some u1 := fun k => k.gr.cell hc1 (by simp)
        have hm3 : ∀ k : GrW [] wr, k.val.cell? ⟨b2, o2 + p, none⟩ = some u2 := fun k => k.gr.cell hc2 (by simp)
        have Hm6r := hid (Hm6.out.gr Hg.out)
        have hpl : p < zs.length := by omega
        clear flr hc1 hc2 hx0 hx0s hlx hll hn2 e2
        go_wp2_with fail
        refine wp_region_gr [] _ (by kernel_rfl) (by kernel_rfl) (Gr.refl _ _) ?_
        repeat (go_big_quiet_step ((first | (go_at_call 39; exact Calls.gr_of (IsSolution_t m D x _ _ _ (Hm6r.out.gr (GrW.gr _)) HVM.out (Hn1.out.gr (GrW.gr _)) Hxs.out)) | (go_at_call 40; exact Calls.gr_of (lexLess_t x0 x _ _ _ (Hn2.out.gr (GrW.gr _)) (Hn1.out.gr (GrW.gr _)) Hll.out Hlx.out)))))
        refine wpQuiet_nil ?_
        rintro w7 ⟨n7, hw7⟩
        have hg7 : Gr [] wr w7 := hw7 ▸ n7.gr
        clear hw7 n7 hm0 hm1 hm2 hm3
        go_wp2_with fail
        exact ⟨⟨p + 1 + 1, by omega, by go_num, Hg.out.trans hg7⟩, by simp [intOf]; omega⟩
    · clear hn
      go_wp2_with fail
      have hcall := CountSolutions_c m _ wr (Hm6.out.gr Hg.out) D (fun _ => HVM.out)
      (with_reducible refine hcall.mono ?_)
      clear hcall
      have hcnt : countI m D = ((sols m.cons D).length : Int) := by unfold countI; rw [Hval.out]; rfl
      rw [hcnt]
      clear hcnt
      rintro e w7 ⟨rfl, hg7⟩
      obtain ⟨N, hN⟩ : ∃ N, N = (sols m.cons D).length := ⟨_, rfl⟩
      rw [← hN]
      have hzlen : zs.length = min L.toNat N := by rw [Hzl.out, List.length_take, hN]
      have HG7 := hid ((HG2.out.trans HG26.out).trans (Hg.out.trans hg7))
      by_cases hNL : (N : Int) ≤ L
      · have h1 : (((zs.length : Nat) : Int) == (N : Int)) = true := by simp; omega
        clear hN hzlen
        go_wp2_with fail
        go_ret
        exact ⟨rfl, HG7.out⟩
      · have h1 : (((zs.length : Nat) : Int) == (N : Int)) = false := beq_eq_false_iff_ne.2 (by omega)
        have h2 : (((zs.length : Nat) : Int) == L) = true := by simp; omega
        have h3 : decide (L < (N : Int)) = true := by simp; omega
        clear hN hzlen
        go_wp2_with fail
        go_ret
        exact ⟨rfl, HG7.out⟩
end Go.Proofs.Ythjmdcilfbgidaa
