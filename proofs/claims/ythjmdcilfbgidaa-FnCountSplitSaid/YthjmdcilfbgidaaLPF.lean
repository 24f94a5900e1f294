/-
  Walks of laws.isSubset and FnPropagateFixpoint.
-/
import Derived.Test.YthjmdcilfbgidaaLIC
set_option linter.unusedVariables false
namespace Go.Proofs.Ythjmdcilfbgidaa
open Go.RowKit

theorem and_sub {D E : List Nat} (h : Sub D E) {i d e : Nat} (hd : D[i]? = some d) (he : E[i]? = some e) : d &&& e = d := by
  refine Nat.eq_of_testBit_eq fun n => ?_
  rw [Nat.testBit_and]
  cases hb : d.testBit n
  · rfl
  · have := h.2 i n (by simpa [List.getD_eq_getElem?_getD, hd] using hb)
    rw [List.getD_eq_getElem?_getD, he] at this
    simpa using this
theorem isSubset_c (D E : List Nat) (vx vy : Value) (w : World) (hx : Nums [] w .i64 vx (ints D)) (hy : Nums [] w .i64 vy (ints E)) (h : Sub D E) (hD : Below64 D) (hE : Below64 E) :
    Calls Try.prog 19 #[vx, vy] w fun e w' => e = .returned (.bool true) ∧ Gr [] w w' := by
  have Hx := hid hx; have Hy := hid hy
  obtain ⟨xo, xc, rfl, ⟨hx1, hx2, _⟩, _⟩ := hx
  obtain ⟨yo, yc, rfl, ⟨hy1, hy2, _⟩, _⟩ := hy
  have e1 := ints_len D
  have e2 := ints_len E
  have e3 := h.1
  rw [e1] at hx1 Hx ⊢
  rw [e2, ← e3] at hy1 Hy ⊢
  have H := hid h; have HD := hid hD; have HE := hid hE; have H3 := hid e3
  clear e1 e2 e3 h hD hE
  go_enter Try.func19, Try.ntmps19
  go_wp2_with fail
  go_loopw [5] (fun i wr => ∃ n : Nat, n ≤ D.length ∧ i = .int .i64 n ∧ Gr [] w wr) (fun i _ => D.length - (intOf i).toNat)
  case atStart => exact ⟨0, Nat.zero_le _, rfl, Gr.refl _ _⟩
  case round =>
    obtain ⟨n, hn, rfl, hg⟩ := hrel
    by_cases hlt : n < D.length
    · obtain ⟨d, hd⟩ := get_some hlt
      obtain ⟨e, he⟩ := get_some (xs := E) (k := n) (by rw [← H3.out]; exact hlt)
      obtain ⟨b, o, rfl, _, h0⟩ := (Hx.out.gr hg).at (i := n) (x := (d : Int)) (by rw [ints_get, hd]; rfl)
      obtain ⟨b', o', rfl, _, h1⟩ := (Hy.out.gr hg).at (i := n) (x := (e : Int)) (by rw [ints_get, he]; rfl)
      have hb : (bits .and .i64 (d : Int) (e : Int) != (d : Int)) = false := by
        rw [i64_and d e (by have := HD.out d (List.mem_of_getElem? hd); omega) (by have := HE.out e (List.mem_of_getElem? he); omega), and_sub H.out hd he]; simp
      clear hd he
      go_wp2_with fail
      go_quiet (fail)
      go_wp2_with fail
      refine ⟨⟨n + 1, by omega, by go_num, hg.drewN _⟩, by simp [intOf]; omega⟩
    · go_wp2_with fail
      go_ret
      exact ⟨rfl, hg⟩

theorem fix_bool {m : Mod} {D : List Nat} (h : VM m D) : ∃ fb : Bool, (∀ (i : Nat) d, (fix m.cons D)[i]? = some d → ((d : Int) == 0) = fb) ∧ isConsB ⟨ints (fix m.cons D), m.cons⟩ (fix m.cons D) = !fb := by
  have hl := fix_len h.cons
  have hv : VM ⟨ints (fix m.cons D), m.cons⟩ (fix m.cons D) := ⟨rfl, by rw [hl]; exact h.len, fix_below h.cons h.below, by rw [hl]; exact h.cons, h.many⟩
  rcases fix_end h.cons with e | ⟨h0, hs⟩
  · refine ⟨true, fun i d hd => ?_, ?_⟩
    · rw [e] at hd
      unfold zeros at hd
      have := List.eq_of_mem_replicate (List.mem_of_getElem? hd)
      subst this; rfl
    · have h0 : 0 ∈ fix m.cons D := by rw [e]; unfold zeros; rw [List.mem_replicate]; have := h.len; exact ⟨by omega, rfl⟩
      unfold isConsB
      simp [h0]
  · refine ⟨false, fun i d hd => ?_, ?_⟩
    · have : d ≠ 0 := fun e => h0 (e ▸ List.mem_of_getElem? hd)
      simp; omega
    · unfold isConsB
      have h1 : consB m.cons (fix m.cons D) = true := consB_iff.2 ((stepF_eq_iff (by rw [hl]; exact h.cons)).1 hs)
      rw [hv.valid]
      simp [h0, h1]
theorem VM.fixed {m : Mod} {D : List Nat} (h : VM m D) : VM ⟨ints (fix m.cons D), m.cons⟩ (fix m.cons D) := by
  have hl := fix_len h.cons
  exact ⟨rfl, by rw [hl]; exact h.len, fix_below h.cons h.below, by rw [hl]; exact h.cons, h.many⟩

set_option maxRecDepth 100000 in
set_option maxHeartbeats 2000000 in
theorem FnPropagateFixpoint_c (code : Value) (bs : List Int) (ao : Option Addr) (cap : Nat) (w : World) (hv : code = .slice ao bs.length cap) (hlen : bs.length ≤ 9223372036854775807) (hcap : bs.length ≤ cap) (hc : Cells [] w .u8 ao bs) (hb : ∀ b ∈ bs, 0 ≤ b ∧ b ≤ 255) :
    Calls Try.prog 4 #[code] w (fun e w' => e = .returned (.bool true) ∧ Gr [] w w') := by
  subst hv
  have Hc := hid hc; have Hb := hid hb; clear hc hb
  by_cases hbig : 1048576 < bs.length
  · go_enter Try.func4, Try.ntmps4
    go_wp2_with fail
    go_ret
    exact ⟨rfl, Gr.refl _ _⟩
  have hbig' : decide ((1048576 : Int) < (bs.length : Int)) = false := by simp; omega
  go_enter Try.func4, Try.ntmps4
  go_wp2_with fail
  have hcall := DrawPropagate_c _ bs w ao cap rfl hlen hcap Hc.out Hb.out
  (with_reducible refine hcall.mono ?_)
  clear hcall
  rintro e w1 ⟨m, mv, rfl, hmv, hms, hg1⟩
  obtain ⟨dv, cv, rfl, hdv, hcv⟩ := hmv
  have hmv : ModV [] w1 (.agg #[dv, cv]) m := ⟨dv, cv, rfl, hdv, hcv⟩
  obtain ⟨xo, xc, rfl, ⟨hx1, hx2, hx3⟩, hxc⟩ := hdv
  have Hcv := hid hcv
  obtain ⟨co, cc, rfl, _, _⟩ := hcv
  have ha2 : Gr [] w1 (w1.alloc (.cells #[.slice xo m.doms.length xc, .slice co m.cons.length cc] 26)) := (Gr.refl _ _).alloc _
  have hb2 : (w1.alloc (.cells #[.slice xo m.doms.length xc, .slice co m.cons.length cc] 26)).heap[w1.heap.size]? = some (.cells #[.slice xo m.doms.length xc, .slice co m.cons.length cc] 26 (0, 0)) := heap_alloc_new _ _
  have HG2 := hid (hg1.trans ha2); have Hmv2 := hid (hmv.gr ha2); have Hms := hid hms; have Hb2 := hid hb2; have Hcv2 := hid (Hcv.out.gr ha2)
  clear hmv hms ha2 hb2 hg1 hxc hbig Hcv
  obtain ⟨D, hD⟩ : ∃ D, validM m = true → VM m D := by
    by_cases h : validM m = true
    · obtain ⟨D, h⟩ := validM_open h; exact ⟨D, fun _ => h⟩
    · exact ⟨[], fun h' => absurd h' h⟩
  have HD := hid hD; clear hD
  go_wp2_with fail
  have hcall := Propagate_c m _ _ Hmv2.out D HD.out
  (with_reducible refine hcall.mono ?_)
  clear hcall
  rintro e w3 ⟨v3, rfl, hopt3, hg3⟩
  have hb3 := hg3.obj Hb2.out (by simp)
  have hn3 := hopt3.nums
  have Hn3 := hid hn3
  obtain ⟨do3, dc3, rfl, ⟨hd31, hd32, _⟩, _⟩ := hn3
  have HG3 := hid hg3; have Hb3 := hid hb3
  have fl3 := fld hb3
  clear hopt3 hg3 hb3
  go_wp2_with fail
  have hcall := specPropagate_c m _ _ (Hmv2.out.gr HG3.out) Hms.out D HD.out
  (with_reducible refine hcall.mono ?_)
  clear hcall
  rintro e w4 ⟨v4, rfl, hopt4, hg4⟩
  have Hn4 := hid hopt4.nums
  have HG4 := hid hg4; clear hopt4 hg4
  go_wp2_with fail
  have hcall := lawEqualInts_c _ _ _ _ _ (Hn3.out.gr HG4.out) Hn4.out
  (with_reducible refine hcall.mono ?_)
  clear hcall
  rw [decide_eq_true (rfl : (propO m D).getD [] = (propO m D).getD [])]
  rintro e w5 ⟨rfl, hg5⟩
  have HG35 := hid (HG4.out.trans hg5); clear HG4 hg5 fl3
  have hb5 := HG35.out.obj Hb3.out (by simp)
  have Hb5 := hid hb5
  have fl5 := fld hb5
  have HG25 := hid (HG3.out.trans HG35.out)
  clear hb5
  cases hval : validM m
  · have hp : propO m D = none := by unfold propO; rw [hval]; rfl
    have Hp := hid hp
    rw [hp] at Hn3 Hn4 hd31 ⊢
    simp only [Option.getD_none, List.length_nil] at Hn3 Hn4 hd31 ⊢
    clear hp hval
    go_wp2_with fail
    have hcall := specPropagate_c m _ _ (Hmv2.out.gr HG25.out) Hms.out D HD.out
    (with_reducible refine hcall.mono ?_)
    clear hcall
    rintro e w6 ⟨v6, rfl, hopt6, hg6⟩
    have Hn6 := hid hopt6.nums
    have HG6 := hid hg6; clear hopt6 hg6
    go_wp2_with fail
    have hcall := lawEqualInts_c _ _ _ _ _ (Hn3.out.gr (HG35.out.trans HG6.out)) Hn6.out
    (with_reducible refine hcall.mono ?_)
    clear hcall
    rintro e w7 ⟨rfl, hg7⟩
    go_wp2_with fail
    go_ret
    exact ⟨ret_bool (by rw [Hp.out]; simp), ((HG2.out.trans HG25.out).trans HG6.out).trans hg7⟩
  · have hVM := HD.out hval
    have HVM := hid hVM; have Hval := hid hval
    have hp : propO m D = some (ints (fix m.cons D)) := by unfold propO; rw [hval]; rfl
    obtain ⟨fb, hfb, hic⟩ := fix_bool hVM
    have Hp := hid hp; have Hfb := hid hfb; have Hic := hid hic
    have hfl := fix_len hVM.cons
    have hl1 : 0 < (fix m.cons D).length := by rw [hfl]; have := hVM.len; omega
    have hl4 : (fix m.cons D).length ≤ 4 := by rw [hfl]; have := hVM.len; omega
    clear hVM hval HD hfb hic hfl
    rw [hp] at Hn3 hd31 ⊢
    simp only [Option.getD_some] at Hn3 hd31 ⊢
    rw [ints_len] at Hn3 hd31 ⊢
    clear hp
    have hz : (((fix m.cons D).length : Int) == 0) = false := beq_eq_false_iff_ne.2 (by omega)
    obtain ⟨f0, hf0⟩ := get_some hl1
    obtain ⟨b, o, rfl, _, hcell0⟩ := (Hn3.out.gr HG35.out).at (i := 0) (x := (f0 : Int)) (by rw [ints_get, hf0]; rfl)
    rw [Nat.add_zero] at hcell0
    have hfb0 := Hfb.out 0 f0 hf0
    have ha6 : Gr [] w5 (w5.alloc (.cells #[.slice (some ⟨b, o, none⟩) (fix m.cons D).length dc3, .slice co m.cons.length cc] 26)) := (Gr.refl _ _).alloc _
    have hb6 : (w5.alloc (.cells #[.slice (some ⟨b, o, none⟩) (fix m.cons D).length dc3, .slice co m.cons.length cc] 26)).heap[w5.heap.size]? = some (.cells #[.slice (some ⟨b, o, none⟩) (fix m.cons D).length dc3, .slice co m.cons.length cc] 26 (0, 0)) := heap_alloc_new _ _
    have hlt5 := lt_of_block Hb5.out
    have hltb := World.block_lt_of_cell? _ _ hcell0
    dsimp only at hltb
    have Ha6 := hid ha6; have Hb6 := hid hb6; have Hcell0 := hid hcell0
    clear ha6 hb6 hf0
    have Hn6 := hid ((Hn3.out.gr HG35.out).gr Ha6.out)
    have Hm6 : Hid (Nums [] (w5.alloc (.cells #[.slice (some ⟨b, o, none⟩) (fix m.cons D).length dc3, .slice co m.cons.length cc] 26)) .i64 (.slice xo m.doms.length xc) (ints D)) := hid (Nums.eq ((Hmv2.out.gr HG25.out).gr Ha6.out).parts.1 HVM.out.doms)
    have HX6 : Hid (ModV [] (w5.alloc (.cells #[.slice (some ⟨b, o, none⟩) (fix m.cons D).length dc3, .slice co m.cons.length cc] 26)) (.agg #[.slice (some ⟨b, o, none⟩) (fix m.cons D).length dc3, .slice co m.cons.length cc]) ⟨ints (fix m.cons D), m.cons⟩) := hid ⟨_, _, rfl, Hn6.out, (Hcv2.out.gr HG25.out).gr Ha6.out⟩
    have hVX := HVM.out.fixed
    have HVX := hid hVX
    have HPX : Hid (propO ⟨ints (fix m.cons D), m.cons⟩ (fix m.cons D) = some (ints (fix m.cons D))) := hid (by unfold propO; rw [hVX.valid, if_pos rfl, fix_idem HVM.out.cons (by have := HVM.out.len; omega)])
    have HG6 := hid ((HG2.out.trans HG25.out).trans Ha6.out)
    have hlt6 := lt_of_block Hb6.out
    have Hb56 := hid (Ha6.out.obj Hb5.out (by simp))
    clear hVX hcell0
    cases fb
    all_goals
      have hcell0 := Hcell0.out
      go_wp2_with fail
      clear hcell0
      go_loop [7] (fun i => ∃ n : Nat, n ≤ (fix m.cons D).length ∧ i = .int .i64 n) (fun i => (fix m.cons D).length - (intOf i).toNat)
      case atStart => exact ⟨0, by omega, rfl⟩
      case round =>
        obtain ⟨n, hn, rfl⟩ := hrel
        by_cases hlt : n < (fix m.cons D).length
        · obtain ⟨f, hf⟩ := get_some hlt
          obtain ⟨b', o', e1, _, hcellf⟩ := Hn6.out.at (i := n) (x := (f : Int)) (by rw [ints_get, hf]; rfl)
          obtain ⟨rfl, rfl⟩ : b' = b ∧ o' = o := by simpa [eq_comm] using e1
          have hff := Hfb.out n f hf
          clear hf e1
          go_wp2_with fail
          exact ⟨⟨n + 1, by omega, by go_num⟩, by simp [intOf]; omega⟩
        · have fl6 := fld Hb6.out
          have fl56 := fld Hb56.out
          go_wp2_with fail
          have hcall := isSubset_c (fix m.cons D) D _ _ _ Hn6.out Hm6.out (fix_sub HVM.out.cons) HVX.out.below HVM.out.below
          (with_reducible refine hcall.mono ?_)
          clear hcall
          rintro e w7 ⟨rfl, hg7⟩
          have fl7 := fld (hg7.obj Hb6.out (by simp))
          have Hg7 := hid hg7
          clear hg7
          go_wp2_with fail
          have hcall := Propagate_c _ _ w7 (HX6.out.gr Hg7.out) (fix m.cons D) (fun _ => HVX.out)
          (with_reducible refine hcall.mono ?_)
          clear hcall
          rintro e w8 ⟨v8, rfl, hopt8, hg8⟩
          rw [HPX.out] at hopt8
          have Hn8 := hid hopt8.nums
          have Hg8 := hid (Hg7.out.trans hg8)
          have fl8 := fld (Hg8.out.obj Hb6.out (by simp))
          clear hopt8 hg8 fl7
          go_wp2_with fail
          have hcall := lawEqualInts_c _ _ _ _ w8 Hn8.out (Hn6.out.gr Hg8.out)
          (with_reducible refine hcall.mono ?_)
          clear hcall
          rw [Option.getD_some, decide_eq_true (rfl : ints (fix m.cons D) = ints (fix m.cons D))]
          rintro e w9 ⟨rfl, hg9⟩
          have Hg9 := hid (Hg8.out.trans hg9)
          have fl9 := fld (Hg9.out.obj Hb6.out (by simp))
          clear hg9 fl8
          go_wp2_with fail
          have hcall := IsConsistent_c _ _ w9 (HX6.out.gr Hg9.out) (fix m.cons D) (fun _ => HVX.out)
          (with_reducible refine hcall.mono ?_)
          clear hcall
          rw [Hic.out]
          rintro e w10 ⟨rfl, hg10⟩
          go_wp2_with fail
          go_ret
          exact ⟨rfl, (HG6.out.trans Hg9.out).trans hg10⟩
end Go.Proofs.Ythjmdcilfbgidaa
