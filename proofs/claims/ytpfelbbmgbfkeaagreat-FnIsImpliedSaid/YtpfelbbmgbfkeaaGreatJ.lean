/-
  The walk of a constraint's satisfaction, a theorem for each kind.
-/
import Derived.Test.YtpfelbbmgbfkeaaGreatH
import Derived.Test.YtpfelbbmgbfkeaaGreatA
set_option linter.unusedVariables false
namespace Go.Proofs.YtpfelbbmgbfkeaaGreat
open Go.RowKit

/-- The closure of a table's test: block b holds the word. -/
theorem satLit_c (r xs : List Int) (rv xv : Value) (b : Nat) (w : World) (hb : w.cell? ⟨b, 0, none⟩ = some xv) (hr : Nums [] w .i64 rv r) (hx : Nums [] w .i64 xv xs) :
    Calls Tryz.prog 208 #[rv, .pointer (some ⟨b, 0, none⟩)] w fun e w' => e = .returned (.bool (decide (r = xs))) ∧ Gr [] w w' := by
  go_enter Tryz.func208, Tryz.ntmps208
  go_wp2_with fail
  refine (sliceEqual_c r xs _ _ _ hr hx).mono ?_
  rintro e w1 ⟨rfl, hg1⟩
  go_wp2_with fail
  go_ret
  exact ⟨rfl, hg1⟩

set_option maxHeartbeats 800000 in
theorem sat1_c (c : Con) (xs : List Int) (cv xv : Value) (w : World) (hv : ConV [] w cv c) (hx : Nums [] w .i64 xv xs) (hF : Fit c xs) (hk : c.kind = 1) :
    Calls Tryz.prog 198 #[cv, xv] w fun e w' => e = .returned (.bool (satB c xs)) ∧ Gr [] w w' := by
  obtain ⟨vv, av, rv, rfl, hvv, hav, hrv⟩ := hv
  have hx' := hx
  obtain ⟨xo, xc, rfl, _, _⟩ := hx
  have hg0 : Gr [] w ((w.alloc (.cells #[.int .i64 c.kind, vv, av, .int .i64 c.bound, rv] 111)).alloc (.cells #[.slice xo xs.length xc] 23)) := ((Gr.refl _ _).alloc _).alloc _
  have hb0 : ((w.alloc (.cells #[.int .i64 c.kind, vv, av, .int .i64 c.bound, rv] 111)).alloc (.cells #[.slice xo xs.length xc] 23)).heap[w.heap.size]? = some (.cells #[.int .i64 c.kind, vv, av, .int .i64 c.bound, rv] 111 (0, 0)) := (heap_alloc_old _ _ (by simp)).trans (heap_alloc_new _ _)
  have hx0 : ((w.alloc (.cells #[.int .i64 c.kind, vv, av, .int .i64 c.bound, rv] 111)).alloc (.cells #[.slice xo xs.length xc] 23)).heap[w.heap.size + 1]? = some (.cells #[.slice xo xs.length xc] 23 (0, 0)) := by
    have := heap_alloc_new (w.alloc (.cells #[.int .i64 c.kind, vv, av, .int .i64 c.bound, rv] 111)) (.cells #[.slice xo xs.length xc] 23)
    rwa [World.size_alloc] at this
  have Hx := hid (hx'.gr hg0); have Hav := hid (hav.gr hg0); have Hrv := hid (hrv.gr hg0)
  have Hcv : Hid (ConV [] ((w.alloc (.cells #[.int .i64 c.kind, vv, av, .int .i64 c.bound, rv] 111)).alloc (.cells #[.slice xo xs.length xc] 23)) (.agg #[.int .i64 c.kind, vv, av, .int .i64 c.bound, rv]) c) := hid (ConV.gr ⟨vv, av, rv, rfl, hvv, hav, hrv⟩ hg0)
  have hfit := hF.fits; have Hxl := hid hF.len; have h1 := hF.k1; have h4 := hF.k4; have hval := hF.val
  clear hF hx'
  have t1 : (c.kind == 1) = true := by rw [hk]; rfl
  have hfl := fld hb0; have hfx := fld hx0
  have Hb0 := hid hb0; have Hx0 := hid hx0; have Hval := hid hval; have Hfit := hid hfit; have Hk := hid hk
  clear hb0 hx0 hval hfit hk
  have hf := Hfit.out
  rw [fitsB_1 Hk.out] at hf
  simp only [argsB, eqI, Bool.and_eq_true, beq_iff_eq] at hf
  obtain ⟨⟨⟨hal, hab⟩, hbd⟩, q1⟩ := hf
  clear q1
  have hal' : c.args.length ≤ xs.length := by have := Hxl.out; omega
  have hsa := small_of_allB hab (by omega) (by omega)
  have hsx : Small xs := fun x hx => by have := Hval.out x hx; omega
  have Hsa := hid hsa; have Hsx := hid hsx
  clear hal hab hbd hsa hsx
  have n1 : ∀ n : GrW [] ((w.alloc (.cells #[.int .i64 c.kind, vv, av, .int .i64 c.bound, rv] 111)).alloc (.cells #[.slice xo xs.length xc] 23)), ∀ i, n.val.cell? ⟨w.heap.size, i, none⟩ = #[Value.int .i64 c.kind, vv, av, Value.int .i64 c.bound, rv][i]? := fun n => fld (n.gr.obj Hb0.out (by simp))
  have n2 : ∀ n : GrW [] ((w.alloc (.cells #[.int .i64 c.kind, vv, av, .int .i64 c.bound, rv] 111)).alloc (.cells #[.slice xo xs.length xc] 23)), ∀ i, n.val.cell? ⟨w.heap.size + 1, i, none⟩ = #[Value.slice xo xs.length xc][i]? := fun n => fld (n.gr.obj Hx0.out (by simp))
  go_enter Tryz.func198, Tryz.ntmps198
  go_wp2_with fail
  refine wp_region_gr [] _ (by kernel_rfl) (by kernel_rfl) (Gr.refl _ _) ?_
  repeat (go_big_quiet_step ((go_at_call 207; exact Calls.gr_of (weighted_c c.args xs _ _ _ (Hav.out.gr (GrW.gr _)) (Hx.out.gr (GrW.gr _)) hal' (by omega) Hsa.out Hsx.out))))
  refine wpQuiet_nil ?_
  rintro w6 ⟨n6, hw6⟩
  have hg6 : Gr [] _ w6 := hw6 ▸ n6.gr
  clear hw6 n6 n1 n2
  go_wp2_with fail
  go_ret
  exact ⟨ret_bool (by unfold satB; rw [if_pos Hk.out]), hg0.trans hg6⟩
set_option maxHeartbeats 800000 in
theorem sat2_c (c : Con) (xs : List Int) (cv xv : Value) (w : World) (hv : ConV [] w cv c) (hx : Nums [] w .i64 xv xs) (hF : Fit c xs) (hk : c.kind = 2) :
    Calls Tryz.prog 198 #[cv, xv] w fun e w' => e = .returned (.bool (satB c xs)) ∧ Gr [] w w' := by
  obtain ⟨vv, av, rv, rfl, hvv, hav, hrv⟩ := hv
  have hx' := hx
  obtain ⟨xo, xc, rfl, _, _⟩ := hx
  have hg0 : Gr [] w ((w.alloc (.cells #[.int .i64 c.kind, vv, av, .int .i64 c.bound, rv] 111)).alloc (.cells #[.slice xo xs.length xc] 23)) := ((Gr.refl _ _).alloc _).alloc _
  have hb0 : ((w.alloc (.cells #[.int .i64 c.kind, vv, av, .int .i64 c.bound, rv] 111)).alloc (.cells #[.slice xo xs.length xc] 23)).heap[w.heap.size]? = some (.cells #[.int .i64 c.kind, vv, av, .int .i64 c.bound, rv] 111 (0, 0)) := (heap_alloc_old _ _ (by simp)).trans (heap_alloc_new _ _)
  have hx0 : ((w.alloc (.cells #[.int .i64 c.kind, vv, av, .int .i64 c.bound, rv] 111)).alloc (.cells #[.slice xo xs.length xc] 23)).heap[w.heap.size + 1]? = some (.cells #[.slice xo xs.length xc] 23 (0, 0)) := by
    have := heap_alloc_new (w.alloc (.cells #[.int .i64 c.kind, vv, av, .int .i64 c.bound, rv] 111)) (.cells #[.slice xo xs.length xc] 23)
    rwa [World.size_alloc] at this
  have Hx := hid (hx'.gr hg0); have Hav := hid (hav.gr hg0); have Hrv := hid (hrv.gr hg0)
  have Hcv : Hid (ConV [] ((w.alloc (.cells #[.int .i64 c.kind, vv, av, .int .i64 c.bound, rv] 111)).alloc (.cells #[.slice xo xs.length xc] 23)) (.agg #[.int .i64 c.kind, vv, av, .int .i64 c.bound, rv]) c) := hid (ConV.gr ⟨vv, av, rv, rfl, hvv, hav, hrv⟩ hg0)
  have hfit := hF.fits; have Hxl := hid hF.len; have h1 := hF.k1; have h4 := hF.k4; have hval := hF.val
  clear hF hx'
  have t1 : (c.kind == 1) = false := by rw [hk]; rfl
  have t2 : (c.kind == 2) = true := by rw [hk]; rfl
  have hfl := fld hb0; have hfx := fld hx0
  have Hb0 := hid hb0; have Hx0 := hid hx0; have Hval := hid hval; have Hfit := hid hfit; have Hk := hid hk
  clear hb0 hx0 hval hfit hk
  have hf := Hfit.out
  rw [fitsB_2 Hk.out] at hf
  simp only [argsB, eqI, Bool.and_eq_true, beq_iff_eq] at hf
  obtain ⟨⟨⟨hv2, ⟨ha1, hab⟩⟩, q1⟩, q2⟩ := hf
  clear q1 q2
  obtain ⟨x0, hx0'⟩ := get_some (show 0 < xs.length by omega)
  obtain ⟨x1, hx1'⟩ := get_some (show 1 < xs.length by have := Hxl.out; omega)
  obtain ⟨a0, ha0⟩ := get_some (show 0 < c.args.length by omega)
  have hx0r := Hval.out x0 (List.mem_of_getElem? hx0'); have hx1r := Hval.out x1 (List.mem_of_getElem? hx1')
  have ha0r := allB_iff.1 hab a0 (List.mem_of_getElem? ha0)
  obtain ⟨xo', xc', exv, ⟨hxc1, hxc2, _⟩, hxc⟩ := Hx.out
  obtain ⟨rfl, rfl⟩ : xo' = xo ∧ xc' = xc := by simpa [eq_comm] using exv
  clear exv
  obtain ⟨ao, ac, rfl, ⟨hac1, hac2, _⟩, hac⟩ := Hav.out
  obtain ⟨b, o, rfl, _, c0⟩ := hxc 0 x0 hx0'
  obtain ⟨b', o', e1, _, c1⟩ := hxc 1 x1 hx1'
  obtain ⟨rfl, rfl⟩ : b' = b ∧ o' = o := by simpa [eq_comm] using e1
  obtain ⟨b2, o2, rfl, _, c2⟩ := hac 0 a0 ha0
  rw [Nat.add_zero] at c0 c2
  have HE : Hid (xs.getD 0 0 = x0 ∧ xs.getD 1 0 = x1 ∧ c.args.getD 0 0 = a0) := hid ⟨by simp [hx0'], by simp [hx1'], by simp [ha0]⟩
  have l1 : 1 < xs.length := by have := Hxl.out; omega
  have l2 : 0 < c.args.length := by omega
  have l3 : 0 < xs.length := by omega
  clear hv2 ha1 hab hx0' hx1' ha0 hxc hac e1
  go_enter Tryz.func198, Tryz.ntmps198
  go_wp2_with fail
  go_quiet (fail)
  go_wp2_with fail
  go_ret
  refine ⟨ret_bool ?_, hg0.drewN _⟩
  unfold satB
  rw [if_neg (by have := Hk.out; omega), if_pos Hk.out, HE.out.1, HE.out.2.1, HE.out.2.2]
  rfl
set_option maxHeartbeats 800000 in
theorem sat3_c (c : Con) (xs : List Int) (cv xv : Value) (w : World) (hv : ConV [] w cv c) (hx : Nums [] w .i64 xv xs) (hF : Fit c xs) (hk : c.kind = 3) :
    Calls Tryz.prog 198 #[cv, xv] w fun e w' => e = .returned (.bool (satB c xs)) ∧ Gr [] w w' := by
  obtain ⟨vv, av, rv, rfl, hvv, hav, hrv⟩ := hv
  have hx' := hx
  obtain ⟨xo, xc, rfl, _, _⟩ := hx
  have hg0 : Gr [] w ((w.alloc (.cells #[.int .i64 c.kind, vv, av, .int .i64 c.bound, rv] 111)).alloc (.cells #[.slice xo xs.length xc] 23)) := ((Gr.refl _ _).alloc _).alloc _
  have hb0 : ((w.alloc (.cells #[.int .i64 c.kind, vv, av, .int .i64 c.bound, rv] 111)).alloc (.cells #[.slice xo xs.length xc] 23)).heap[w.heap.size]? = some (.cells #[.int .i64 c.kind, vv, av, .int .i64 c.bound, rv] 111 (0, 0)) := (heap_alloc_old _ _ (by simp)).trans (heap_alloc_new _ _)
  have hx0 : ((w.alloc (.cells #[.int .i64 c.kind, vv, av, .int .i64 c.bound, rv] 111)).alloc (.cells #[.slice xo xs.length xc] 23)).heap[w.heap.size + 1]? = some (.cells #[.slice xo xs.length xc] 23 (0, 0)) := by
    have := heap_alloc_new (w.alloc (.cells #[.int .i64 c.kind, vv, av, .int .i64 c.bound, rv] 111)) (.cells #[.slice xo xs.length xc] 23)
    rwa [World.size_alloc] at this
  have Hx := hid (hx'.gr hg0); have Hav := hid (hav.gr hg0); have Hrv := hid (hrv.gr hg0)
  have Hcv : Hid (ConV [] ((w.alloc (.cells #[.int .i64 c.kind, vv, av, .int .i64 c.bound, rv] 111)).alloc (.cells #[.slice xo xs.length xc] 23)) (.agg #[.int .i64 c.kind, vv, av, .int .i64 c.bound, rv]) c) := hid (ConV.gr ⟨vv, av, rv, rfl, hvv, hav, hrv⟩ hg0)
  have hfit := hF.fits; have Hxl := hid hF.len; have h1 := hF.k1; have h4 := hF.k4; have hval := hF.val
  clear hF hx'
  have t1 : (c.kind == 1) = false := by rw [hk]; rfl
  have t2 : (c.kind == 2) = false := by rw [hk]; rfl
  have t3 : (c.kind == 3) = true := by rw [hk]; rfl
  have hfl := fld hb0; have hfx := fld hx0
  have Hb0 := hid hb0; have Hx0 := hid hx0; have Hval := hid hval; have Hfit := hid hfit; have Hk := hid hk
  clear hb0 hx0 hval hfit hk
  go_enter Tryz.func198, Tryz.ntmps198
  go_wp2_with fail
  refine (distinct_c xs _ _ Hx.out).mono ?_
  rintro e w1 ⟨rfl, hg1⟩
  go_wp2_with fail
  go_ret
  refine ⟨ret_bool ?_, hg0.trans hg1⟩
  unfold satB
  rw [if_neg (by have := Hk.out; omega), if_neg (by have := Hk.out; omega), if_pos Hk.out]
set_option maxHeartbeats 800000 in
theorem sat4_c (c : Con) (xs : List Int) (cv xv : Value) (w : World) (hv : ConV [] w cv c) (hx : Nums [] w .i64 xv xs) (hF : Fit c xs) (hk : c.kind = 4) :
    Calls Tryz.prog 198 #[cv, xv] w fun e w' => e = .returned (.bool (satB c xs)) ∧ Gr [] w w' := by
  obtain ⟨vv, av, rv, rfl, hvv, hav, hrv⟩ := hv
  have hx' := hx
  obtain ⟨xo, xc, rfl, _, _⟩ := hx
  have hg0 : Gr [] w ((w.alloc (.cells #[.int .i64 c.kind, vv, av, .int .i64 c.bound, rv] 111)).alloc (.cells #[.slice xo xs.length xc] 23)) := ((Gr.refl _ _).alloc _).alloc _
  have hb0 : ((w.alloc (.cells #[.int .i64 c.kind, vv, av, .int .i64 c.bound, rv] 111)).alloc (.cells #[.slice xo xs.length xc] 23)).heap[w.heap.size]? = some (.cells #[.int .i64 c.kind, vv, av, .int .i64 c.bound, rv] 111 (0, 0)) := (heap_alloc_old _ _ (by simp)).trans (heap_alloc_new _ _)
  have hx0 : ((w.alloc (.cells #[.int .i64 c.kind, vv, av, .int .i64 c.bound, rv] 111)).alloc (.cells #[.slice xo xs.length xc] 23)).heap[w.heap.size + 1]? = some (.cells #[.slice xo xs.length xc] 23 (0, 0)) := by
    have := heap_alloc_new (w.alloc (.cells #[.int .i64 c.kind, vv, av, .int .i64 c.bound, rv] 111)) (.cells #[.slice xo xs.length xc] 23)
    rwa [World.size_alloc] at this
  have Hx := hid (hx'.gr hg0); have Hav := hid (hav.gr hg0); have Hrv := hid (hrv.gr hg0)
  have Hcv : Hid (ConV [] ((w.alloc (.cells #[.int .i64 c.kind, vv, av, .int .i64 c.bound, rv] 111)).alloc (.cells #[.slice xo xs.length xc] 23)) (.agg #[.int .i64 c.kind, vv, av, .int .i64 c.bound, rv]) c) := hid (ConV.gr ⟨vv, av, rv, rfl, hvv, hav, hrv⟩ hg0)
  have hfit := hF.fits; have Hxl := hid hF.len; have h1 := hF.k1; have h4 := hF.k4; have hval := hF.val
  clear hF hx'
  have t1 : (c.kind == 1) = false := by rw [hk]; rfl
  have t2 : (c.kind == 2) = false := by rw [hk]; rfl
  have t3 : (c.kind == 3) = false := by rw [hk]; rfl
  have t4 : (c.kind == 4) = true := by rw [hk]; rfl
  have hfl := fld hb0; have hfx := fld hx0
  have Hb0 := hid hb0; have Hx0 := hid hx0; have Hval := hid hval; have Hfit := hid hfit; have Hk := hid hk
  clear hb0 hx0 hval hfit hk
  have hf := Hfit.out
  rw [fitsB_4 Hk.out] at hf
  simp only [Bool.and_eq_true, beq_iff_eq] at hf
  obtain ⟨⟨⟨⟨hv2, ha1⟩, hab⟩, q1⟩, q2⟩ := hf
  clear q1 q2
  have ha1' := inB_iff.1 ha1
  obtain ⟨x0, hx0'⟩ := get_some (show 0 < xs.length by omega)
  obtain ⟨x1, hx1'⟩ := get_some (show 1 < xs.length by have := Hxl.out; omega)
  have hx0r := Hval.out x0 (List.mem_of_getElem? hx0')
  obtain ⟨x0, rfl⟩ := Int.eq_ofNat_of_zero_le hx0r.1
  obtain ⟨xo', xc', exv, ⟨hxc1, hxc2, _⟩, hxc⟩ := Hx.out
  obtain ⟨rfl, rfl⟩ : xo' = xo ∧ xc' = xc := by simpa [eq_comm] using exv
  clear exv
  obtain ⟨ao, ac, rfl, ⟨hac1, hac2, _⟩, hac⟩ := Hav.out
  obtain ⟨b, o, rfl, _, c0⟩ := hxc 0 _ hx0'
  obtain ⟨b', o', e1, _, c1⟩ := hxc 1 x1 hx1'
  obtain ⟨rfl, rfl⟩ : b' = b ∧ o' = o := by simpa [eq_comm] using e1
  rw [Nat.add_zero] at c0
  have HE : Hid (xs.getD 0 0 = x0 ∧ xs.getD 1 0 = x1) := hid ⟨by simp [hx0'], by simp [hx1']⟩
  have l1 : 1 < xs.length := by have := Hxl.out; omega
  have l3 : 0 < xs.length := by omega
  by_cases hlt : x0 < c.args.length
  · obtain ⟨a, ha⟩ := get_some hlt
    obtain ⟨b2, o2, rfl, _, c2⟩ := hac x0 a ha
    have HA : Hid (c.args.getD x0 0 = a) := hid (by simp [ha])
    have hd : decide ((x0 : Int) < (c.args.length : Int)) = true := by simpa using hlt
    clear hv2 ha1 hab hx0' hx1' hxc hac e1 ha
    go_enter Tryz.func198, Tryz.ntmps198
    go_wp2_with fail
    go_quiet (fail)
    go_wp2_with fail
    go_ret
    refine ⟨ret_bool ?_, hg0.drewN _⟩
    unfold satB
    rw [if_neg (by have := Hk.out; omega), if_neg (by have := Hk.out; omega), if_neg (by have := Hk.out; omega), if_pos Hk.out, HE.out.1, HE.out.2, hd, Int.toNat_natCast, HA.out]
    rfl
  · have hd : decide ((x0 : Int) < (c.args.length : Int)) = false := by simpa using hlt
    clear hv2 ha1 hab hx0' hx1' hxc hac e1
    go_enter Tryz.func198, Tryz.ntmps198
    go_wp2_with fail
    go_quiet (fail)
    go_wp2_with fail
    go_ret
    refine ⟨ret_bool ?_, hg0.drewN _⟩
    unfold satB
    rw [if_neg (by have := Hk.out; omega), if_neg (by have := Hk.out; omega), if_neg (by have := Hk.out; omega), if_pos Hk.out, HE.out.1, hd]
    rfl
set_option maxHeartbeats 800000 in
theorem sat5_c (c : Con) (xs : List Int) (cv xv : Value) (w : World) (hv : ConV [] w cv c) (hx : Nums [] w .i64 xv xs) (hF : Fit c xs) (hk : c.kind = 5) :
    Calls Tryz.prog 198 #[cv, xv] w fun e w' => e = .returned (.bool (satB c xs)) ∧ Gr [] w w' := by
  obtain ⟨vv, av, rv, rfl, hvv, hav, hrv⟩ := hv
  have hx' := hx
  obtain ⟨xo, xc, rfl, _, _⟩ := hx
  have hg0 : Gr [] w ((w.alloc (.cells #[.int .i64 c.kind, vv, av, .int .i64 c.bound, rv] 111)).alloc (.cells #[.slice xo xs.length xc] 23)) := ((Gr.refl _ _).alloc _).alloc _
  have hb0 : ((w.alloc (.cells #[.int .i64 c.kind, vv, av, .int .i64 c.bound, rv] 111)).alloc (.cells #[.slice xo xs.length xc] 23)).heap[w.heap.size]? = some (.cells #[.int .i64 c.kind, vv, av, .int .i64 c.bound, rv] 111 (0, 0)) := (heap_alloc_old _ _ (by simp)).trans (heap_alloc_new _ _)
  have hx0 : ((w.alloc (.cells #[.int .i64 c.kind, vv, av, .int .i64 c.bound, rv] 111)).alloc (.cells #[.slice xo xs.length xc] 23)).heap[w.heap.size + 1]? = some (.cells #[.slice xo xs.length xc] 23 (0, 0)) := by
    have := heap_alloc_new (w.alloc (.cells #[.int .i64 c.kind, vv, av, .int .i64 c.bound, rv] 111)) (.cells #[.slice xo xs.length xc] 23)
    rwa [World.size_alloc] at this
  have Hx := hid (hx'.gr hg0); have Hav := hid (hav.gr hg0); have Hrv := hid (hrv.gr hg0)
  have Hcv : Hid (ConV [] ((w.alloc (.cells #[.int .i64 c.kind, vv, av, .int .i64 c.bound, rv] 111)).alloc (.cells #[.slice xo xs.length xc] 23)) (.agg #[.int .i64 c.kind, vv, av, .int .i64 c.bound, rv]) c) := hid (ConV.gr ⟨vv, av, rv, rfl, hvv, hav, hrv⟩ hg0)
  have hfit := hF.fits; have Hxl := hid hF.len; have h1 := hF.k1; have h4 := hF.k4; have hval := hF.val
  clear hF hx'
  have t1 : (c.kind == 1) = false := by rw [hk]; rfl
  have t2 : (c.kind == 2) = false := by rw [hk]; rfl
  have t3 : (c.kind == 3) = false := by rw [hk]; rfl
  have t4 : (c.kind == 4) = false := by rw [hk]; rfl
  have t5 : (c.kind == 5) = true := by rw [hk]; rfl
  have hfl := fld hb0; have hfx := fld hx0
  have Hb0 := hid hb0; have Hx0 := hid hx0; have Hval := hid hval; have Hfit := hid hfit; have Hk := hid hk
  clear hb0 hx0 hval hfit hk
  go_enter Tryz.func198, Tryz.ntmps198
  go_wp2_with fail
  refine (containsRow_c c.rows (fun r => decide (r = xs)) _ 208 _ _ Hrv.out (fun _ _ => by kernel_rfl) ?_).mono ?_
  · intro r rv' w2 _ hg2 hr
    exact satLit_c r xs rv' _ _ w2 (hg2.cell (hfx 0) (by simp)) hr (Hx.out.gr hg2)
  rintro e w1 ⟨rfl, hg1⟩
  go_wp2_with fail
  go_ret
  refine ⟨ret_bool ?_, hg0.trans hg1⟩
  unfold satB
  rw [if_neg (by have := Hk.out; omega), if_neg (by have := Hk.out; omega), if_neg (by have := Hk.out; omega), if_neg (by have := Hk.out; omega), if_pos Hk.out]
  rfl
set_option maxHeartbeats 800000 in
theorem sat6_c (c : Con) (xs : List Int) (cv xv : Value) (w : World) (hv : ConV [] w cv c) (hx : Nums [] w .i64 xv xs) (hF : Fit c xs) (hk : c.kind = 6) :
    Calls Tryz.prog 198 #[cv, xv] w fun e w' => e = .returned (.bool (satB c xs)) ∧ Gr [] w w' := by
  obtain ⟨vv, av, rv, rfl, hvv, hav, hrv⟩ := hv
  have hx' := hx
  obtain ⟨xo, xc, rfl, _, _⟩ := hx
  have hg0 : Gr [] w ((w.alloc (.cells #[.int .i64 c.kind, vv, av, .int .i64 c.bound, rv] 111)).alloc (.cells #[.slice xo xs.length xc] 23)) := ((Gr.refl _ _).alloc _).alloc _
  have hb0 : ((w.alloc (.cells #[.int .i64 c.kind, vv, av, .int .i64 c.bound, rv] 111)).alloc (.cells #[.slice xo xs.length xc] 23)).heap[w.heap.size]? = some (.cells #[.int .i64 c.kind, vv, av, .int .i64 c.bound, rv] 111 (0, 0)) := (heap_alloc_old _ _ (by simp)).trans (heap_alloc_new _ _)
  have hx0 : ((w.alloc (.cells #[.int .i64 c.kind, vv, av, .int .i64 c.bound, rv] 111)).alloc (.cells #[.slice xo xs.length xc] 23)).heap[w.heap.size + 1]? = some (.cells #[.slice xo xs.length xc] 23 (0, 0)) := by
    have := heap_alloc_new (w.alloc (.cells #[.int .i64 c.kind, vv, av, .int .i64 c.bound, rv] 111)) (.cells #[.slice xo xs.length xc] 23)
    rwa [World.size_alloc] at this
  have Hx := hid (hx'.gr hg0); have Hav := hid (hav.gr hg0); have Hrv := hid (hrv.gr hg0)
  have Hcv : Hid (ConV [] ((w.alloc (.cells #[.int .i64 c.kind, vv, av, .int .i64 c.bound, rv] 111)).alloc (.cells #[.slice xo xs.length xc] 23)) (.agg #[.int .i64 c.kind, vv, av, .int .i64 c.bound, rv]) c) := hid (ConV.gr ⟨vv, av, rv, rfl, hvv, hav, hrv⟩ hg0)
  have hfit := hF.fits; have Hxl := hid hF.len; have h1 := hF.k1; have h4 := hF.k4; have hval := hF.val
  clear hF hx'
  have t1 : (c.kind == 1) = false := by rw [hk]; rfl
  have t2 : (c.kind == 2) = false := by rw [hk]; rfl
  have t3 : (c.kind == 3) = false := by rw [hk]; rfl
  have t4 : (c.kind == 4) = false := by rw [hk]; rfl
  have t5 : (c.kind == 5) = false := by rw [hk]; rfl
  have t6 : (c.kind == 6) = true := by rw [hk]; rfl
  have hfl := fld hb0; have hfx := fld hx0
  have Hb0 := hid hb0; have Hx0 := hid hx0; have Hval := hid hval; have Hfit := hid hfit; have Hk := hid hk
  clear hb0 hx0 hval hfit hk
  have hf := Hfit.out
  rw [fitsB_6 Hk.out] at hf
  simp only [argsB, eqI, Bool.and_eq_true, beq_iff_eq] at hf
  obtain ⟨⟨⟨ha1, hab⟩, q1⟩, q2⟩ := hf
  clear q1 q2
  obtain ⟨a0, ha0⟩ := get_some (show 0 < c.args.length by omega)
  obtain ⟨xo', xc', exv, ⟨hxc1, hxc2, _⟩, hxc⟩ := Hx.out
  obtain ⟨rfl, rfl⟩ : xo' = xo ∧ xc' = xc := by simpa [eq_comm] using exv
  clear exv
  obtain ⟨ao, ac, rfl, ⟨hac1, hac2, _⟩, hac⟩ := Hav.out
  obtain ⟨b2, o2, rfl, _, c2⟩ := hac 0 a0 ha0
  rw [Nat.add_zero] at c2
  have HE : Hid (c.args.getD 0 0 = a0) := hid (by simp [ha0])
  have l2 : 0 < c.args.length := by omega
  have Hxc := hid hxc
  clear ha1 hab ha0 hxc hac
  go_enter Tryz.func198, Tryz.ntmps198
  go_wp2_with fail
  go_loop [5, 69] (fun s i => ∃ (n k : Nat), n ≤ xs.length ∧ i = .int .i64 n ∧ s = .int .i64 k ∧ k ≤ n ∧ (k : Int) + countB a0 (xs.drop n) = countB a0 xs) (fun _ i => xs.length - (intOf i).toNat)
  case atStart => exact ⟨0, 0, Nat.zero_le _, rfl, rfl, by omega, by simp⟩
  case round =>
    obtain ⟨n, k, hn, rfl, rfl, hkn, hR⟩ := hrel
    have HR := hid hR; clear hR
    by_cases hlt : n < xs.length
    · obtain ⟨x, hx⟩ := get_some hlt
      obtain ⟨b, o, rfl, _, c0⟩ := Hxc.out n x hx
      have HX := hid (drop_cons hx); clear hx
      cases hb : (x == a0)
      · have hne : x ≠ a0 := by simpa using hb
        have Hne := hid hne; clear hne
        go_wp2_with fail
        refine ⟨⟨n + 1, k, by omega, by go_num, rfl, by omega, ?_⟩, by simp [intOf]; omega⟩
        rw [← HR.out, HX.out, countB, if_neg Hne.out]; omega
      · have heq : x = a0 := by simpa using hb
        have Heq := hid heq; clear heq
        go_wp2_with fail
        refine ⟨⟨n + 1, k + 1, by omega, by go_num, by go_num, by omega, ?_⟩, by simp [intOf]; omega⟩
        rw [← HR.out, HX.out, countB, if_pos Heq.out]; omega
    · have hk' : (k : Int) = countB a0 xs := by
        have := HR.out; rw [drop_end (by omega)] at this; simpa [countB] using this
      have HK := hid hk'; clear hk'
      go_wp2_with fail
      go_ret
      refine ⟨ret_bool ?_, hg0⟩
      unfold satB
      rw [if_neg (by have := Hk.out; omega), if_neg (by have := Hk.out; omega), if_neg (by have := Hk.out; omega), if_neg (by have := Hk.out; omega), if_neg (by have := Hk.out; omega), if_pos Hk.out, HE.out, ← HK.out]
set_option maxHeartbeats 800000 in
theorem sat7_c (c : Con) (xs : List Int) (cv xv : Value) (w : World) (hv : ConV [] w cv c) (hx : Nums [] w .i64 xv xs) (hF : Fit c xs) (hk : c.kind = 7) :
    Calls Tryz.prog 198 #[cv, xv] w fun e w' => e = .returned (.bool (satB c xs)) ∧ Gr [] w w' := by
  obtain ⟨vv, av, rv, rfl, hvv, hav, hrv⟩ := hv
  have hx' := hx
  obtain ⟨xo, xc, rfl, _, _⟩ := hx
  have hg0 : Gr [] w ((w.alloc (.cells #[.int .i64 c.kind, vv, av, .int .i64 c.bound, rv] 111)).alloc (.cells #[.slice xo xs.length xc] 23)) := ((Gr.refl _ _).alloc _).alloc _
  have hb0 : ((w.alloc (.cells #[.int .i64 c.kind, vv, av, .int .i64 c.bound, rv] 111)).alloc (.cells #[.slice xo xs.length xc] 23)).heap[w.heap.size]? = some (.cells #[.int .i64 c.kind, vv, av, .int .i64 c.bound, rv] 111 (0, 0)) := (heap_alloc_old _ _ (by simp)).trans (heap_alloc_new _ _)
  have hx0 : ((w.alloc (.cells #[.int .i64 c.kind, vv, av, .int .i64 c.bound, rv] 111)).alloc (.cells #[.slice xo xs.length xc] 23)).heap[w.heap.size + 1]? = some (.cells #[.slice xo xs.length xc] 23 (0, 0)) := by
    have := heap_alloc_new (w.alloc (.cells #[.int .i64 c.kind, vv, av, .int .i64 c.bound, rv] 111)) (.cells #[.slice xo xs.length xc] 23)
    rwa [World.size_alloc] at this
  have Hx := hid (hx'.gr hg0); have Hav := hid (hav.gr hg0); have Hrv := hid (hrv.gr hg0)
  have Hcv : Hid (ConV [] ((w.alloc (.cells #[.int .i64 c.kind, vv, av, .int .i64 c.bound, rv] 111)).alloc (.cells #[.slice xo xs.length xc] 23)) (.agg #[.int .i64 c.kind, vv, av, .int .i64 c.bound, rv]) c) := hid (ConV.gr ⟨vv, av, rv, rfl, hvv, hav, hrv⟩ hg0)
  have hfit := hF.fits; have Hxl := hid hF.len; have h1 := hF.k1; have h4 := hF.k4; have hval := hF.val
  clear hF hx'
  have t1 : (c.kind == 1) = false := by rw [hk]; rfl
  have t2 : (c.kind == 2) = false := by rw [hk]; rfl
  have t3 : (c.kind == 3) = false := by rw [hk]; rfl
  have t4 : (c.kind == 4) = false := by rw [hk]; rfl
  have t5 : (c.kind == 5) = false := by rw [hk]; rfl
  have t6 : (c.kind == 6) = false := by rw [hk]; rfl
  have t7 : (c.kind == 7) = true := by rw [hk]; rfl
  have hfl := fld hb0; have hfx := fld hx0
  have Hb0 := hid hb0; have Hx0 := hid hx0; have Hval := hid hval; have Hfit := hid hfit; have Hk := hid hk
  clear hb0 hx0 hval hfit hk
  have hf := Hfit.out
  rw [fitsB_7 Hk.out] at hf
  simp only [argsB, eqI, Bool.and_eq_true, beq_iff_eq] at hf
  obtain ⟨⟨⟨ha1, hab⟩, q1⟩, q2⟩ := hf
  clear q1 q2
  have Hal : Hid (c.args.length = 2 * xs.length) := hid (by have := Hxl.out; omega)
  have Hab := hid (allB_iff.1 hab)
  clear ha1 hab
  go_enter Tryz.func198, Tryz.ntmps198
  go_wp2_with fail
  refine (roomy_c c xs _ _ _ Hcv.out Hx.out Hval.out Hal.out h4 Hab.out).mono ?_
  rintro e w1 ⟨rfl, hg1⟩
  go_wp2_with fail
  go_ret
  refine ⟨ret_bool ?_, hg0.trans hg1⟩
  unfold satB
  rw [if_neg (by have := Hk.out; omega), if_neg (by have := Hk.out; omega), if_neg (by have := Hk.out; omega), if_neg (by have := Hk.out; omega), if_neg (by have := Hk.out; omega), if_neg (by have := Hk.out; omega), if_pos Hk.out]
set_option maxHeartbeats 800000 in
theorem sat8_c (c : Con) (xs : List Int) (cv xv : Value) (w : World) (hv : ConV [] w cv c) (hx : Nums [] w .i64 xv xs) (hF : Fit c xs) (hk : c.kind = 8) :
    Calls Tryz.prog 198 #[cv, xv] w fun e w' => e = .returned (.bool (satB c xs)) ∧ Gr [] w w' := by
  obtain ⟨vv, av, rv, rfl, hvv, hav, hrv⟩ := hv
  have hx' := hx
  obtain ⟨xo, xc, rfl, _, _⟩ := hx
  have hg0 : Gr [] w ((w.alloc (.cells #[.int .i64 c.kind, vv, av, .int .i64 c.bound, rv] 111)).alloc (.cells #[.slice xo xs.length xc] 23)) := ((Gr.refl _ _).alloc _).alloc _
  have hb0 : ((w.alloc (.cells #[.int .i64 c.kind, vv, av, .int .i64 c.bound, rv] 111)).alloc (.cells #[.slice xo xs.length xc] 23)).heap[w.heap.size]? = some (.cells #[.int .i64 c.kind, vv, av, .int .i64 c.bound, rv] 111 (0, 0)) := (heap_alloc_old _ _ (by simp)).trans (heap_alloc_new _ _)
  have hx0 : ((w.alloc (.cells #[.int .i64 c.kind, vv, av, .int .i64 c.bound, rv] 111)).alloc (.cells #[.slice xo xs.length xc] 23)).heap[w.heap.size + 1]? = some (.cells #[.slice xo xs.length xc] 23 (0, 0)) := by
    have := heap_alloc_new (w.alloc (.cells #[.int .i64 c.kind, vv, av, .int .i64 c.bound, rv] 111)) (.cells #[.slice xo xs.length xc] 23)
    rwa [World.size_alloc] at this
  have Hx := hid (hx'.gr hg0); have Hav := hid (hav.gr hg0); have Hrv := hid (hrv.gr hg0)
  have Hcv : Hid (ConV [] ((w.alloc (.cells #[.int .i64 c.kind, vv, av, .int .i64 c.bound, rv] 111)).alloc (.cells #[.slice xo xs.length xc] 23)) (.agg #[.int .i64 c.kind, vv, av, .int .i64 c.bound, rv]) c) := hid (ConV.gr ⟨vv, av, rv, rfl, hvv, hav, hrv⟩ hg0)
  have hfit := hF.fits; have Hxl := hid hF.len; have h1 := hF.k1; have h4 := hF.k4; have hval := hF.val
  clear hF hx'
  have t1 : (c.kind == 1) = false := by rw [hk]; rfl
  have t2 : (c.kind == 2) = false := by rw [hk]; rfl
  have t3 : (c.kind == 3) = false := by rw [hk]; rfl
  have t4 : (c.kind == 4) = false := by rw [hk]; rfl
  have t5 : (c.kind == 5) = false := by rw [hk]; rfl
  have t6 : (c.kind == 6) = false := by rw [hk]; rfl
  have t7 : (c.kind == 7) = false := by rw [hk]; rfl
  have t8 : (c.kind == 8) = true := by rw [hk]; rfl
  have hfl := fld hb0; have hfx := fld hx0
  have Hb0 := hid hb0; have Hx0 := hid hx0; have Hval := hid hval; have Hfit := hid hfit; have Hk := hid hk
  clear hb0 hx0 hval hfit hk
  have hf := Hfit.out
  rw [fitsB_8 Hk.out] at hf
  simp only [Bool.and_eq_true] at hf
  have Hrows := hid hf.1.1.1
  clear hf
  go_enter Tryz.func198, Tryz.ntmps198
  go_wp2_with fail
  refine (accepts_c c xs _ _ _ Hcv.out Hx.out Hval.out Hrows.out).mono ?_
  rintro e w1 ⟨rfl, hg1⟩
  go_wp2_with fail
  go_ret
  refine ⟨ret_bool ?_, hg0.trans hg1⟩
  unfold satB
  rw [if_neg (by have := Hk.out; omega), if_neg (by have := Hk.out; omega), if_neg (by have := Hk.out; omega), if_neg (by have := Hk.out; omega), if_neg (by have := Hk.out; omega), if_neg (by have := Hk.out; omega), if_neg (by have := Hk.out; omega), if_pos Hk.out]
set_option maxHeartbeats 800000 in
theorem sat9_c (c : Con) (xs : List Int) (cv xv : Value) (w : World) (hv : ConV [] w cv c) (hx : Nums [] w .i64 xv xs) (hF : Fit c xs) (hk : c.kind = 9) :
    Calls Tryz.prog 198 #[cv, xv] w fun e w' => e = .returned (.bool (satB c xs)) ∧ Gr [] w w' := by
  obtain ⟨vv, av, rv, rfl, hvv, hav, hrv⟩ := hv
  have hx' := hx
  obtain ⟨xo, xc, rfl, _, _⟩ := hx
  have hg0 : Gr [] w ((w.alloc (.cells #[.int .i64 c.kind, vv, av, .int .i64 c.bound, rv] 111)).alloc (.cells #[.slice xo xs.length xc] 23)) := ((Gr.refl _ _).alloc _).alloc _
  have hb0 : ((w.alloc (.cells #[.int .i64 c.kind, vv, av, .int .i64 c.bound, rv] 111)).alloc (.cells #[.slice xo xs.length xc] 23)).heap[w.heap.size]? = some (.cells #[.int .i64 c.kind, vv, av, .int .i64 c.bound, rv] 111 (0, 0)) := (heap_alloc_old _ _ (by simp)).trans (heap_alloc_new _ _)
  have hx0 : ((w.alloc (.cells #[.int .i64 c.kind, vv, av, .int .i64 c.bound, rv] 111)).alloc (.cells #[.slice xo xs.length xc] 23)).heap[w.heap.size + 1]? = some (.cells #[.slice xo xs.length xc] 23 (0, 0)) := by
    have := heap_alloc_new (w.alloc (.cells #[.int .i64 c.kind, vv, av, .int .i64 c.bound, rv] 111)) (.cells #[.slice xo xs.length xc] 23)
    rwa [World.size_alloc] at this
  have Hx := hid (hx'.gr hg0); have Hav := hid (hav.gr hg0); have Hrv := hid (hrv.gr hg0)
  have Hcv : Hid (ConV [] ((w.alloc (.cells #[.int .i64 c.kind, vv, av, .int .i64 c.bound, rv] 111)).alloc (.cells #[.slice xo xs.length xc] 23)) (.agg #[.int .i64 c.kind, vv, av, .int .i64 c.bound, rv]) c) := hid (ConV.gr ⟨vv, av, rv, rfl, hvv, hav, hrv⟩ hg0)
  have hfit := hF.fits; have Hxl := hid hF.len; have h1 := hF.k1; have h4 := hF.k4; have hval := hF.val
  clear hF hx'
  have t1 : (c.kind == 1) = false := by rw [hk]; rfl
  have t2 : (c.kind == 2) = false := by rw [hk]; rfl
  have t3 : (c.kind == 3) = false := by rw [hk]; rfl
  have t4 : (c.kind == 4) = false := by rw [hk]; rfl
  have t5 : (c.kind == 5) = false := by rw [hk]; rfl
  have t6 : (c.kind == 6) = false := by rw [hk]; rfl
  have t7 : (c.kind == 7) = false := by rw [hk]; rfl
  have t8 : (c.kind == 8) = false := by rw [hk]; rfl
  have hfl := fld hb0; have hfx := fld hx0
  have Hb0 := hid hb0; have Hx0 := hid hx0; have Hval := hid hval; have Hfit := hid hfit; have Hk := hid hk
  clear hb0 hx0 hval hfit hk
  go_enter Tryz.func198, Tryz.ntmps198
  go_wp2_with fail
  refine (cycle_c xs _ _ Hx.out ⟨h1, h4⟩ Hval.out).mono ?_
  rintro e w1 ⟨rfl, hg1⟩
  go_wp2_with fail
  go_ret
  refine ⟨ret_bool ?_, hg0.trans hg1⟩
  unfold satB
  rw [if_neg (by have := Hk.out; omega), if_neg (by have := Hk.out; omega), if_neg (by have := Hk.out; omega), if_neg (by have := Hk.out; omega), if_neg (by have := Hk.out; omega), if_neg (by have := Hk.out; omega), if_neg (by have := Hk.out; omega), if_neg (by have := Hk.out; omega)]
theorem satisfied_c (c : Con) (xs : List Int) (cv xv : Value) (w : World) (hv : ConV [] w cv c) (hx : Nums [] w .i64 xv xs) (hF : Fit c xs) :
    Calls Tryz.prog 198 #[cv, xv] w fun e w' => e = .returned (.bool (satB c xs)) ∧ Gr [] w w' := by
  by_cases h0 : 1 ≤ c.kind ∧ c.kind ≤ 9
  · have : c.kind = 1 ∨ c.kind = 2 ∨ c.kind = 3 ∨ c.kind = 4 ∨ c.kind = 5 ∨ c.kind = 6 ∨ c.kind = 7 ∨ c.kind = 8 ∨ c.kind = 9 := by omega
    rcases this with h | h | h | h | h | h | h | h | h
    · exact sat1_c c xs cv xv w hv hx hF h
    · exact sat2_c c xs cv xv w hv hx hF h
    · exact sat3_c c xs cv xv w hv hx hF h
    · exact sat4_c c xs cv xv w hv hx hF h
    · exact sat5_c c xs cv xv w hv hx hF h
    · exact sat6_c c xs cv xv w hv hx hF h
    · exact sat7_c c xs cv xv w hv hx hF h
    · exact sat8_c c xs cv xv w hv hx hF h
    · exact sat9_c c xs cv xv w hv hx hF h
  · have := hF.fits
    rw [fitsB_0 h0] at this
    cases this
end Go.Proofs.YtpfelbbmgbfkeaaGreat
