/-
  The walk of the reference's satisfaction, a theorem for each kind.
-/
import Derived.Test.YtpfelbbmgbfkeaaGreatK
set_option linter.unusedVariables false
namespace Go.Proofs.YtpfelbbmgbfkeaaGreat
open Go.RowKit

set_option maxHeartbeats 800000 in
theorem sps1_c (c : Con) (xs : List Int) (cv xv : Value) (w : World) (hv : ConV [] w cv c) (hx : Nums [] w .i64 xv xs) (hF : Fit c xs) (hk : c.kind = 1) :
    Calls Tryz.prog 199 #[cv, xv] w fun e w' => e = .returned (.bool (satB c xs)) ∧ Gr [] w w' := by
  obtain ⟨vv, av, rv, rfl, hvv, hav, hrv⟩ := hv
  have hx' := hx
  obtain ⟨xo, xc, rfl, _, _⟩ := hx
  have hg0 : Gr [] w (w.alloc (.cells #[.int .i64 c.kind, vv, av, .int .i64 c.bound, rv] 111)) := (Gr.refl _ _).alloc _
  have hb0 : (w.alloc (.cells #[.int .i64 c.kind, vv, av, .int .i64 c.bound, rv] 111)).heap[w.heap.size]? = some (.cells #[.int .i64 c.kind, vv, av, .int .i64 c.bound, rv] 111 (0, 0)) := heap_alloc_new _ _
  have Hx := hid (hx'.gr hg0); have Hav := hid (hav.gr hg0); have Hrv := hid (hrv.gr hg0)
  have Hcv : Hid (ConV [] (w.alloc (.cells #[.int .i64 c.kind, vv, av, .int .i64 c.bound, rv] 111)) (.agg #[.int .i64 c.kind, vv, av, .int .i64 c.bound, rv]) c) := hid (ConV.gr ⟨vv, av, rv, rfl, hvv, hav, hrv⟩ hg0)
  have hfit := hF.fits; have Hxl := hid hF.len; have h1 := hF.k1; have h4 := hF.k4; have hval := hF.val
  clear hF hx'
  have t1 : (c.kind == 1) = true := by rw [hk]; rfl
  have hfl := fld hb0
  have Hb0 := hid hb0; have Hval := hid hval; have Hfit := hid hfit; have Hk := hid hk
  clear hb0 hval hfit hk
  have hf := Hfit.out
  rw [fitsB_1 Hk.out] at hf
  simp only [argsB, eqI, Bool.and_eq_true, beq_iff_eq] at hf
  obtain ⟨⟨⟨hal, hab⟩, hbd⟩, q1⟩ := hf
  clear q1
  have hal' : c.args.length ≤ xs.length := by have := Hxl.out; omega
  have hal2 : xs.length ≤ c.args.length := by have := Hxl.out; omega
  have Hsa := hid (small_of_allB hab (by omega) (by omega))
  have Hsx : Hid (Small xs) := hid (fun x hx => by have := Hval.out x hx; omega)
  clear hal hab hbd
  obtain ⟨xo', xc', exv, ⟨hxc1, hxc2, _⟩, hxc⟩ := Hx.out
  obtain ⟨rfl, rfl⟩ : xo' = xo ∧ xc' = xc := by simpa [eq_comm] using exv
  clear exv
  obtain ⟨ao, ac, rfl, ⟨hac1, hac2, _⟩, hac⟩ := Hav.out
  have Hxc := hid hxc; have Hac := hid hac; clear hxc hac
  go_enter Tryz.func199, Tryz.ntmps199
  go_wp2_with fail
  go_loopw [5, 6] (fun s i wr => ∃ (n : Nat) (t : Int), n ≤ xs.length ∧ i = .int .i64 n ∧ s = .int .i64 t ∧ (-1000000 * (n : Int) ≤ t ∧ t ≤ 1000000 * (n : Int)) ∧ t + dot (c.args.drop n) (xs.drop n) = dot c.args xs ∧ Gr [] (w.alloc (.cells #[.int .i64 c.kind, vv, .slice ao c.args.length ac, .int .i64 c.bound, rv] 111)) wr) (fun _ i _ => xs.length - (intOf i).toNat)
  case atStart => exact ⟨0, 0, Nat.zero_le _, rfl, rfl, by omega, by simp, Gr.refl _ _⟩
  case round =>
    obtain ⟨n, t, hn, rfl, rfl, ht, hdot, hg⟩ := hrel
    have Hdot := hid hdot; clear hdot
    have hflr := fld (hg.obj Hb0.out (by simp))
    by_cases hlt : n < xs.length
    · obtain ⟨x, hx⟩ := get_some (show n < c.args.length by omega)
      obtain ⟨y, hy⟩ := get_some hlt
      obtain ⟨b, o, rfl, _, hcell⟩ := (Hac.out.gr hg) n x hx
      obtain ⟨b', o', rfl, _, hcell'⟩ := (Hxc.out.gr hg) n y hy
      have hmul := mul_bd (Hsa.out x (List.mem_of_getElem? hx)) (Hsx.out y (List.mem_of_getElem? hy))
      have HX := hid (drop_cons hx); have HY := hid (drop_cons hy); clear hx hy
      have hnx : n < c.args.length := by omega
      go_wp2_with fail
      go_quiet (fail)
      go_wp2_with fail
      refine ⟨⟨n + 1, t + x * y, by omega, by go_num, rfl, by omega, ?_, hg.drewN _⟩, by simp [intOf]; omega⟩
      rw [← Hdot.out, HX.out, HY.out]; simp [dot]; omega
    · have ht' : t = dot c.args xs := by
        have := Hdot.out; rw [drop_end (xs := xs) (by omega)] at this
        rw [drop_end (xs := c.args) (by omega)] at this; simpa [dot] using this
      have HT := hid ht'; clear ht'
      go_wp2_with fail
      go_ret
      exact ⟨ret_bool (by unfold satB; rw [if_pos Hk.out, ← HT.out]), hg0.trans hg⟩
set_option maxHeartbeats 800000 in
theorem sps2_c (c : Con) (xs : List Int) (cv xv : Value) (w : World) (hv : ConV [] w cv c) (hx : Nums [] w .i64 xv xs) (hF : Fit c xs) (hk : c.kind = 2) :
    Calls Tryz.prog 199 #[cv, xv] w fun e w' => e = .returned (.bool (satB c xs)) ∧ Gr [] w w' := by
  obtain ⟨vv, av, rv, rfl, hvv, hav, hrv⟩ := hv
  have hx' := hx
  obtain ⟨xo, xc, rfl, _, _⟩ := hx
  have hg0 : Gr [] w (w.alloc (.cells #[.int .i64 c.kind, vv, av, .int .i64 c.bound, rv] 111)) := (Gr.refl _ _).alloc _
  have hb0 : (w.alloc (.cells #[.int .i64 c.kind, vv, av, .int .i64 c.bound, rv] 111)).heap[w.heap.size]? = some (.cells #[.int .i64 c.kind, vv, av, .int .i64 c.bound, rv] 111 (0, 0)) := heap_alloc_new _ _
  have Hx := hid (hx'.gr hg0); have Hav := hid (hav.gr hg0); have Hrv := hid (hrv.gr hg0)
  have Hcv : Hid (ConV [] (w.alloc (.cells #[.int .i64 c.kind, vv, av, .int .i64 c.bound, rv] 111)) (.agg #[.int .i64 c.kind, vv, av, .int .i64 c.bound, rv]) c) := hid (ConV.gr ⟨vv, av, rv, rfl, hvv, hav, hrv⟩ hg0)
  have hfit := hF.fits; have Hxl := hid hF.len; have h1 := hF.k1; have h4 := hF.k4; have hval := hF.val
  clear hF hx'
  have t1 : (c.kind == 1) = false := by rw [hk]; rfl
  have t2 : (c.kind == 2) = true := by rw [hk]; rfl
  have hfl := fld hb0
  have Hb0 := hid hb0; have Hval := hid hval; have Hfit := hid hfit; have Hk := hid hk
  clear hb0 hval hfit hk
  have hf := Hfit.out
  rw [fitsB_2 Hk.out] at hf
  simp only [argsB, eqI, Bool.and_eq_true, beq_iff_eq] at hf
  obtain ⟨⟨⟨hv2, ⟨ha1, hab⟩⟩, q1⟩, q2⟩ := hf
  clear q1 q2
  obtain ⟨x0, hx0'⟩ := get_some (show 0 < xs.length by omega)
  obtain ⟨x1, hx1'⟩ := get_some (show 1 < xs.length by have := Hxl.out; omega)
  obtain ⟨a0, ha0⟩ := get_some (show 0 < c.args.length by omega)
  have hx0r := Hval.out x0 (List.mem_of_getElem? hx0'); have hx1r := Hval.out x1 (List.mem_of_getElem? hx1')
  have ha0r := allB_iff.1 hab a0 (List.mem_of_getElem? ha0)
  obtain ⟨xo', xc', exv, ⟨hxc1, hxc2, _⟩, hxc⟩ := Hx.out
  obtain ⟨rfl, rfl⟩ : xo' = xo ∧ xc' = xc := by simpa [eq_comm] using exv
  clear exv
  obtain ⟨ao, ac, rfl, ⟨hac1, hac2, _⟩, hac⟩ := Hav.out
  obtain ⟨b, o, rfl, _, c0⟩ := hxc 0 x0 hx0'
  obtain ⟨b', o', e1, _, c1⟩ := hxc 1 x1 hx1'
  obtain ⟨rfl, rfl⟩ : b' = b ∧ o' = o := by simpa [eq_comm] using e1
  obtain ⟨b2, o2, rfl, _, c2⟩ := hac 0 a0 ha0
  rw [Nat.add_zero] at c0 c2
  have HE : Hid (xs.getD 0 0 = x0 ∧ xs.getD 1 0 = x1 ∧ c.args.getD 0 0 = a0) := hid ⟨by simp [hx0'], by simp [hx1'], by simp [ha0]⟩
  have l1 : 1 < xs.length := by have := Hxl.out; omega
  have l2 : 0 < c.args.length := by omega
  have l3 : 0 < xs.length := by omega
  clear hv2 ha1 hab hx0' hx1' ha0 hxc hac e1
  go_enter Tryz.func199, Tryz.ntmps199
  go_wp2_with fail
  go_quiet (fail)
  go_wp2_with fail
  go_ret
  refine ⟨ret_bool ?_, hg0.drewN _⟩
  unfold satB
  rw [if_neg (by have := Hk.out; omega), if_pos Hk.out, HE.out.1, HE.out.2.1, HE.out.2.2]
  rfl
set_option maxHeartbeats 800000 in
theorem sps3_c (c : Con) (xs : List Int) (cv xv : Value) (w : World) (hv : ConV [] w cv c) (hx : Nums [] w .i64 xv xs) (hF : Fit c xs) (hk : c.kind = 3) :
    Calls Tryz.prog 199 #[cv, xv] w fun e w' => e = .returned (.bool (satB c xs)) ∧ Gr [] w w' := by
  obtain ⟨vv, av, rv, rfl, hvv, hav, hrv⟩ := hv
  have hx' := hx
  obtain ⟨xo, xc, rfl, _, _⟩ := hx
  have hg0 : Gr [] w (w.alloc (.cells #[.int .i64 c.kind, vv, av, .int .i64 c.bound, rv] 111)) := (Gr.refl _ _).alloc _
  have hb0 : (w.alloc (.cells #[.int .i64 c.kind, vv, av, .int .i64 c.bound, rv] 111)).heap[w.heap.size]? = some (.cells #[.int .i64 c.kind, vv, av, .int .i64 c.bound, rv] 111 (0, 0)) := heap_alloc_new _ _
  have Hx := hid (hx'.gr hg0); have Hav := hid (hav.gr hg0); have Hrv := hid (hrv.gr hg0)
  have Hcv : Hid (ConV [] (w.alloc (.cells #[.int .i64 c.kind, vv, av, .int .i64 c.bound, rv] 111)) (.agg #[.int .i64 c.kind, vv, av, .int .i64 c.bound, rv]) c) := hid (ConV.gr ⟨vv, av, rv, rfl, hvv, hav, hrv⟩ hg0)
  have hfit := hF.fits; have Hxl := hid hF.len; have h1 := hF.k1; have h4 := hF.k4; have hval := hF.val
  clear hF hx'
  have t1 : (c.kind == 1) = false := by rw [hk]; rfl
  have t2 : (c.kind == 2) = false := by rw [hk]; rfl
  have t3 : (c.kind == 3) = true := by rw [hk]; rfl
  have hfl := fld hb0
  have Hb0 := hid hb0; have Hval := hid hval; have Hfit := hid hfit; have Hk := hid hk
  clear hb0 hval hfit hk
  go_enter Tryz.func199, Tryz.ntmps199
  go_wp2_with fail
  refine (specDistinct_c xs _ _ Hx.out).mono ?_
  rintro e w1 ⟨rfl, hg1⟩
  go_wp2_with fail
  go_ret
  refine ⟨ret_bool ?_, hg0.trans hg1⟩
  unfold satB
  rw [if_neg (by have := Hk.out; omega), if_neg (by have := Hk.out; omega), if_pos Hk.out]
set_option maxHeartbeats 800000 in
theorem sps4_c (c : Con) (xs : List Int) (cv xv : Value) (w : World) (hv : ConV [] w cv c) (hx : Nums [] w .i64 xv xs) (hF : Fit c xs) (hk : c.kind = 4) :
    Calls Tryz.prog 199 #[cv, xv] w fun e w' => e = .returned (.bool (satB c xs)) ∧ Gr [] w w' := by
  obtain ⟨vv, av, rv, rfl, hvv, hav, hrv⟩ := hv
  have hx' := hx
  obtain ⟨xo, xc, rfl, _, _⟩ := hx
  have hg0 : Gr [] w (w.alloc (.cells #[.int .i64 c.kind, vv, av, .int .i64 c.bound, rv] 111)) := (Gr.refl _ _).alloc _
  have hb0 : (w.alloc (.cells #[.int .i64 c.kind, vv, av, .int .i64 c.bound, rv] 111)).heap[w.heap.size]? = some (.cells #[.int .i64 c.kind, vv, av, .int .i64 c.bound, rv] 111 (0, 0)) := heap_alloc_new _ _
  have Hx := hid (hx'.gr hg0); have Hav := hid (hav.gr hg0); have Hrv := hid (hrv.gr hg0)
  have Hcv : Hid (ConV [] (w.alloc (.cells #[.int .i64 c.kind, vv, av, .int .i64 c.bound, rv] 111)) (.agg #[.int .i64 c.kind, vv, av, .int .i64 c.bound, rv]) c) := hid (ConV.gr ⟨vv, av, rv, rfl, hvv, hav, hrv⟩ hg0)
  have hfit := hF.fits; have Hxl := hid hF.len; have h1 := hF.k1; have h4 := hF.k4; have hval := hF.val
  clear hF hx'
  have t1 : (c.kind == 1) = false := by rw [hk]; rfl
  have t2 : (c.kind == 2) = false := by rw [hk]; rfl
  have t3 : (c.kind == 3) = false := by rw [hk]; rfl
  have t4 : (c.kind == 4) = true := by rw [hk]; rfl
  have hfl := fld hb0
  have Hb0 := hid hb0; have Hval := hid hval; have Hfit := hid hfit; have Hk := hid hk
  clear hb0 hval hfit hk
  have hf := Hfit.out
  rw [fitsB_4 Hk.out] at hf
  simp only [Bool.and_eq_true, beq_iff_eq] at hf
  obtain ⟨⟨⟨⟨hv2, ha1⟩, hab⟩, q1⟩, q2⟩ := hf
  clear q1 q2
  obtain ⟨x0, hx0'⟩ := get_some (show 0 < xs.length by omega)
  obtain ⟨x1, hx1'⟩ := get_some (show 1 < xs.length by have := Hxl.out; omega)
  have hx0r := Hval.out x0 (List.mem_of_getElem? hx0')
  obtain ⟨x0, rfl⟩ := Int.eq_ofNat_of_zero_le hx0r.1
  obtain ⟨xo', xc', exv, ⟨hxc1, hxc2, _⟩, hxc⟩ := Hx.out
  obtain ⟨rfl, rfl⟩ : xo' = xo ∧ xc' = xc := by simpa [eq_comm] using exv
  clear exv
  obtain ⟨ao, ac, rfl, ⟨hac1, hac2, _⟩, hac⟩ := Hav.out
  obtain ⟨b, o, rfl, _, c0⟩ := hxc 0 _ hx0'
  obtain ⟨b', o', e1, _, c1⟩ := hxc 1 x1 hx1'
  obtain ⟨rfl, rfl⟩ : b' = b ∧ o' = o := by simpa [eq_comm] using e1
  rw [Nat.add_zero] at c0
  have HE : Hid (xs.getD 0 0 = x0 ∧ xs.getD 1 0 = x1) := hid ⟨by simp [hx0'], by simp [hx1']⟩
  have l1 : 1 < xs.length := by have := Hxl.out; omega
  have l3 : 0 < xs.length := by omega
  by_cases hlt : x0 < c.args.length
  · obtain ⟨a, ha⟩ := get_some hlt
    obtain ⟨b2, o2, rfl, _, c2⟩ := hac x0 a ha
    have HA : Hid (c.args.getD x0 0 = a) := hid (by simp [ha])
    have hd : decide ((x0 : Int) < (c.args.length : Int)) = true := by simpa using hlt
    clear hv2 ha1 hab hx0' hx1' hxc hac e1 ha
    go_enter Tryz.func199, Tryz.ntmps199
    go_wp2_with fail
    go_quiet (fail)
    go_wp2_with fail
    go_ret
    refine ⟨ret_bool ?_, hg0.drewN _⟩
    unfold satB
    rw [if_neg (by have := Hk.out; omega), if_neg (by have := Hk.out; omega), if_neg (by have := Hk.out; omega), if_pos Hk.out, HE.out.1, HE.out.2, hd, Int.toNat_natCast, HA.out]
    rfl
  · have hd : decide ((x0 : Int) < (c.args.length : Int)) = false := by simpa using hlt
    clear hv2 ha1 hab hx0' hx1' hxc hac e1
    go_enter Tryz.func199, Tryz.ntmps199
    go_wp2_with fail
    go_quiet (fail)
    go_wp2_with fail
    go_ret
    refine ⟨ret_bool ?_, hg0.drewN _⟩
    unfold satB
    rw [if_neg (by have := Hk.out; omega), if_neg (by have := Hk.out; omega), if_neg (by have := Hk.out; omega), if_pos Hk.out, HE.out.1, hd]
    rfl
set_option maxHeartbeats 800000 in
theorem sps5_c (c : Con) (xs : List Int) (cv xv : Value) (w : World) (hv : ConV [] w cv c) (hx : Nums [] w .i64 xv xs) (hF : Fit c xs) (hk : c.kind = 5) :
    Calls Tryz.prog 199 #[cv, xv] w fun e w' => e = .returned (.bool (satB c xs)) ∧ Gr [] w w' := by
  obtain ⟨vv, av, rv, rfl, hvv, hav, hrv⟩ := hv
  have hx' := hx
  obtain ⟨xo, xc, rfl, _, _⟩ := hx
  have hg0 : Gr [] w (w.alloc (.cells #[.int .i64 c.kind, vv, av, .int .i64 c.bound, rv] 111)) := (Gr.refl _ _).alloc _
  have hb0 : (w.alloc (.cells #[.int .i64 c.kind, vv, av, .int .i64 c.bound, rv] 111)).heap[w.heap.size]? = some (.cells #[.int .i64 c.kind, vv, av, .int .i64 c.bound, rv] 111 (0, 0)) := heap_alloc_new _ _
  have Hx := hid (hx'.gr hg0); have Hav := hid (hav.gr hg0); have Hrv := hid (hrv.gr hg0)
  have Hcv : Hid (ConV [] (w.alloc (.cells #[.int .i64 c.kind, vv, av, .int .i64 c.bound, rv] 111)) (.agg #[.int .i64 c.kind, vv, av, .int .i64 c.bound, rv]) c) := hid (ConV.gr ⟨vv, av, rv, rfl, hvv, hav, hrv⟩ hg0)
  have hfit := hF.fits; have Hxl := hid hF.len; have h1 := hF.k1; have h4 := hF.k4; have hval := hF.val
  clear hF hx'
  have t1 : (c.kind == 1) = false := by rw [hk]; rfl
  have t2 : (c.kind == 2) = false := by rw [hk]; rfl
  have t3 : (c.kind == 3) = false := by rw [hk]; rfl
  have t4 : (c.kind == 4) = false := by rw [hk]; rfl
  have t5 : (c.kind == 5) = true := by rw [hk]; rfl
  have hfl := fld hb0
  have Hb0 := hid hb0; have Hval := hid hval; have Hfit := hid hfit; have Hk := hid hk
  clear hb0 hval hfit hk
  have hf := Hfit.out
  rw [fitsB_5 Hk.out] at hf
  simp only [Bool.and_eq_true, beq_iff_eq] at hf
  have Hlen : Hid (∀ r ∈ c.rows, r.length = xs.length) := hid (by
    intro r hr
    obtain ⟨i, hi, rfl⟩ := List.mem_iff_getElem.1 hr
    have := (rowsIn_get hf.2 (List.getElem?_eq_getElem hi)).1
    have := Hxl.out
    omega)
  clear hf
  go_enter Tryz.func199, Tryz.ntmps199
  go_wp2_with fail
  refine (hasRow_c c.rows xs _ _ _ Hrv.out Hx.out Hlen.out).mono ?_
  rintro e w1 ⟨rfl, hg1⟩
  go_wp2_with fail
  go_ret
  refine ⟨ret_bool ?_, hg0.trans hg1⟩
  unfold satB
  rw [if_neg (by have := Hk.out; omega), if_neg (by have := Hk.out; omega), if_neg (by have := Hk.out; omega), if_neg (by have := Hk.out; omega), if_pos Hk.out]
set_option maxHeartbeats 800000 in
theorem sps6_c (c : Con) (xs : List Int) (cv xv : Value) (w : World) (hv : ConV [] w cv c) (hx : Nums [] w .i64 xv xs) (hF : Fit c xs) (hk : c.kind = 6) :
    Calls Tryz.prog 199 #[cv, xv] w fun e w' => e = .returned (.bool (satB c xs)) ∧ Gr [] w w' := by
  obtain ⟨vv, av, rv, rfl, hvv, hav, hrv⟩ := hv
  have hx' := hx
  obtain ⟨xo, xc, rfl, _, _⟩ := hx
  have hg0 : Gr [] w (w.alloc (.cells #[.int .i64 c.kind, vv, av, .int .i64 c.bound, rv] 111)) := (Gr.refl _ _).alloc _
  have hb0 : (w.alloc (.cells #[.int .i64 c.kind, vv, av, .int .i64 c.bound, rv] 111)).heap[w.heap.size]? = some (.cells #[.int .i64 c.kind, vv, av, .int .i64 c.bound, rv] 111 (0, 0)) := heap_alloc_new _ _
  have Hx := hid (hx'.gr hg0); have Hav := hid (hav.gr hg0); have Hrv := hid (hrv.gr hg0)
  have Hcv : Hid (ConV [] (w.alloc (.cells #[.int .i64 c.kind, vv, av, .int .i64 c.bound, rv] 111)) (.agg #[.int .i64 c.kind, vv, av, .int .i64 c.bound, rv]) c) := hid (ConV.gr ⟨vv, av, rv, rfl, hvv, hav, hrv⟩ hg0)
  have hfit := hF.fits; have Hxl := hid hF.len; have h1 := hF.k1; have h4 := hF.k4; have hval := hF.val
  clear hF hx'
  have t1 : (c.kind == 1) = false := by rw [hk]; rfl
  have t2 : (c.kind == 2) = false := by rw [hk]; rfl
  have t3 : (c.kind == 3) = false := by rw [hk]; rfl
  have t4 : (c.kind == 4) = false := by rw [hk]; rfl
  have t5 : (c.kind == 5) = false := by rw [hk]; rfl
  have t6 : (c.kind == 6) = true := by rw [hk]; rfl
  have hfl := fld hb0
  have Hb0 := hid hb0; have Hval := hid hval; have Hfit := hid hfit; have Hk := hid hk
  clear hb0 hval hfit hk
  have hf := Hfit.out
  rw [fitsB_6 Hk.out] at hf
  simp only [argsB, eqI, Bool.and_eq_true, beq_iff_eq] at hf
  obtain ⟨⟨⟨ha1, hab⟩, q1⟩, q2⟩ := hf
  clear q1 q2
  obtain ⟨a0, ha0⟩ := get_some (show 0 < c.args.length by omega)
  obtain ⟨xo', xc', exv, ⟨hxc1, hxc2, _⟩, hxc⟩ := Hx.out
  obtain ⟨rfl, rfl⟩ : xo' = xo ∧ xc' = xc := by simpa [eq_comm] using exv
  clear exv
  obtain ⟨ao, ac, rfl, ⟨hac1, hac2, _⟩, hac⟩ := Hav.out
  obtain ⟨b2, o2, rfl, _, c2⟩ := hac 0 a0 ha0
  rw [Nat.add_zero] at c2
  have HE : Hid (c.args.getD 0 0 = a0) := hid (by simp [ha0])
  have l2 : 0 < c.args.length := by omega
  have Hxc := hid hxc; have C2 := hid c2
  clear ha1 hab ha0 hxc hac c2
  go_enter Tryz.func199, Tryz.ntmps199
  go_wp2_with fail
  go_loopw [7, 8] (fun s i wr => ∃ (n k : Nat), n ≤ xs.length ∧ i = .int .i64 n ∧ s = .int .i64 k ∧ k ≤ n ∧ (k : Int) + countB a0 (xs.drop n) = countB a0 xs ∧ Gr [] (w.alloc (.cells #[.int .i64 c.kind, vv, .slice (some ⟨b2, o2, none⟩) c.args.length ac, .int .i64 c.bound, rv] 111)) wr) (fun _ i _ => xs.length - (intOf i).toNat)
  case atStart => exact ⟨0, 0, Nat.zero_le _, rfl, rfl, by omega, by simp, Gr.refl _ _⟩
  case round =>
    obtain ⟨n, k, hn, rfl, rfl, hkn, hR, hg⟩ := hrel
    have HR := hid hR; clear hR
    have hflr := fld (hg.obj Hb0.out (by simp))
    have c2 := hg.cell C2.out (by simp)
    by_cases hlt : n < xs.length
    · obtain ⟨x, hx⟩ := get_some hlt
      obtain ⟨b, o, rfl, _, c0⟩ := (Hxc.out.gr hg) n x hx
      have HX := hid (drop_cons hx); clear hx
      cases hb : (x == a0)
      · have hne : x ≠ a0 := by simpa using hb
        have Hne := hid hne; clear hne
        go_wp2_with fail
        go_quiet (fail)
        go_wp2_with fail
        refine ⟨⟨n + 1, k, by omega, by go_num, rfl, by omega, ?_, hg.drewN _⟩, by simp [intOf]; omega⟩
        rw [← HR.out, HX.out, countB, if_neg Hne.out]; omega
      · have heq : x = a0 := by simpa using hb
        have Heq := hid heq; clear heq
        go_wp2_with fail
        go_quiet (fail)
        go_wp2_with fail
        refine ⟨⟨n + 1, k + 1, by omega, by go_num, by go_num, by omega, ?_, hg.drewN _⟩, by simp [intOf]; omega⟩
        rw [← HR.out, HX.out, countB, if_pos Heq.out]; omega
    · have hk' : (k : Int) = countB a0 xs := by
        have := HR.out; rw [drop_end (by omega)] at this; simpa [countB] using this
      have HK := hid hk'; clear hk'
      go_wp2_with fail
      go_ret
      refine ⟨ret_bool ?_, hg0.trans hg⟩
      unfold satB
      rw [if_neg (by have := Hk.out; omega), if_neg (by have := Hk.out; omega), if_neg (by have := Hk.out; omega), if_neg (by have := Hk.out; omega), if_neg (by have := Hk.out; omega), if_pos Hk.out, HE.out, ← HK.out]
set_option maxHeartbeats 800000 in
theorem sps7_c (c : Con) (xs : List Int) (cv xv : Value) (w : World) (hv : ConV [] w cv c) (hx : Nums [] w .i64 xv xs) (hF : Fit c xs) (hk : c.kind = 7) :
    Calls Tryz.prog 199 #[cv, xv] w fun e w' => e = .returned (.bool (satB c xs)) ∧ Gr [] w w' := by
  obtain ⟨vv, av, rv, rfl, hvv, hav, hrv⟩ := hv
  have hx' := hx
  obtain ⟨xo, xc, rfl, _, _⟩ := hx
  have hg0 : Gr [] w (w.alloc (.cells #[.int .i64 c.kind, vv, av, .int .i64 c.bound, rv] 111)) := (Gr.refl _ _).alloc _
  have hb0 : (w.alloc (.cells #[.int .i64 c.kind, vv, av, .int .i64 c.bound, rv] 111)).heap[w.heap.size]? = some (.cells #[.int .i64 c.kind, vv, av, .int .i64 c.bound, rv] 111 (0, 0)) := heap_alloc_new _ _
  have Hx := hid (hx'.gr hg0); have Hav := hid (hav.gr hg0); have Hrv := hid (hrv.gr hg0)
  have Hcv : Hid (ConV [] (w.alloc (.cells #[.int .i64 c.kind, vv, av, .int .i64 c.bound, rv] 111)) (.agg #[.int .i64 c.kind, vv, av, .int .i64 c.bound, rv]) c) := hid (ConV.gr ⟨vv, av, rv, rfl, hvv, hav, hrv⟩ hg0)
  have hfit := hF.fits; have Hxl := hid hF.len; have h1 := hF.k1; have h4 := hF.k4; have hval := hF.val
  clear hF hx'
  have t1 : (c.kind == 1) = false := by rw [hk]; rfl
  have t2 : (c.kind == 2) = false := by rw [hk]; rfl
  have t3 : (c.kind == 3) = false := by rw [hk]; rfl
  have t4 : (c.kind == 4) = false := by rw [hk]; rfl
  have t5 : (c.kind == 5) = false := by rw [hk]; rfl
  have t6 : (c.kind == 6) = false := by rw [hk]; rfl
  have t7 : (c.kind == 7) = true := by rw [hk]; rfl
  have hfl := fld hb0
  have Hb0 := hid hb0; have Hval := hid hval; have Hfit := hid hfit; have Hk := hid hk
  clear hb0 hval hfit hk
  have hf := Hfit.out
  rw [fitsB_7 Hk.out] at hf
  simp only [argsB, eqI, Bool.and_eq_true, beq_iff_eq] at hf
  obtain ⟨⟨⟨ha1, hab⟩, q1⟩, q2⟩ := hf
  clear q1 q2
  have Hal : Hid (c.args.length = 2 * xs.length) := hid (by have := Hxl.out; omega)
  have Hab := hid (allB_iff.1 hab)
  clear ha1 hab
  go_enter Tryz.func199, Tryz.ntmps199
  go_wp2_with fail
  refine (withinCapacity_c c xs _ _ _ Hcv.out Hx.out Hval.out Hal.out h4 Hab.out).mono ?_
  rintro e w1 ⟨rfl, hg1⟩
  go_wp2_with fail
  go_ret
  refine ⟨ret_bool ?_, hg0.trans hg1⟩
  unfold satB
  rw [if_neg (by have := Hk.out; omega), if_neg (by have := Hk.out; omega), if_neg (by have := Hk.out; omega), if_neg (by have := Hk.out; omega), if_neg (by have := Hk.out; omega), if_neg (by have := Hk.out; omega), if_pos Hk.out]
set_option maxHeartbeats 800000 in
theorem sps8_c (c : Con) (xs : List Int) (cv xv : Value) (w : World) (hv : ConV [] w cv c) (hx : Nums [] w .i64 xv xs) (hF : Fit c xs) (hk : c.kind = 8) :
    Calls Tryz.prog 199 #[cv, xv] w fun e w' => e = .returned (.bool (satB c xs)) ∧ Gr [] w w' := by
  obtain ⟨vv, av, rv, rfl, hvv, hav, hrv⟩ := hv
  have hx' := hx
  obtain ⟨xo, xc, rfl, _, _⟩ := hx
  have hg0 : Gr [] w (w.alloc (.cells #[.int .i64 c.kind, vv, av, .int .i64 c.bound, rv] 111)) := (Gr.refl _ _).alloc _
  have hb0 : (w.alloc (.cells #[.int .i64 c.kind, vv, av, .int .i64 c.bound, rv] 111)).heap[w.heap.size]? = some (.cells #[.int .i64 c.kind, vv, av, .int .i64 c.bound, rv] 111 (0, 0)) := heap_alloc_new _ _
  have Hx := hid (hx'.gr hg0); have Hav := hid (hav.gr hg0); have Hrv := hid (hrv.gr hg0)
  have Hcv : Hid (ConV [] (w.alloc (.cells #[.int .i64 c.kind, vv, av, .int .i64 c.bound, rv] 111)) (.agg #[.int .i64 c.kind, vv, av, .int .i64 c.bound, rv]) c) := hid (ConV.gr ⟨vv, av, rv, rfl, hvv, hav, hrv⟩ hg0)
  have hfit := hF.fits; have Hxl := hid hF.len; have h1 := hF.k1; have h4 := hF.k4; have hval := hF.val
  clear hF hx'
  have t1 : (c.kind == 1) = false := by rw [hk]; rfl
  have t2 : (c.kind == 2) = false := by rw [hk]; rfl
  have t3 : (c.kind == 3) = false := by rw [hk]; rfl
  have t4 : (c.kind == 4) = false := by rw [hk]; rfl
  have t5 : (c.kind == 5) = false := by rw [hk]; rfl
  have t6 : (c.kind == 6) = false := by rw [hk]; rfl
  have t7 : (c.kind == 7) = false := by rw [hk]; rfl
  have t8 : (c.kind == 8) = true := by rw [hk]; rfl
  have hfl := fld hb0
  have Hb0 := hid hb0; have Hval := hid hval; have Hfit := hid hfit; have Hk := hid hk
  clear hb0 hval hfit hk
  have hf := Hfit.out
  rw [fitsB_8 Hk.out] at hf
  simp only [Bool.and_eq_true] at hf
  have Hrows := hid hf.1.1.1
  clear hf
  go_enter Tryz.func199, Tryz.ntmps199
  go_wp2_with fail
  refine (specAccepts_c c xs _ _ _ Hcv.out Hx.out Hval.out Hrows.out).mono ?_
  rintro e w1 ⟨rfl, hg1⟩
  go_wp2_with fail
  go_ret
  refine ⟨ret_bool ?_, hg0.trans hg1⟩
  unfold satB
  rw [if_neg (by have := Hk.out; omega), if_neg (by have := Hk.out; omega), if_neg (by have := Hk.out; omega), if_neg (by have := Hk.out; omega), if_neg (by have := Hk.out; omega), if_neg (by have := Hk.out; omega), if_neg (by have := Hk.out; omega), if_pos Hk.out]
set_option maxHeartbeats 800000 in
theorem sps9_c (c : Con) (xs : List Int) (cv xv : Value) (w : World) (hv : ConV [] w cv c) (hx : Nums [] w .i64 xv xs) (hF : Fit c xs) (hk : c.kind = 9) :
    Calls Tryz.prog 199 #[cv, xv] w fun e w' => e = .returned (.bool (satB c xs)) ∧ Gr [] w w' := by
  obtain ⟨vv, av, rv, rfl, hvv, hav, hrv⟩ := hv
  have hx' := hx
  obtain ⟨xo, xc, rfl, _, _⟩ := hx
  have hg0 : Gr [] w (w.alloc (.cells #[.int .i64 c.kind, vv, av, .int .i64 c.bound, rv] 111)) := (Gr.refl _ _).alloc _
  have hb0 : (w.alloc (.cells #[.int .i64 c.kind, vv, av, .int .i64 c.bound, rv] 111)).heap[w.heap.size]? = some (.cells #[.int .i64 c.kind, vv, av, .int .i64 c.bound, rv] 111 (0, 0)) := heap_alloc_new _ _
  have Hx := hid (hx'.gr hg0); have Hav := hid (hav.gr hg0); have Hrv := hid (hrv.gr hg0)
  have Hcv : Hid (ConV [] (w.alloc (.cells #[.int .i64 c.kind, vv, av, .int .i64 c.bound, rv] 111)) (.agg #[.int .i64 c.kind, vv, av, .int .i64 c.bound, rv]) c) := hid (ConV.gr ⟨vv, av, rv, rfl, hvv, hav, hrv⟩ hg0)
  have hfit := hF.fits; have Hxl := hid hF.len; have h1 := hF.k1; have h4 := hF.k4; have hval := hF.val
  clear hF hx'
  have t1 : (c.kind == 1) = false := by rw [hk]; rfl
  have t2 : (c.kind == 2) = false := by rw [hk]; rfl
  have t3 : (c.kind == 3) = false := by rw [hk]; rfl
  have t4 : (c.kind == 4) = false := by rw [hk]; rfl
  have t5 : (c.kind == 5) = false := by rw [hk]; rfl
  have t6 : (c.kind == 6) = false := by rw [hk]; rfl
  have t7 : (c.kind == 7) = false := by rw [hk]; rfl
  have t8 : (c.kind == 8) = false := by rw [hk]; rfl
  have hfl := fld hb0
  have Hb0 := hid hb0; have Hval := hid hval; have Hfit := hid hfit; have Hk := hid hk
  clear hb0 hval hfit hk
  go_enter Tryz.func199, Tryz.ntmps199
  go_wp2_with fail
  refine (isCircuit_c xs _ _ Hx.out ⟨h1, h4⟩ Hval.out).mono ?_
  rintro e w1 ⟨rfl, hg1⟩
  go_wp2_with fail
  go_ret
  refine ⟨ret_bool ?_, hg0.trans hg1⟩
  unfold satB
  rw [if_neg (by have := Hk.out; omega), if_neg (by have := Hk.out; omega), if_neg (by have := Hk.out; omega), if_neg (by have := Hk.out; omega), if_neg (by have := Hk.out; omega), if_neg (by have := Hk.out; omega), if_neg (by have := Hk.out; omega), if_neg (by have := Hk.out; omega)]
theorem satisfies_c (c : Con) (xs : List Int) (cv xv : Value) (w : World) (hv : ConV [] w cv c) (hx : Nums [] w .i64 xv xs) (hF : Fit c xs) :
    Calls Tryz.prog 199 #[cv, xv] w fun e w' => e = .returned (.bool (satB c xs)) ∧ Gr [] w w' := by
  by_cases h0 : 1 ≤ c.kind ∧ c.kind ≤ 9
  · have : c.kind = 1 ∨ c.kind = 2 ∨ c.kind = 3 ∨ c.kind = 4 ∨ c.kind = 5 ∨ c.kind = 6 ∨ c.kind = 7 ∨ c.kind = 8 ∨ c.kind = 9 := by omega
    rcases this with h | h | h | h | h | h | h | h | h
    · exact sps1_c c xs cv xv w hv hx hF h
    · exact sps2_c c xs cv xv w hv hx hF h
    · exact sps3_c c xs cv xv w hv hx hF h
    · exact sps4_c c xs cv xv w hv hx hF h
    · exact sps5_c c xs cv xv w hv hx hF h
    · exact sps6_c c xs cv xv w hv hx hF h
    · exact sps7_c c xs cv xv w hv hx hF h
    · exact sps8_c c xs cv xv w hv hx hF h
    · exact sps9_c c xs cv xv w hv hx hF h
  · have := hF.fits
    rw [fitsB_0 h0] at this
    cases this
end Go.Proofs.YtpfelbbmgbfkeaaGreat
