/-
  Walk of FnParetoFront.
-/
import Derived.Test.YtjmjjdgbkibdaaaGreatLPS
import Derived.Test.YtjmjjdgbkibdaaaGreatG14
import Derived.Test.YtjmjjdgbkibdaaaGreatSl
import Derived.Test.YtjmjjdgbkibdaaaGreatIsB
import Derived.Test.YtjmjjdgbkibdaaaGreatPf
set_option linter.unusedVariables false
set_option linter.unusedSimpArgs false
namespace Go.Proofs.YtjmjjdgbkibdaaaGreat
open Go.RowKit


set_option maxRecDepth 100000 in
set_option maxHeartbeats 8000000 in
theorem FnParetoFront_c (code : Value) (bs : List Int) (ao : Option Addr) (cap : Nat) (w : World) (hv : code = .slice ao bs.length cap) (hlen : bs.length ≤ 9223372036854775807) (hcap : bs.length ≤ cap) (hc : Cells [] w .u8 ao bs) (hb : ∀ b ∈ bs, 0 ≤ b ∧ b ≤ 255) :
    Calls Tryz.prog 9 #[code] w (fun e w' => e = .returned (.bool true) ∧ Gr [] w w') := by
  subst hv
  have Hc := hid hc; have Hb := hid hb; clear hc hb
  by_cases hbig : 1048576 < bs.length
  · go_enter Tryz.func9, Tryz.ntmps9
    go_wp2_with fail
    go_ret
    exact ⟨rfl, Gr.refl _ _⟩
  have hbig' : decide ((1048576 : Int) < (bs.length : Int)) = false := by simp; omega
  go_enter Tryz.func9, Tryz.ntmps9
  go_wp2_with fail
  have hcall := DrawParetoFront_c _ bs w ao cap rfl hlen hcap Hc.out Hb.out
  (with_reducible refine hcall.mono ?_)
  clear hcall
  rintro e w1 ⟨m, mv, av, bv, a, b, rfl, hmv, hms, ⟨hd1, hd4⟩, hA, hB, ⟨hA5, -⟩, ⟨hB5, -⟩, hg1⟩
  obtain ⟨xo, xc, co, cc, rfl⟩ := hmv.slices
  have ha2 : Gr [] w1 (w1.alloc (.cells #[.slice xo m.doms.length xc, .slice co m.cons.length cc] 31)) := (Gr.refl _ _).alloc _
  have hb2 : (w1.alloc (.cells #[.slice xo m.doms.length xc, .slice co m.cons.length cc] 31)).heap[w1.heap.size]? = some (.cells #[.slice xo m.doms.length xc, .slice co m.cons.length cc] 31 (0, 0)) := heap_alloc_new _ _
  have HG2 := hid (hg1.trans ha2); have Hmv2 := hid (hmv.gr ha2); have Hms := hid hms; have Hb2 := hid hb2
  have HA2 := hid (hA.gr ha2); have HB2 := hid (hB.gr ha2)
  obtain ⟨ao', ac, rfl, ⟨hA1, hA2, -⟩, -⟩ := hA
  obtain ⟨bo, bc, rfl, ⟨hB1, hB2, -⟩, -⟩ := hB
  clear hmv hms ha2 hb2 hg1 hbig
  obtain ⟨D, hD⟩ := openVM m
  have HD := hid hD; clear hD
  go_wp2_with fail
  have hcall := ParetoFront_c m a b _ _ _ _ Hmv2.out HA2.out HB2.out D HD.out
  (with_reducible refine hcall.mono ?_)
  clear hcall
  obtain ⟨zs, hzs⟩ : ∃ zs, zs = frontO m D a b := ⟨_, rfl⟩
  rw [← hzs]
  have Hzs := hid hzs; clear hzs
  rintro e w3 ⟨v3, rfl, he3, hg3⟩
  have hr3 := he3.rows (S := []) (by simp)
  have Hr3 := hid hr3
  obtain ⟨zo, zc, rfl, ⟨hz1, hz2, -⟩, -⟩ := hr3
  have fl3 := fld (hg3.obj Hb2.out (by simp))
  have HG3 := hid hg3
  clear hg3 he3
  go_wp2_with fail
  have hcall := specParetoFront_c m a b _ _ _ _ (Hmv2.out.gr HG3.out) (HA2.out.gr HG3.out) (HB2.out.gr HG3.out) Hms.out D HD.out
  (with_reducible refine hcall.mono ?_)
  clear hcall
  rw [← Hzs.out]
  rintro e w4 ⟨v4, rfl, hr4, hg4⟩
  have Hr4 := hid hr4; have Hg4 := hid hg4
  clear hr4 hg4
  go_wp2_with fail
  have hcall := equalLists_t zs _ _ _ (Hr3.out.gr Hg4.out) Hr4.out
  (with_reducible refine hcall.mono ?_)
  clear hcall
  rintro e w5 ⟨rfl, hg5⟩
  have HG5 := hid (HG3.out.trans (Hg4.out.trans hg5)); have Hr5 := hid (Hr3.out.gr (Hg4.out.trans hg5))
  have fl5 := fld (HG5.out.obj Hb2.out (by simp))
  clear hg5 fl3
  by_cases hz0 : zs.length = 0
  · have q1 : (((zs.length : Nat) : Int) == 0) = true := beq_iff_eq.2 (by omega)
    have q2 : (zs.length == 0) = true := beq_iff_eq.2 hz0
    clear hz0
    go_wp2_with fail
    have hcall := specParetoFront_c m a b _ _ _ _ (Hmv2.out.gr HG5.out) (HA2.out.gr HG5.out) (HB2.out.gr HG5.out) Hms.out D HD.out
    (with_reducible refine hcall.mono ?_)
    clear hcall
    rw [← Hzs.out]
    rintro e w6 ⟨v6, rfl, hr6, hg6⟩
    have Hr6 := hid hr6; have Hg6 := hid hg6
    clear hr6 hg6
    go_wp2_with fail
    have hcall := equalLists_t zs _ _ _ (Hr5.out.gr Hg6.out) Hr6.out
    (with_reducible refine hcall.mono ?_)
    clear hcall
    rintro e w7 ⟨rfl, hg7⟩
    go_wp2_with fail
    go_ret
    exact ⟨rfl, ((HG2.out.trans HG5.out).trans Hg6.out).trans hg7⟩
  have q1 : (((zs.length : Nat) : Int) == 0) = false := beq_eq_false_iff_ne.2 (by omega)
  have q2 : (zs.length == 0) = false := beq_eq_false_iff_ne.2 hz0
  have hin : (validM m && (objB a m.doms.length && objB b m.doms.length)) = true := by
    cases h : (validM m && (objB a m.doms.length && objB b m.doms.length))
    · exfalso; apply hz0; rw [Hzs.out, frontO_no h]; rfl
    · rfl
  obtain ⟨ss, hss⟩ : ∃ ss, ss = sols m.cons D := ⟨_, rfl⟩
  have Hss := hid hss
  have Hzf : Hid (zs = frontL (dot a) (dot b) ss ss.length) := hid (by rw [Hzs.out, frontO_yes hin, hss])
  rw [Bool.and_eq_true, Bool.and_eq_true] at hin
  obtain ⟨hval, hoa, hob⟩ := hin
  have HVM := hid (HD.out hval); have Hval := hid hval; have Hoa := hid hoa
  have HDL : Hid (m.doms.length = D.length) := hid (by rw [HVM.out.doms, ints_len])
  have HOA := hid (obj_len hoa); have HOB := hid (obj_len hob)
  have HOV : Hid (∀ o x, objB o m.doms.length = true → x ∈ ss → objVal o x = dot o x ∧ -4000000 ≤ dot o x ∧ dot o x ≤ 4000000) := hid (fun o x ho hx => by
    rw [hss] at hx
    have h1 := solv hx
    have h2 := obj_len ho
    have h3 := HVM.out.len.2
    have h4 : objVal o x = dot o x := by
      unfold objVal
      rw [if_pos ⟨by have := HDL.out; omega, by have := HDL.out; omega, allB_iff.2 h2.2, allB_iff.2 h1.2⟩]
    have h5 := objVal_bd o x
    exact ⟨h4, by omega, by omega⟩)
  have Hob := hid hob
  have Hzm : Hid (∀ x ∈ zs, x ∈ ss) := hid (fun x hx => by rw [Hzf.out] at hx; exact mem_frontL hx)
  have Hb5 := hid (HG5.out.obj Hb2.out (by simp))
  have HA5 := hid (HA2.out.gr HG5.out); have HB5 := hid (HB2.out.gr HG5.out)
  have Hzl : Hid (zs.length ≤ 1296) := hid (by rw [Hzf.out]; exact Nat.le_trans (frontL_len _ _ _ _) (by rw [hss]; exact sols_length _ _ HVM.out.len.2))
  have hzl := Hzl.out
  -- what ObjectiveValue answers, in whatever world
  have HCA : Hid (∀ W x xv, Gr [] w5 W → x ∈ ss → Nums [] W .i64 xv x → Calls Tryz.prog 41 #[.slice ao' a.length ac, xv] W fun e W' => e = .returned (.int .i64 (dot a x)) ∧ Gr [] W W') := hid (fun W x xv hg hx hn => by
    have h := ObjectiveValue_c a x _ xv W (HA5.out.gr hg) hn
    rwa [(HOV.out a x Hoa.out hx).1] at h)
  have HCB : Hid (∀ W x xv, Gr [] w5 W → x ∈ ss → Nums [] W .i64 xv x → Calls Tryz.prog 41 #[.slice bo b.length bc, xv] W fun e W' => e = .returned (.int .i64 (dot b x)) ∧ Gr [] W W') := hid (fun W x xv hg hx hn => by
    have h := ObjectiveValue_c b x _ xv W (HB5.out.gr hg) hn
    rwa [(HOV.out b x Hob.out hx).1] at h)
  clear hval hoa hob hss
  go_wp2_with fail
  go_loopw [7] (fun i' wr => ∃ n : Nat, n ≤ zs.length ∧ i' = .int .i64 n ∧ Gr [] w5 wr) (fun i' _ => zs.length - (intOf i').toNat)
  case atStart => exact ⟨0, Nat.zero_le _, rfl, Gr.refl _ _⟩
  case round =>
    obtain ⟨n, hn, rfl, hg⟩ := hrel
    have Hg := hid hg; clear hg
    by_cases hlt : n < zs.length
    · obtain ⟨x, hx⟩ := get_some hlt
      have hxs := Hzm.out x (List.mem_of_getElem? hx)
      obtain ⟨b1, o1, u1, e1, hc1, hn1⟩ := (Hr5.out.gr Hg.out).at0 hx
      subst e1
      have Hx := hid hx; have Hxs := hid hxs; have Hc1 := hid hc1; have Hn1 := hid hn1
      obtain ⟨P2, hP2⟩ : ∃ P2, P2 = dot a x := ⟨_, rfl⟩
      obtain ⟨Q2, hQ2⟩ : ∃ Q2, Q2 = dot b x := ⟨_, rfl⟩
      have hP2b : -4000000 ≤ P2 ∧ P2 ≤ 4000000 := by rw [hP2]; exact (HOV.out a x Hoa.out hxs).2
      have hQ2b : -4000000 ≤ Q2 ∧ Q2 ≤ 4000000 := by rw [hQ2]; exact (HOV.out b x Hob.out hxs).2
      have HP2 := hid hP2; have HQ2 := hid hQ2
      clear hx hxs hc1 hn1 hP2 hQ2 fl5
      go_wp2_with fail
      go_loopw [8] (fun i' wt => ∃ k : Nat, k ≤ zs.length ∧ i' = .int .i64 k ∧ Gr [] wr wt) (fun i' _ => zs.length - (intOf i').toNat)
      case atStart => exact ⟨0, Nat.zero_le _, rfl, Gr.refl _ _⟩
      case round =>
        obtain ⟨k, hk, rfl, hgt⟩ := hrel
        have Hgt := hid hgt; clear hgt
        obtain ⟨wt, rfl⟩ : ∃ wt, wt = wr := ⟨_, rfl⟩
        by_cases hkl : k < zs.length
        · obtain ⟨y, hy⟩ := get_some hkl
          have hys := Hzm.out y (List.mem_of_getElem? hy)
          obtain ⟨b2, o2, u2, e2, hc2, hn2⟩ := (Hr5.out.gr (Hg.out.trans Hgt.out)).at0 hy
          obtain ⟨rfl, rfl⟩ : b2 = b1 ∧ o2 = o1 := by simpa [eq_comm] using e2
          obtain ⟨P1, hP1⟩ : ∃ P1, P1 = dot a y := ⟨_, rfl⟩
          obtain ⟨Q1, hQ1⟩ : ∃ Q1, Q1 = dot b y := ⟨_, rfl⟩
          have hP1b : -4000000 ≤ P1 ∧ P1 ≤ 4000000 := by rw [hP1]; exact (HOV.out a y Hoa.out hys).2
          have hQ1b : -4000000 ≤ Q1 ∧ Q1 ≤ 4000000 := by rw [hQ1]; exact (HOV.out b y Hob.out hys).2
          have HNO : Hid (k ≠ n → ¬ (P1 ≤ P2 ∧ Q1 ≤ Q2)) := hid (fun hne => by
            have h1 := Hx.out
            rw [Hzf.out] at h1 hy
            have := front_no h1 hy hne
            rwa [← hP1, ← hQ1, ← HP2.out, ← HQ2.out] at this)
          have HGt := hid (Hg.out.trans Hgt.out)
          have hm1 : ∀ c : GrW [] wt, c.val.cell? ⟨b2, o2 + k, none⟩ = some u2 := fun c => c.gr.cell hc2 (by simp)
          have hm2 : ∀ c : GrW [] wt, c.val.cell? ⟨b2, o2 + n, none⟩ = some u1 := fun c => c.gr.cell (Hgt.out.cell Hc1.out (by simp)) (by simp)
          have V1 : Hid (∀ c : GrW [] wt, Calls Tryz.prog 41 #[.slice ao' a.length ac, u2] c.val fun e w' => e = .returned (.int .i64 P1) ∧ Gr [] c.val w') := hid fun c => by rw [hP1]; exact HCA.out _ y _ (HGt.out.trans c.gr) hys (hn2.gr c.gr)
          have V2 : Hid (∀ c : GrW [] wt, Calls Tryz.prog 41 #[.slice ao' a.length ac, u1] c.val fun e w' => e = .returned (.int .i64 P2) ∧ Gr [] c.val w') := hid fun c => by rw [HP2.out]; exact HCA.out _ x _ (HGt.out.trans c.gr) Hxs.out ((Hn1.out.gr Hgt.out).gr c.gr)
          have V3 : Hid (∀ c : GrW [] wt, Calls Tryz.prog 41 #[.slice bo b.length bc, u2] c.val fun e w' => e = .returned (.int .i64 Q1) ∧ Gr [] c.val w') := hid fun c => by rw [hQ1]; exact HCB.out _ y _ (HGt.out.trans c.gr) hys (hn2.gr c.gr)
          have V4 : Hid (∀ c : GrW [] wt, Calls Tryz.prog 41 #[.slice bo b.length bc, u1] c.val fun e w' => e = .returned (.int .i64 Q2) ∧ Gr [] c.val w') := hid fun c => by rw [HQ2.out]; exact HCB.out _ x _ (HGt.out.trans c.gr) Hxs.out ((Hn1.out.gr Hgt.out).gr c.gr)
          clear hy hys hc2 hn2 e2 hP1 hQ1
          go_wp2_with fail
          refine wp_region_gr [] _ (by kernel_rfl) (by kernel_rfl) (Gr.refl _ _) ?_
          repeat (go_big_quiet_step ((first | (go_at_call 41; with_reducible exact Calls.gr_of (V1.out _)) | (go_at_call 41; with_reducible exact Calls.gr_of (V2.out _)))))
          refine wpQuiet_nil ?_
          rintro w7 ⟨n7, hw7⟩
          have hg7 : Gr [] wt w7 := hw7 ▸ n7.gr
          have Hg7 := hid hg7
          clear hw7 n7 hg7
          go_wp2_with fail
          refine wp_region_gr [] _ (by kernel_rfl) (by kernel_rfl) Hg7.out ?_
          repeat (go_big_quiet_step ((first | (go_at_call 41; with_reducible exact Calls.gr_of (V3.out _)) | (go_at_call 41; with_reducible exact Calls.gr_of (V4.out _)))))
          refine wpQuiet_nil ?_
          rintro w8 ⟨n8, hw8⟩
          have hg8 : Gr [] wt w8 := hw8 ▸ n8.gr
          have Hg8 := hid hg8
          clear hw8 n8 hg8 hm1 hm2
          by_cases hkn : k = n
          · subst hkn
            have t1 : ((k : Int) != (k : Int)) = false := by simp
            have t2 : (k != k) = false := by simp
            go_wp2_with fail
            exact ⟨⟨k + 1, by omega, by go_num, Hgt.out.trans Hg8.out⟩, by simp [intOf]; omega⟩
          · have hno := HNO.out hkn
            have t1 : ((k : Int) == (n : Int)) = false := beq_eq_false_iff_ne.2 (by omega)
            have t2 : (k == n) = false := beq_eq_false_iff_ne.2 hkn
            have t3 : ((k : Int) != (n : Int)) = true := by rw [bne, t1]; rfl
            have t4 : (k != n) = true := by rw [bne, t2]; rfl
            by_cases h1 : P1 - P2 ≤ 0
            · have d1 : decide (P1 - P2 ≤ 0) = true := decide_eq_true h1
              have d2 : decide (Q1 - Q2 ≤ 0) = false := decide_eq_false (by omega)
              have d3 : decide (P1 ≤ P2) = true := decide_eq_true (by omega)
              have d4 : decide (Q1 ≤ Q2) = false := decide_eq_false (by omega)
              clear hno hkn h1
              go_wp2_with fail
              exact ⟨⟨k + 1, by omega, by go_num, Hgt.out.trans Hg8.out⟩, by simp [intOf]; omega⟩
            · have d1 : decide (P1 - P2 ≤ 0) = false := decide_eq_false h1
              have d3 : decide (P1 ≤ P2) = false := decide_eq_false (by omega)
              clear hno hkn h1
              go_wp2_with fail
              exact ⟨⟨k + 1, by omega, by go_num, Hgt.out.trans Hg8.out⟩, by simp [intOf]; omega⟩
        · have hkz : k = zs.length := by omega
          subst hkz
          have HGt := hid (Hg.out.trans Hgt.out)
          have hm0 : ∀ c : GrW [] wt, ∀ i, c.val.cell? ⟨w1.heap.size, i, none⟩ = (#[.slice xo m.doms.length xc, .slice co m.cons.length cc] : Array Value)[i]? := fun c => fld (c.gr.obj (HGt.out.obj Hb5.out (by simp)) (by simp))
          have hm1 : ∀ c : GrW [] wt, c.val.cell? ⟨b1, o1 + n, none⟩ = some u1 := fun c => c.gr.cell (Hgt.out.cell Hc1.out (by simp)) (by simp)
          have V1 : Hid (∀ c : GrW [] wt, Calls Tryz.prog 47 #[.agg #[.slice xo m.doms.length xc, .slice co m.cons.length cc], u1] c.val fun e w' => e = .returned (.bool true) ∧ Gr [] c.val w') := hid fun c =>
            IsSolution_t m D x _ _ _ ((Hmv2.out.gr HG5.out).gr (HGt.out.trans c.gr)) HVM.out ((Hn1.out.gr Hgt.out).gr c.gr) (by rw [← Hss.out]; exact Hxs.out)
          rcases Nat.eq_zero_or_pos n with hn0 | hn0
          · subst hn0
            have hm2 : ∀ c : GrW [] wt, c.val.cell? ⟨b1, o1, none⟩ = some u1 := fun c => by have := hm1 c; rwa [Nat.add_zero] at this
            go_wp2_with fail
            refine wp_region_gr [] _ (by kernel_rfl) (by kernel_rfl) (Gr.refl _ _) ?_
            repeat (go_big_quiet_step ((go_at_call 47; with_reducible exact Calls.gr_of (V1.out _))))
            refine wpQuiet_nil ?_
            rintro w7 ⟨n7, hw7⟩
            have hg7 : Gr [] wt w7 := hw7 ▸ n7.gr
            clear hw7 n7 hm0 hm1 hm2
            go_wp2_with fail
            exact ⟨⟨0 + 1, by omega, by go_num, HGt.out.trans hg7⟩, by simp [intOf]; omega⟩
          · obtain ⟨p, rfl⟩ : ∃ p, n = p + 1 := ⟨n - 1, by omega⟩
            obtain ⟨x0, hx0⟩ := get_some (xs := zs) (k := p) (by omega)
            obtain ⟨b2, o2, u2, e2, hc2, hn2⟩ := (Hr5.out.gr HGt.out).at0 hx0
            obtain ⟨rfl, rfl⟩ : b2 = b1 ∧ o2 = o1 := by simpa [eq_comm] using e2
            have hx0s := Hzm.out x0 (List.mem_of_getElem? hx0)
            have hlx : lexB x0 x = true := by
              have hp := frontL_sorted (a := dot a) (b := dot b) (zs := ss) (by rw [Hss.out]; exact sols_sorted _ _)
              rw [← Hzf.out] at hp
              have hxe := Hx.out
              obtain ⟨h1, h2⟩ := List.getElem?_eq_some_iff.1 hx0
              obtain ⟨h3, h4⟩ := List.getElem?_eq_some_iff.1 hxe
              have := List.pairwise_iff_getElem.1 hp p (p + 1) h1 h3 (by omega)
              rw [h2, h4] at this
              exact this
            have hll : x0.length = x.length := by
              have h1 := Hxs.out
              rw [Hss.out] at h1 hx0s
              rw [(solv hx0s).1, (solv h1).1]
            have Hlx := hid hlx; have Hll := hid hll; have Hn2 := hid hn2
            have hm3 : ∀ c : GrW [] wt, c.val.cell? ⟨b2, o2 + p, none⟩ = some u2 := fun c => c.gr.cell hc2 (by simp)
            have hpl : p < zs.length := by omega
            have V2 : Hid (∀ c : GrW [] wt, Calls Tryz.prog 48 #[u2, u1] c.val fun e w' => e = .returned (.bool true) ∧ Gr [] c.val w') := hid fun c => by
              have h := lexLess_c x0 x _ _ c.val (Hn2.out.gr c.gr) ((Hn1.out.gr Hgt.out).gr c.gr) Hll.out
              rwa [Hlx.out] at h
            clear hc2 hx0 hx0s hlx hll hn2 e2
            go_wp2_with fail
            refine wp_region_gr [] _ (by kernel_rfl) (by kernel_rfl) (Gr.refl _ _) ?_
            repeat (go_big_quiet_step ((first | (go_at_call 47; with_reducible exact Calls.gr_of (V1.out _)) | (go_at_call 48; with_reducible exact Calls.gr_of (V2.out _)))))
            refine wpQuiet_nil ?_
            rintro w7 ⟨n7, hw7⟩
            have hg7 : Gr [] wt w7 := hw7 ▸ n7.gr
            clear hw7 n7 hm0 hm1 hm3
            go_wp2_with fail
            exact ⟨⟨p + 1 + 1, by omega, by go_num, HGt.out.trans hg7⟩, by simp [intOf]; omega⟩
    · have flr := fld (Hg.out.obj Hb5.out (by simp))
      clear fl5
      go_wp2_with fail
      have hcall := SolveAll_c m 20 _ _ (Hmv2.out.gr (HG5.out.trans Hg.out)) D HD.out
      (with_reducible refine hcall.mono ?_)
      clear hcall
      rintro e w8 ⟨v8, rfl, hr8, hg8⟩
      obtain ⟨ls, hls⟩ : ∃ ls, ls = allO m 20 D := ⟨_, rfl⟩
      rw [← hls] at hr8
      have Hlm : Hid (∀ x ∈ ls, x ∈ ss) := hid (by rw [hls, Hss.out]; unfold allO; split; exact fun x hx => List.mem_of_mem_take hx; simp)
      have Hr8 := hid hr8
      obtain ⟨ro, rc, rfl, ⟨hr1, hr2, -⟩, -⟩ := hr8
      have HG8 := hid (Hg.out.trans hg8)
      have Hb8 := hid (HG8.out.obj Hb5.out (by simp)); have Hz8 := hid (Hr5.out.gr HG8.out)
      clear hls hg8 flr
      go_wp2_with fail
      go_loopw [12] (fun i' wt => ∃ t : Nat, t ≤ ls.length ∧ i' = .int .i64 t ∧ Gr [] w8 wt) (fun i' _ => ls.length - (intOf i').toNat)
      case atStart => exact ⟨0, Nat.zero_le _, rfl, Gr.refl _ _⟩
      case round =>
        obtain ⟨t, ht, rfl, hgt⟩ := hrel
        have Hgt := hid hgt; clear hgt
        obtain ⟨wt, rfl⟩ : ∃ wt, wt = wr := ⟨_, rfl⟩
        by_cases htl : t < ls.length
        · obtain ⟨x, hx⟩ := get_some htl
          have hxs := Hlm.out x (List.mem_of_getElem? hx)
          obtain ⟨b1, o1, u1, e1, hc1, hn1⟩ := (Hr8.out.gr Hgt.out).at0 hx
          subst e1
          have Hxs := hid hxs; have Hc1 := hid hc1; have Hn1 := hid hn1
          obtain ⟨P2, hP2⟩ : ∃ P2, P2 = dot a x := ⟨_, rfl⟩
          obtain ⟨Q2, hQ2⟩ : ∃ Q2, Q2 = dot b x := ⟨_, rfl⟩
          have HP2 := hid hP2; have HQ2 := hid hQ2
          obtain ⟨cv, hcv⟩ : ∃ cv : Nat → Bool, cv = fun q => (zs.take q).any fun f => decide (dot a f ≤ P2) && decide (dot b f ≤ Q2) := ⟨_, rfl⟩
          have Hcv := hid hcv
          have Hcov : Hid (cv zs.length = true) := hid (by
            rw [hcv]
            show ((zs.take zs.length).any fun f => decide (dot a f ≤ P2) && decide (dot b f ≤ Q2)) = true
            rw [List.take_length, List.any_eq_true]
            obtain ⟨f, hf, h1, h2⟩ := front_covers (a := dot a) (b := dot b) hxs
            rw [← Hzf.out] at hf
            exact ⟨f, hf, by rw [hP2, hQ2, decide_eq_true h1, decide_eq_true h2]; rfl⟩)
          have hcv0 : cv 0 = false := by rw [hcv]; rfl
          have Hcv0 := hid hcv0
          clear hx hxs hc1 hn1 hP2 hQ2 hcv hcv0
          go_wp2_with fail
          go_loopw [13, 14] (fun z i' wq => ∃ k : Nat, k ≤ zs.length ∧ i' = .int .i64 k ∧ z = .bool (cv k) ∧ Gr [] wt wq) (fun _ i' _ => zs.length - (intOf i').toNat)
          case atStart => exact ⟨0, Nat.zero_le _, rfl, by rw [Hcv0.out], Gr.refl _ _⟩
          case round =>
            obtain ⟨k, hk, rfl, rfl, hgq⟩ := hrel
            have Hgq := hid hgq; clear hgq
            obtain ⟨wq, rfl⟩ : ∃ wq, wq = wr := ⟨_, rfl⟩
            by_cases hkl : k < zs.length
            · obtain ⟨y, hy⟩ := get_some hkl
              have hys := Hzm.out y (List.mem_of_getElem? hy)
              obtain ⟨b2, o2, u2, e2, hc2, hn2⟩ := (Hz8.out.gr (Hgt.out.trans Hgq.out)).at0 hy
              subst e2
              obtain ⟨P1, hP1⟩ : ∃ P1, P1 = dot a y := ⟨_, rfl⟩
              obtain ⟨Q1, hQ1⟩ : ∃ Q1, Q1 = dot b y := ⟨_, rfl⟩
              have HS : Hid (cv (k + 1) = (cv k || (decide (P1 ≤ P2) && decide (Q1 ≤ Q2)))) := hid (by rw [Hcv.out, hP1, hQ1]; simp only [List.take_add_one, hy, List.any_append, Option.toList_some, List.any_cons, List.any_nil, Bool.or_false])
              have HGq := hid (HG8.out.trans (Hgt.out.trans Hgq.out))
              have hm1 : ∀ c : GrW [] wq, c.val.cell? ⟨b2, o2 + k, none⟩ = some u2 := fun c => c.gr.cell hc2 (by simp)
              have hm2 : ∀ c : GrW [] wq, c.val.cell? ⟨b1, o1 + t, none⟩ = some u1 := fun c => c.gr.cell (Hgq.out.cell Hc1.out (by simp)) (by simp)
              have V1 : Hid (∀ c : GrW [] wq, Calls Tryz.prog 41 #[.slice ao' a.length ac, u2] c.val fun e w' => e = .returned (.int .i64 P1) ∧ Gr [] c.val w') := hid fun c => by rw [hP1]; exact HCA.out _ y _ (HGq.out.trans c.gr) hys (hn2.gr c.gr)
              have V2 : Hid (∀ c : GrW [] wq, Calls Tryz.prog 41 #[.slice ao' a.length ac, u1] c.val fun e w' => e = .returned (.int .i64 P2) ∧ Gr [] c.val w') := hid fun c => by rw [HP2.out]; exact HCA.out _ x _ (HGq.out.trans c.gr) Hxs.out ((Hn1.out.gr Hgq.out).gr c.gr)
              have V3 : Hid (∀ c : GrW [] wq, Calls Tryz.prog 41 #[.slice bo b.length bc, u2] c.val fun e w' => e = .returned (.int .i64 Q1) ∧ Gr [] c.val w') := hid fun c => by rw [hQ1]; exact HCB.out _ y _ (HGq.out.trans c.gr) hys (hn2.gr c.gr)
              have V4 : Hid (∀ c : GrW [] wq, Calls Tryz.prog 41 #[.slice bo b.length bc, u1] c.val fun e w' => e = .returned (.int .i64 Q2) ∧ Gr [] c.val w') := hid fun c => by rw [HQ2.out]; exact HCB.out _ x _ (HGq.out.trans c.gr) Hxs.out ((Hn1.out.gr Hgq.out).gr c.gr)
              clear hy hys hc2 hn2 hP1 hQ1
              cases hck : cv k
              · cases e1 : decide (P1 ≤ P2)
                · have HE : Hid (cv (k + 1) = false) := hid (by rw [HS.out, hck, e1]; rfl)
                  go_wp2_with fail
                  refine wp_region_gr [] _ (by kernel_rfl) (by kernel_rfl) (Gr.refl _ _) ?_
                  repeat (go_big_quiet_step ((first | (go_at_call 41; with_reducible exact Calls.gr_of (V1.out _)) | (go_at_call 41; with_reducible exact Calls.gr_of (V2.out _)))))
                  refine wpQuiet_nil ?_
                  rintro w7 ⟨n7, hw7⟩
                  have hg7 : Gr [] wq w7 := hw7 ▸ n7.gr
                  clear hw7 n7 hm1 hm2
                  go_wp2_with fail
                  exact ⟨⟨k + 1, by omega, by go_num, by rw [HE.out], Hgq.out.trans hg7⟩, by simp [intOf]; omega⟩
                · cases e2 : decide (Q1 ≤ Q2)
                  all_goals
                    have HE := hid HS.out
                    rw [hck, e1, e2] at HE
                    go_wp2_with fail
                    refine wp_region_gr [] _ (by kernel_rfl) (by kernel_rfl) (Gr.refl _ _) ?_
                    repeat (go_big_quiet_step ((first | (go_at_call 41; with_reducible exact Calls.gr_of (V1.out _)) | (go_at_call 41; with_reducible exact Calls.gr_of (V2.out _)) | (go_at_call 41; with_reducible exact Calls.gr_of (V3.out _)) | (go_at_call 41; with_reducible exact Calls.gr_of (V4.out _)))))
                    refine wpQuiet_nil ?_
                    rintro w7 ⟨n7, hw7⟩
                    have hg7 : Gr [] wq w7 := hw7 ▸ n7.gr
                    clear hw7 n7 hm1 hm2
                    go_wp2_with fail
                    exact ⟨⟨k + 1, by omega, by go_num, by rw [HE.out]; rfl, Hgq.out.trans hg7⟩, by simp [intOf]; omega⟩
              · have HE : Hid (cv (k + 1) = true) := hid (by rw [HS.out, hck]; rfl)
                go_wp2_with fail
                refine wp_region_gr [] _ (by kernel_rfl) (by kernel_rfl) (Gr.refl _ _) ?_
                repeat (go_big_quiet_step (fail))
                refine wpQuiet_nil ?_
                rintro w7 ⟨n7, hw7⟩
                have hg7 : Gr [] wq w7 := hw7 ▸ n7.gr
                clear hw7 n7 hm1 hm2
                go_wp2_with fail
                exact ⟨⟨k + 1, by omega, by go_num, by rw [HE.out], Hgq.out.trans hg7⟩, by simp [intOf]; omega⟩
            · have hkz : k = zs.length := by omega
              subst hkz
              have hcov := Hcov.out
              go_wp2_with fail
              exact ⟨⟨t + 1, by omega, by go_num, Hgt.out.trans Hgq.out⟩, by simp [intOf]; omega⟩
        · have HGt := hid (HG8.out.trans Hgt.out)
          have flt := fld (Hgt.out.obj Hb8.out (by simp))
          have Hmin : Hid (∃ y, minO m D a = some y ∧ y ∈ ss ∧ ∀ x ∈ ss, dot a y ≤ dot a x) := hid (by
            rw [minO_yes (show (validM m && objB a m.doms.length) = true by rw [Hval.out, Hoa.out]; rfl), ← Hss.out]
            cases h : bestO (dot a) ss with
            | none =>
              exfalso; apply hz0
              rw [Hzf.out, bestO_none h]; rfl
            | some y => exact ⟨y, rfl, bestO_mem h, bestO_least h⟩)
          obtain ⟨y, hy1, hy2, hy3⟩ := Hmin.out
          have Hy2 := hid hy2; have Hy3 := hid hy3
          clear hy2 hy3 Hmin
          go_wp2_with fail
          have hcall := Minimize_c m a _ _ _ ((Hmv2.out.gr HG5.out).gr HGt.out) (HA5.out.gr HGt.out) D HD.out
          (with_reducible refine hcall.mono ?_)
          clear hcall
          rw [hy1]
          rintro e w9 ⟨v9, rfl, hn9, hg9⟩
          have hn9 := hn9.nums (S := []) (by simp)
          have Hn9 := hid hn9; have HG9 := hid (HGt.out.trans hg9); have Hz9 := hid (Hz8.out.gr (Hgt.out.trans hg9))
          clear hn9 hg9 hy1 flt
          obtain ⟨f0, hf0⟩ := get_some (xs := zs) (k := 0) (by omega)
          have hf0s := Hzm.out f0 (List.mem_of_getElem? hf0)
          obtain ⟨b0, o0, u0, e0, hc0, hn0⟩ := Hz9.out.at0 hf0
          subst e0
          have Hf0 := hid (List.mem_of_getElem? hf0)
          have hc0' : w9.cell? ⟨b0, o0, none⟩ = some u0 := by rwa [Nat.add_zero] at hc0
          have Hn0 := hid hn0; have Hf0s := hid hf0s
          clear hf0 hf0s hn0
          have hzp : 0 < zs.length := by omega
          go_wp2_with fail
          have hcall := HCA.out w9 f0 u0 HG9.out Hf0s.out Hn0.out
          (with_reducible refine hcall.mono ?_)
          clear hcall
          rintro e w10 ⟨rfl, hg10⟩
          have HG10 := hid (HG9.out.trans hg10); have Hz10 := hid (Hz9.out.gr hg10); have Hn10 := hid (Hn9.out.gr hg10)
          clear hg10 hc0 hc0'
          go_wp2_with fail
          go_loopw [17, 18] (fun l i' wq => ∃ (k : Nat) (g : List Int), k ≤ zs.length ∧ i' = .int .i64 k ∧ l = .int .i64 (dot a g) ∧ g ∈ zs ∧ (∀ (j : Nat) f, j < k → zs[j]? = some f → dot a g ≤ dot a f) ∧ Gr [] w10 wq) (fun _ i' _ => zs.length - (intOf i').toNat)
          case atStart => exact ⟨0, f0, Nat.zero_le _, rfl, rfl, Hf0.out, by intro j f hj; omega, Gr.refl _ _⟩
          case round =>
            obtain ⟨k, g, hk, rfl, rfl, hgz, hall, hgq⟩ := hrel
            have Hgz := hid hgz; have Hall := hid hall; have Hgq := hid hgq
            clear hgz hall hgq
            obtain ⟨wq, rfl⟩ : ∃ wq, wq = wr := ⟨_, rfl⟩
            obtain ⟨G, hG⟩ : ∃ G, G = dot a g := ⟨_, rfl⟩
            rw [← hG]
            have HGd := hid hG; clear hG
            by_cases hkl : k < zs.length
            · obtain ⟨f, hf⟩ := get_some hkl
              have hfs := Hzm.out f (List.mem_of_getElem? hf)
              obtain ⟨b2, o2, u2, e2, hc2, hn2⟩ := (Hz10.out.gr Hgq.out).at0 hf
              obtain ⟨rfl, rfl⟩ : b2 = b0 ∧ o2 = o0 := by simpa [eq_comm] using e2
              have Hf := hid hf; have Hfs := hid hfs; have Hn2 := hid hn2; have Hc2 := hid hc2
              obtain ⟨Fv, hFv⟩ : ∃ Fv, Fv = dot a f := ⟨_, rfl⟩
              have HFv := hid hFv
              clear hf hfs hn2 hFv
              go_wp2_with fail
              have hcall := HCA.out wq f u2 (HG10.out.trans Hgq.out) Hfs.out Hn2.out
              (with_reducible refine hcall.mono ?_)
              clear hcall
              rw [← HFv.out]
              rintro e w11 ⟨rfl, hg11⟩
              have hc3 := hg11.cell Hc2.out (by simp)
              have Hg11 := hid hg11
              clear hg11 hc2
              by_cases hlt' : Fv < G
              · have d1 : decide (Fv < G) = true := decide_eq_true hlt'
                go_wp2_with fail
                have hcall := HCA.out w11 f u2 ((HG10.out.trans Hgq.out).trans Hg11.out) Hfs.out (Hn2.out.gr Hg11.out)
                (with_reducible refine hcall.mono ?_)
                clear hcall
                rintro e w12 ⟨rfl, hg12⟩
                go_wp2_with fail
                refine ⟨⟨k + 1, f, by omega, by go_num, rfl, List.mem_of_getElem? Hf.out, fun j z hj hz => ?_, (Hgq.out.trans Hg11.out).trans hg12⟩, by simp [intOf]; omega⟩
                by_cases hjk : j < k
                · have := Hall.out j z hjk hz
                  have h1 := HFv.out; have h2 := HGd.out
                  omega
                · have : j = k := by omega
                  subst this
                  have h1 := Hf.out
                  rw [hz] at h1; cases h1; exact Int.le_refl _
              · have d1 : decide (Fv < G) = false := decide_eq_false hlt'
                go_wp2_with fail
                refine ⟨⟨k + 1, g, by omega, by go_num, by rw [HGd.out], Hgz.out, fun j z hj hz => ?_, Hgq.out.trans Hg11.out⟩, by simp [intOf]; omega⟩
                by_cases hjk : j < k
                · exact Hall.out j z hjk hz
                · have : j = k := by omega
                  subst this
                  have h1 := Hf.out
                  rw [hz] at h1; cases h1
                  have h1 := HFv.out; have h2 := HGd.out
                  omega
            · have Heq : Hid (dot a y = G) := hid (by
                obtain ⟨f, hf, h1, h2⟩ := front_covers (a := dot a) (b := dot b) Hy2.out
                rw [← Hzf.out] at hf
                obtain ⟨j, hj⟩ := List.mem_iff_getElem?.1 hf
                have h3 := Hall.out j f (by have := (List.getElem?_eq_some_iff.1 hj).1; omega) hj
                have h4 := Hy3.out g (Hzm.out g Hgz.out)
                have h5 := HGd.out
                omega)
              have hGG : (G == G) = true := by simp
              go_wp2_with fail
              have hcall := HCA.out wq y _ (HG10.out.trans Hgq.out) Hy2.out (Hn10.out.gr Hgq.out)
              (with_reducible refine hcall.mono ?_)
              clear hcall
              rw [Heq.out]
              rintro e w11 ⟨rfl, hg11⟩
              go_wp2_with fail
              go_ret
              exact ⟨rfl, ((HG2.out.trans HG5.out).trans ((HG10.out.trans Hgq.out).trans hg11))⟩

end Go.Proofs.YtjmjjdgbkibdaaaGreat
