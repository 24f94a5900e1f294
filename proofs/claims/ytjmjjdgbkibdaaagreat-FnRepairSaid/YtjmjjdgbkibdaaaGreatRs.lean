/-
  Walks of the reference's repair.
-/
import Derived.Test.YtjmjjdgbkibdaaaGreatRp
set_option linter.unusedVariables false
set_option linter.unusedSimpArgs false
namespace Go.Proofs.YtjmjjdgbkibdaaaGreat
open Go.RowKit

theorem keepB_succ {fr old x : List Int} {t : Nat} {f : Int} (h : fr[t]? = some f) : keepB (fr.take (t + 1)) old x = (keepB (fr.take t) old x && (x.getD f.toNat 0 == old.getD f.toNat 0)) := by
  unfold keepB
  rw [List.take_add_one, h, List.all_append]
  simp

set_option maxRecDepth 100000 in
set_option maxHeartbeats 4000000 in
theorem nearest_c (m : Mod) (D : List Nat) (old fr : List Int) (mv ov fv : Value) (w : World) (hv : ModV [] w mv m) (hVM : VM m D) (ho : Nums [] w .i64 ov old) (hf : Nums [] w .i64 fv fr) (hol : old.length = D.length) (hfr : fr.length ≤ 4 ∧ ∀ f ∈ fr, 0 ≤ f ∧ f < D.length) :
    Calls Tryz.prog 84 #[mv, ov, fv] w fun e w' => ∃ v', e = .returned (.tuple #[v', .bool (nearO m.cons D old fr).isSome]) ∧ Nums [] w' .i64 v' ((nearO m.cons D old fr).getD []) ∧ Gr [] w w' := by
  have Hv := hid hv; have HVM := hid hVM; have Ho := hid ho; have Hf := hid hf; have Hfr := hid hfr.2; have Hol := hid hol
  have hf4 : fr.length ≤ 4 := hfr.1
  obtain ⟨xo, xc, co, cc, rfl⟩ := hv.slices
  obtain ⟨oo, oc, rfl, -, -⟩ := ho
  obtain ⟨fo, fc, rfl, ⟨hf1, hf2, -⟩, -⟩ := hf
  have hg0 : Gr [] w (w.alloc (.cells #[.slice xo m.doms.length xc, .slice co m.cons.length cc] 31)) := (Gr.refl _ _).alloc _
  have hb0 : (w.alloc (.cells #[.slice xo m.doms.length xc, .slice co m.cons.length cc] 31)).heap[w.heap.size]? = some (.cells #[.slice xo m.doms.length xc, .slice co m.cons.length cc] 31 (0, 0)) := heap_alloc_new _ _
  have fl0 := fld hb0
  have Hg0 := hid hg0
  obtain ⟨cost, hcost⟩ : ∃ cost : List Int → Int, cost = fun x => (apN x old x.length : Int) := ⟨_, rfl⟩
  obtain ⟨p, hp⟩ : ∃ p : List Int → Bool, p = fun x => agI (onL fr) old x x.length := ⟨_, rfl⟩
  have Hnear : Hid (nearO m.cons D old fr = bestO cost ((sols m.cons D).filter p)) := hid (by rw [hcost, hp]; rfl)
  have Hcost : Hid (∀ x, cost x = (apN x old x.length : Int)) := hid (by rw [hcost]; intro x; rfl)
  have Hpp : Hid (∀ x, p x = agI (onL fr) old x x.length) := hid (by rw [hp]; intro x; rfl)
  clear hv hg0 hb0 hVM hfr hol hcost hp
  go_enter Tryz.func84, Tryz.ntmps84
  go_wp2_with fail
  have hcall := solve_c m D 4096 _ _ (Hv.out.gr Hg0.out) HVM.out (by omega) (by omega)
  rw [show ((4096 : Nat) : Int) = 4096 from rfl] at hcall
  (with_reducible refine hcall.mono ?_)
  clear hcall
  rintro e w3 ⟨v3, nd, rfl, hown3, hg3⟩
  rw [all_sols m D HVM.out] at hown3
  obtain ⟨zs, hz⟩ : ∃ zs, zs = sols m.cons D := ⟨_, rfl⟩
  rw [← hz] at hown3
  have Hz := hid hz
  have Hl := hid (hown3.rows (S := []) (by simp))
  obtain ⟨ro, rc, rfl, hr1, hr2, -⟩ := hown3.slice
  have Hg3 := hid (Hg0.out.trans hg3)
  have Hsz : Hid (∀ x ∈ zs, x.length = D.length ∧ x.length ≤ 4 ∧ p x = keepB fr old x) := hid (by
    intro x hx
    rw [hz] at hx
    have h1 := (solv hx).1; have h4 := HVM.out.len.2
    refine ⟨h1, by omega, ?_⟩
    rw [Hpp.out, keep_ag]
    intro f hf
    have := Hfr.out f hf
    omega)
  clear hown3 hz hg3 fl0
  go_wp2_with fail
  go_loopw [10, 11] (fun b i wr => ∃ (n : Nat) (bv : Value), bv = b ∧ n ≤ zs.length ∧ i = .int .i64 n ∧ Gr [] w3 wr ∧ ((bestO cost ((zs.take n).filter p) = none ∧ bv = .int .i64 (-1)) ∨ ∃ (q : Nat) (y : List Int), bestO cost ((zs.take n).filter p) = some y ∧ bv = .int .i64 q ∧ q < n ∧ zs[q]? = some y)) (fun _ i _ => zs.length - (intOf i).toNat)
  case atStart => exact ⟨0, _, rfl, Nat.zero_le _, rfl, Gr.refl _ _, .inl ⟨by rw [List.take_zero]; rfl, rfl⟩⟩
  case round =>
    obtain ⟨n, bv, rfl, hn, rfl, hg, hcase⟩ := hrel
    have Hg := hid hg; have Hcase := hid hcase
    clear hg hcase
    by_cases hlt : n < zs.length
    · obtain ⟨x, hx⟩ := get_some hlt
      have hxm := List.mem_of_getElem? hx
      obtain ⟨hxl, hx4, hpx⟩ := Hsz.out x hxm
      obtain ⟨b1, o1, u1, e1, hc1, hn1⟩ := (Hl.out.gr Hg.out).at0 hx
      subst e1
      obtain ⟨xo', xc', rfl, ⟨hx1, hx2, -⟩, -⟩ := id hn1
      have HS := hid (bestF_succ (cost := cost) (p := p) hx)
      have Hn1 := hid hn1; have Hx := hid hx; have Hxm := hid hxm; have Hpx := hid hpx; have Hxl := hid hxl; have Hc1 := hid hc1
      rename_i wr _
      clear hx hn1 hxm hpx hxl hc1
      go_wp2_with fail
      go_loopw [12, 13] (fun k' t' wt => ∃ (t : Nat) (kp : Bool), k' = .bool kp ∧ t' = .int .i64 t ∧ t ≤ fr.length ∧ kp = keepB (fr.take t) old x ∧ Gr [] wr wt) (fun _ t' _ => fr.length - (intOf t').toNat)
      case atStart => exact ⟨0, true, rfl, rfl, Nat.zero_le _, rfl, Gr.refl _ _⟩
      case round =>
        obtain ⟨t, kp, rfl, rfl, ht, hkp, hgt⟩ := hrel
        have Hkp := hid hkp; have Hgt := hid hgt
        clear hkp hgt
        by_cases hlt2 : t < fr.length
        · cases kp
          · obtain ⟨f, hf⟩ := get_some hlt2
            have HK := hid (keepB_succ (old := old) (x := x) hf)
            clear hf
            go_wp2_with fail
            refine wp_region_gr [] _ (by kernel_rfl) (by kernel_rfl) (Gr.refl _ _) ?_
            repeat (go_big_quiet_step (fail))
            refine wpQuiet_nil ?_
            rintro w7 ⟨n7, hw7⟩
            have hg7 : Gr [] wr w7 := hw7 ▸ n7.gr
            clear hw7 n7
            go_wp2_with fail
            exact ⟨⟨t + 1, false, rfl, by go_num, by omega, by rw [HK.out, ← Hkp.out]; rfl, Hgt.out.trans hg7⟩, by simp [intOf]; omega⟩
          · obtain ⟨f, hf⟩ := get_some hlt2
            have HK := hid (keepB_succ (old := old) (x := x) hf)
            have hfin := Hfr.out f (List.mem_of_getElem? hf)
            obtain ⟨fn, rfl⟩ := Int.eq_ofNat_of_zero_le hfin.1
            obtain ⟨xf, hxf⟩ := get_some (xs := x) (k := fn) (by have := Hxl.out; omega)
            obtain ⟨of, hof⟩ := get_some (xs := old) (k := fn) (by have := Hol.out; omega)
            have HKB : Hid (keepB (fr.take (t + 1)) old x = (xf == of)) := hid (by rw [HK.out, ← Hkp.out, Int.toNat_natCast, getD_here hxf, getD_here hof]; rfl)
            obtain ⟨b2, o2, e2, -, c2⟩ := (Hf.out.gr (Hg3.out.trans (Hg.out.trans Hgt.out))).at hf
            subst e2
            obtain ⟨b3, o3, e3, -, c3⟩ := (Hn1.out.gr Hgt.out).at hxf
            subst e3
            obtain ⟨b4, o4, e4, -, c4⟩ := (Ho.out.gr (Hg3.out.trans (Hg.out.trans Hgt.out))).at hof
            subst e4
            have hfx : fn < x.length := by have := Hxl.out; omega
            have hfo : fn < old.length := by have := Hol.out; omega
            have hm1 : ∀ k : GrW [] wr, k.val.cell? ⟨b1, o1 + n, none⟩ = some (.slice (some ⟨b3, o3, none⟩) x.length xc') := fun k => k.gr.cell (Hgt.out.cell Hc1.out (by simp)) (by simp)
            have hm2 : ∀ k : GrW [] wr, k.val.cell? ⟨b2, o2 + t, none⟩ = some (.int .i64 fn) := fun k => k.gr.cell c2 (by simp)
            have hm3 : ∀ k : GrW [] wr, k.val.cell? ⟨b3, o3 + fn, none⟩ = some (.int .i64 xf) := fun k => k.gr.cell c3 (by simp)
            have hm4 : ∀ k : GrW [] wr, k.val.cell? ⟨b4, o4 + fn, none⟩ = some (.int .i64 of) := fun k => k.gr.cell c4 (by simp)
            clear hf hfin hxf hof c2 c3 c4
            cases hfe : (xf == of)
            all_goals
              have Hfe := hid hfe
              go_wp2_with fail
              refine wp_region_gr [] _ (by kernel_rfl) (by kernel_rfl) (Gr.refl _ _) ?_
              repeat (go_big_quiet_step (fail))
              refine wpQuiet_nil ?_
              rintro w7 ⟨n7, hw7⟩
              have hg7 : Gr [] wr w7 := hw7 ▸ n7.gr
              clear hw7 n7 hm1 hm2 hm3 hm4
              go_wp2_with fail
              exact ⟨⟨t + 1, _, rfl, by go_num, by omega, by rw [HKB.out, Hfe.out], Hgt.out.trans hg7⟩, by simp [intOf]; omega⟩
        · have hkx : kp = p x := by rw [Hkp.out, List.take_of_length_le (by omega), Hpx.out]
          have HGt := hid (Hg.out.trans Hgt.out)
          cases kp
          · have Hkx := hid hkx
            clear hkx
            go_wp2_with fail
            refine wp_region_gr [] _ (by kernel_rfl) (by kernel_rfl) (Gr.refl _ _) ?_
            repeat (go_big_quiet_step (fail))
            refine wpQuiet_nil ?_
            rintro w7 ⟨n7, hw7⟩
            have hg7 : Gr [] wr w7 := hw7 ▸ n7.gr
            clear hw7 n7
            have hsame : bestO cost ((zs.take (n + 1)).filter p) = bestO cost ((zs.take n).filter p) := by rw [HS.out, ← Hkx.out]; rfl
            have Hsame := hid hsame
            clear hsame
            go_wp2_with fail
            refine ⟨⟨n + 1, bv, rfl, by omega, by go_num, HGt.out.trans hg7, ?_⟩, by simp [intOf]; omega⟩
            rw [Hsame.out]
            rcases Hcase.out with h | ⟨q, y, h1, h2, h3, h4⟩
            · exact .inl h
            · exact .inr ⟨q, y, h1, h2, by omega, h4⟩
          · have hst : bestO cost ((zs.take (n + 1)).filter p) = bstep cost (bestO cost ((zs.take n).filter p)) x := by rw [HS.out, ← hkx]; rfl
            have Hst := hid hst
            clear hst hkx
            rcases Hcase.out with ⟨hb, rfl⟩ | ⟨q, y, hb, rfl, hqn, hy⟩
            · have Hb := hid hb; clear hb
              go_wp2_with fail
              refine wp_region_gr [] _ (by kernel_rfl) (by kernel_rfl) (Gr.refl _ _) ?_
              repeat (go_big_quiet_step (fail))
              refine wpQuiet_nil ?_
              rintro w7 ⟨n7, hw7⟩
              have hg7 : Gr [] wr w7 := hw7 ▸ n7.gr
              clear hw7 n7
              go_wp2_with fail
              exact ⟨⟨n + 1, _, rfl, by omega, by go_num, HGt.out.trans hg7, .inr ⟨n, x, by rw [Hst.out, Hb.out]; rfl, rfl, by omega, Hx.out⟩⟩, by simp [intOf]; omega⟩
            · obtain ⟨b2, o2, u2, e2, hc2, hn2⟩ := (Hl.out.gr HGt.out).at0 hy
              obtain ⟨rfl, rfl⟩ : b2 = b1 ∧ o2 = o1 := by simpa [eq_comm] using e2
              have hym := List.mem_of_getElem? hy
              obtain ⟨hyl, hy4, -⟩ := Hsz.out y hym
              have Hb := hid hb; have Hn2 := hid hn2; have Hy := hid hy
              have hq0 : decide ((q : Int) < 0) = false := decide_eq_false (by omega)
              have hm1 : ∀ k : GrW [] wr, k.val.cell? ⟨b2, o2 + n, none⟩ = some (.slice xo' x.length xc') := fun k => k.gr.cell (Hgt.out.cell Hc1.out (by simp)) (by simp)
              have hm2 : ∀ k : GrW [] wr, k.val.cell? ⟨b2, o2 + q, none⟩ = some u2 := fun k => k.gr.cell hc2 (by simp)
              have hql : q < zs.length := by omega
              have Hor := hid (Ho.out.gr (Hg3.out.trans HGt.out)); have Hnx := hid (Hn1.out.gr Hgt.out)
              have Hlx : Hid (x.length = old.length) := hid (by rw [Hxl.out, Hol.out])
              have Hly : Hid (y.length = old.length) := hid (by rw [hyl, Hol.out])
              have HcX := hid (Hcost.out x); have HcY := hid (Hcost.out y)
              obtain ⟨ax, hax⟩ : ∃ ax, ax = apN x old x.length := ⟨_, rfl⟩
              obtain ⟨ay, hay⟩ : ∃ ay, ay = apN y old y.length := ⟨_, rfl⟩
              have HaX := hid (specDistance_c x old); have HaY := hid (specDistance_c y old)
              rw [← hax] at HcX HaX
              rw [← hay] at HcY HaY
              clear hb hn2 hy hym hc2 e2 hyl hax hay
              by_cases hc : (ax : Int) < (ay : Int)
              · have hs : bestO cost ((zs.take (n + 1)).filter p) = some x := by rw [Hst.out, Hb.out]; unfold bstep; simp only; rw [HcX.out, HcY.out, if_pos hc]
                have Hs := hid hs
                have hcd : decide ((ax : Int) < (ay : Int)) = true := decide_eq_true hc
                have hcn : decide (ax < ay) = true := decide_eq_true (by omega)
                clear hs hc
                go_wp2_with fail
                refine wp_region_gr [] _ (by kernel_rfl) (by kernel_rfl) (Gr.refl _ _) ?_
                repeat (go_big_quiet_step ((first | (go_at_call 153; with_reducible exact Calls.gr_of (HaX.out _ _ _ (Hnx.out.gr (GrW.gr _)) (Hor.out.gr (GrW.gr _)) Hlx.out (by omega))) | (go_at_call 153; with_reducible exact Calls.gr_of (HaY.out _ _ _ (Hn2.out.gr (GrW.gr _)) (Hor.out.gr (GrW.gr _)) Hly.out (by omega))))))
                refine wpQuiet_nil ?_
                rintro w7 ⟨n7, hw7⟩
                have hg7 : Gr [] wr w7 := hw7 ▸ n7.gr
                clear hw7 n7 hm1 hm2
                go_wp2_with fail
                exact ⟨⟨n + 1, _, rfl, by omega, by go_num, HGt.out.trans hg7, .inr ⟨n, x, Hs.out, rfl, by omega, Hx.out⟩⟩, by simp [intOf]; omega⟩
              · have hs : bestO cost ((zs.take (n + 1)).filter p) = some y := by rw [Hst.out, Hb.out]; unfold bstep; simp only; rw [HcX.out, HcY.out, if_neg hc]
                have Hs := hid hs
                have hcd : decide ((ax : Int) < (ay : Int)) = false := decide_eq_false hc
                have hcn : decide (ax < ay) = false := decide_eq_false (by omega)
                clear hs hc
                go_wp2_with fail
                refine wp_region_gr [] _ (by kernel_rfl) (by kernel_rfl) (Gr.refl _ _) ?_
                repeat (go_big_quiet_step ((first | (go_at_call 153; with_reducible exact Calls.gr_of (HaX.out _ _ _ (Hnx.out.gr (GrW.gr _)) (Hor.out.gr (GrW.gr _)) Hlx.out (by omega))) | (go_at_call 153; with_reducible exact Calls.gr_of (HaY.out _ _ _ (Hn2.out.gr (GrW.gr _)) (Hor.out.gr (GrW.gr _)) Hly.out (by omega))))))
                refine wpQuiet_nil ?_
                rintro w7 ⟨n7, hw7⟩
                have hg7 : Gr [] wr w7 := hw7 ▸ n7.gr
                clear hw7 n7 hm1 hm2
                go_wp2_with fail
                exact ⟨⟨n + 1, _, rfl, by omega, by go_num, HGt.out.trans hg7, .inr ⟨q, y, Hs.out, rfl, by omega, Hy.out⟩⟩, by simp [intOf]; omega⟩
    · have hnz : zs.take n = zs := List.take_of_length_le (by omega)
      rcases Hcase.out with ⟨hb, rfl⟩ | ⟨q, y, hb, rfl, hqn, hy⟩
      · rw [hnz] at hb
        have Hb := hid hb
        clear hb hnz
        go_wp2_with fail
        go_ret2
        rw [Hnear.out, ← Hz.out, Hb.out]
        exact ⟨_, rfl, (Own.nil 0 _ 3).nums (by simp), Hg3.out.trans Hg.out⟩
      · rw [hnz] at hb
        obtain ⟨b2, o2, u2, e2, hc2, hn2⟩ := (Hl.out.gr Hg.out).at0 hy
        subst e2
        have Hb := hid hb; have Hn2 := hid hn2
        have hql : q < zs.length := by omega
        clear hb hnz hn2 hy
        go_wp2_with fail
        go_ret2
        rw [Hnear.out, ← Hz.out, Hb.out]
        exact ⟨_, rfl, Hn2.out, Hg3.out.trans Hg.out⟩


set_option maxRecDepth 100000 in
set_option maxHeartbeats 1000000 in
theorem specRepair_c (m : Mod) (old fr : List Int) (mv ov fv : Value) (w : World) (hv : ModV [] w mv m) (ho : Nums [] w .i64 ov old) (hf : Nums [] w .i64 fv fr) (hs : m.Small) (D : List Nat) (hD : validM m = true → VM m D) :
    Calls Tryz.prog 27 #[mv, ov, fv] w fun e w' => ∃ v', e = .returned (.tuple #[v', .bool (repO m D old fr).isSome]) ∧ Nums [] w' .i64 v' ((repO m D old fr).getD []) ∧ Gr [] w w' := by
  have Hv := hid hv; have HD := hid hD; have Ho := hid ho; have Hs := hid hs; have Hf := hid hf
  obtain ⟨xo, xc, co, cc, rfl⟩ := hv.slices
  obtain ⟨oo, oc, rfl, ⟨ho1, ho2, -⟩, -⟩ := ho
  obtain ⟨fo, fc, rfl, ⟨hf1, hf2, -⟩, -⟩ := hf
  have hg0 : Gr [] w (w.alloc (.cells #[.slice xo m.doms.length xc, .slice co m.cons.length cc] 31)) := (Gr.refl _ _).alloc _
  have hb0 : (w.alloc (.cells #[.slice xo m.doms.length xc, .slice co m.cons.length cc] 31)).heap[w.heap.size]? = some (.cells #[.slice xo m.doms.length xc, .slice co m.cons.length cc] 31 (0, 0)) := heap_alloc_new _ _
  have fl0 := fld hb0
  have Hg0 := hid hg0; have Hb0 := hid hb0
  clear hv hg0 hb0 hD hs
  go_enter Tryz.func27, Tryz.ntmps27
  go_wp2_with fail
  have hcall := specValidModel_c m _ _ (Hv.out.gr Hg0.out) Hs.out
  (with_reducible refine hcall.mono ?_)
  clear hcall
  rintro e w1 ⟨rfl, hg1⟩
  have fl1 := fld (hg1.obj Hb0.out (by simp))
  have Hb1 := hid (hg1.obj Hb0.out (by simp))
  have Hg1 := hid (Hg0.out.trans hg1)
  clear fl0 hg1
  cases hval : validM m
  · have Hval := hid hval; clear hval
    go_wp2_with fail
    go_ret2
    rw [repO_no (by rw [Hval.out]; rfl)]
    exact ⟨_, rfl, (Own.nil 0 _ 3).nums (by simp), Hg1.out⟩
  have HVM := hid (HD.out hval)
  have Hval := hid hval
  have HDL : Hid (m.doms.length = D.length) := hid (by rw [HVM.out.doms, ints_len])
  clear hval
  go_wp2_with fail
  have hcall := validAssignment_c m old _ _ w1 (Hv.out.gr Hg1.out) (Ho.out.gr Hg1.out)
  (with_reducible refine hcall.mono ?_)
  clear hcall
  rintro e w2 ⟨rfl, hg2⟩
  have fl2 := fld (hg2.obj Hb1.out (by simp))
  have Hb2 := hid (hg2.obj Hb1.out (by simp))
  have Hg2 := hid (Hg1.out.trans hg2)
  clear fl1 hg2
  cases has : asgB old m.doms.length
  · have Has := hid has; clear has
    go_wp2_with fail
    go_ret2
    rw [repO_no (by rw [Has.out]; simp)]
    exact ⟨_, rfl, (Own.nil 0 _ 3).nums (by simp), Hg2.out⟩
  have Has := hid has
  clear has
  by_cases hf4 : (4 : Int) < (fr.length : Int)
  · have hf4' : decide ((4 : Int) < (fr.length : Int)) = true := decide_eq_true hf4
    have Hno : Hid (repO m D old fr = none) := hid (repO_no (by unfold frB; rw [decide_eq_false (by omega)]; simp))
    clear hf4
    go_wp2_with fail
    go_ret2
    rw [Hno.out]
    exact ⟨_, rfl, (Own.nil 0 _ 3).nums (by simp), Hg2.out⟩
  have hf4' : decide ((4 : Int) < (fr.length : Int)) = false := decide_eq_false hf4
  have Hf4 : Hid (decide ((fr.length : Int) ≤ 4) = true) := hid (decide_eq_true (by omega))
  have hmd : m.doms.length ≤ 4 := by have := HVM.out.len.2; have := HDL.out; omega
  clear hf4
  go_wp2_with fail
  have hcall := allInRange_c fr 0 ((m.doms.length : Int) - 1) _ w2 (Hf.out.gr Hg2.out)
  (with_reducible refine hcall.mono ?_)
  clear hcall
  rintro e w3 ⟨rfl, hg3⟩
  have fl3 := fld (hg3.obj Hb2.out (by simp))
  have Hg3 := hid (Hg2.out.trans hg3)
  clear fl2 hg3
  cases hal : allB 0 ((m.doms.length : Int) - 1) fr
  · have Hal := hid hal; clear hal
    go_wp2_with fail
    go_ret2
    rw [repO_no (by unfold frB; rw [Hal.out]; simp)]
    exact ⟨_, rfl, (Own.nil 0 _ 3).nums (by simp), Hg3.out⟩
  have Hfr : Hid (frB fr m.doms.length = true) := hid (by unfold frB; rw [Hf4.out, hal]; rfl)
  have Hyes := hid (repO_yes (D := D) (show (validM m && (asgB old m.doms.length && frB fr m.doms.length)) = true by rw [Hval.out, Has.out, Hfr.out]; rfl))
  have Hol : Hid (old.length = D.length) := hid (by rw [(asg_len Has.out).1, HDL.out])
  have Hfin := hid (frB_in Hfr.out)
  clear hal
  go_wp2_with fail
  have hcall := nearest_c m D old fr _ _ _ w3 (Hv.out.gr Hg3.out) HVM.out (Ho.out.gr Hg3.out) (Hf.out.gr Hg3.out) Hol.out (by have h := Hfin.out; rw [HDL.out] at h; exact h)
  (with_reducible refine hcall.mono ?_)
  clear hcall
  rintro e w4 ⟨v4, rfl, hn4, hg4⟩
  have Hn4 := hid hn4; have Hg4 := hid hg4
  clear hn4 hg4
  go_wp2_with fail
  go_ret2
  rw [Hyes.out]
  exact ⟨_, rfl, Hn4.out, Hg3.out.trans Hg4.out⟩

end Go.Proofs.YtjmjjdgbkibdaaaGreat
