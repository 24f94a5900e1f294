/-
  Walk of FnRepair.
-/
import Derived.Test.YtjmjjdgbkibdaaaGreatLPS
import Derived.Test.YtjmjjdgbkibdaaaGreatG14
import Derived.Test.YtjmjjdgbkibdaaaGreatRs
import Derived.Test.YtjmjjdgbkibdaaaGreatRq
import Derived.Test.YtjmjjdgbkibdaaaGreatIsB
import Derived.Test.YtjmjjdgbkibdaaaGreatSl
set_option linter.unusedVariables false
set_option linter.unusedSimpArgs false
namespace Go.Proofs.YtjmjjdgbkibdaaaGreat
open Go.RowKit


set_option maxRecDepth 100000 in
set_option maxHeartbeats 8000000 in
theorem FnRepair_c (code : Value) (bs : List Int) (ao : Option Addr) (cap : Nat) (w : World) (hv : code = .slice ao bs.length cap) (hlen : bs.length ≤ 9223372036854775807) (hcap : bs.length ≤ cap) (hc : Cells [] w .u8 ao bs) (hb : ∀ b ∈ bs, 0 ≤ b ∧ b ≤ 255) :
    Calls Tryz.prog 10 #[code] w (fun e w' => e = .returned (.bool true) ∧ Gr [] w w') := by
  subst hv
  have Hc := hid hc; have Hb := hid hb; clear hc hb
  by_cases hbig : 1048576 < bs.length
  · go_enter Tryz.func10, Tryz.ntmps10
    go_wp2_with fail
    go_ret
    exact ⟨rfl, Gr.refl _ _⟩
  have hbig' : decide ((1048576 : Int) < (bs.length : Int)) = false := by simp; omega
  go_enter Tryz.func10, Tryz.ntmps10
  go_wp2_with fail
  have hcall := DrawRepair_c _ bs w ao cap rfl hlen hcap Hc.out Hb.out
  (with_reducible refine hcall.mono ?_)
  clear hcall
  rintro e w1 ⟨m, mv, ov, fv, O, F, rfl, hmv, hms, ⟨hd1, hd4⟩, hO, hF, ⟨hOl, hOv⟩, hFl, hg1⟩
  obtain ⟨xo, xc, co, cc, rfl⟩ := hmv.slices
  have ha2 : Gr [] w1 (w1.alloc (.cells #[.slice xo m.doms.length xc, .slice co m.cons.length cc] 31)) := (Gr.refl _ _).alloc _
  have hb2 : (w1.alloc (.cells #[.slice xo m.doms.length xc, .slice co m.cons.length cc] 31)).heap[w1.heap.size]? = some (.cells #[.slice xo m.doms.length xc, .slice co m.cons.length cc] 31 (0, 0)) := heap_alloc_new _ _
  have HG2 := hid (hg1.trans ha2); have Hmv2 := hid (hmv.gr ha2); have Hms := hid hms; have Hb2 := hid hb2
  have HO2 := hid (hO.gr ha2); have HF2 := hid (hF.gr ha2)
  obtain ⟨Oo, Oc, rfl, ⟨hO1, hO2, -⟩, -⟩ := hO
  obtain ⟨Fo, Fc, rfl, ⟨hF1, hF2, -⟩, -⟩ := hF
  have HOv := hid hOv
  clear hmv hms ha2 hb2 hg1 hbig hOv
  obtain ⟨D, hD⟩ := openVM m
  have HD := hid hD; clear hD
  go_wp2_with fail
  have hcall := Repair_c m O F _ _ _ _ Hmv2.out HO2.out HF2.out D HD.out
  (with_reducible refine hcall.mono ?_)
  clear hcall
  obtain ⟨Y, hY⟩ : ∃ Y, Y = repO m D O F := ⟨_, rfl⟩
  rw [← hY]
  have HY := hid hY; clear hY
  rintro e w3 ⟨v3, rfl, hn3, hg3⟩
  have hn3 := hn3.nums (S := []) (by simp)
  have Hn3 := hid hn3
  obtain ⟨zo, zc, rfl, ⟨hz1, hz2, -⟩, -⟩ := hn3
  have fl3 := fld (hg3.obj Hb2.out (by simp))
  have HG3 := hid hg3; clear hg3
  go_wp2_with fail
  have hcall := specRepair_c m O F _ _ _ _ (Hmv2.out.gr HG3.out) (HO2.out.gr HG3.out) (HF2.out.gr HG3.out) Hms.out D HD.out
  (with_reducible refine hcall.mono ?_)
  clear hcall
  rw [← HY.out]
  rintro e w4 ⟨v4, rfl, hn4, hg4⟩
  have Hn4 := hid hn4
  have HG4 := hid (HG3.out.trans hg4); have Hg4 := hid hg4
  have fl4 := fld (HG4.out.obj Hb2.out (by simp))
  obtain ⟨ok, hok⟩ : ∃ ok, ok = Y.isSome := ⟨_, rfl⟩
  rw [← hok]
  have Hok := hid hok
  obtain ⟨ys, hys⟩ : ∃ ys, ys = Y.getD [] := ⟨_, rfl⟩
  rw [← hys] at Hn3 Hn4 hz1 ⊢
  have Hyl := hid hys
  have hne : (ok != ok) = false := by cases ok <;> rfl
  have heq : (ok == ok) = true := by cases ok <;> rfl
  clear hn4 hg4 fl3 hok hys
  go_wp2_with fail
  have hcall := lawEqualInts_c ys ys _ _ _ (Hn3.out.gr Hg4.out) Hn4.out
  (with_reducible refine hcall.mono ?_)
  clear hcall
  rw [decide_eq_true (rfl : ys = ys)]
  rintro e w5 ⟨rfl, hg5⟩
  have HG5 := hid (HG4.out.trans hg5); have Hn5 := hid (Hn3.out.gr (Hg4.out.trans hg5)); have Hm5 := hid (Hn4.out.gr hg5)
  have fl5 := fld (HG5.out.obj Hb2.out (by simp))
  clear hg5 fl4
  cases hY : Y with
  | none =>
    have Hokf : ok = false := by rw [Hok.out, hY]; rfl
    subst Hokf
    clear hY
    go_wp2_with fail
    have hcall := lawEqualInts_c ys ys _ _ _ Hn5.out Hm5.out
    (with_reducible refine hcall.mono ?_)
    clear hcall
    rw [decide_eq_true (rfl : ys = ys)]
    rintro e w7 ⟨rfl, hg7⟩
    go_wp2_with fail
    go_ret
    exact ⟨rfl, (HG2.out.trans HG5.out).trans hg7⟩
  | some y =>
  have Hokt : ok = true := by rw [Hok.out, hY]; rfl
  subst Hokt
  have hysy : ys = y := by rw [Hyl.out, hY]; rfl
  subst hysy
  have hin : (validM m && (asgB O m.doms.length && frB F m.doms.length)) = true := by
    cases h : (validM m && (asgB O m.doms.length && frB F m.doms.length))
    · exfalso; have := HY.out; rw [repO_no h, hY] at this; cases this
    · rfl
  have hnear : nearO m.cons D O F = some ys := by rw [← repO_yes (D := D) hin, ← HY.out, hY]
  rw [Bool.and_eq_true, Bool.and_eq_true] at hin
  obtain ⟨hval, hasg, hfr⟩ := hin
  have HVM := hid (HD.out hval)
  have Hval := hid hval
  have HDL : Hid (m.doms.length = D.length) := hid (by rw [HVM.out.doms, ints_len])
  have HOl : Hid (O.length = D.length) := hid (by rw [(asg_len hasg).1]; exact HDL.out)
  have HFB := hid (frB_in hfr)
  have hF4 := HFB.out.1
  have Hnear := hid hnear
  have Hys := hid (nearO_mem hnear)
  have hyl : ys.length = D.length := (solv Hys.out.1).1
  have HYL := hid hyl
  have hD4 : D.length ≤ 4 := HVM.out.len.2
  clear hval hasg hfr hnear hY hyl
  go_wp2_with fail
  have hcall := SolveAll_c m 20 _ _ (Hmv2.out.gr HG5.out) D HD.out
  (with_reducible refine hcall.mono ?_)
  clear hcall
  rintro e w6 ⟨v6, rfl, hr6, hg6⟩
  obtain ⟨zs, hzs⟩ : ∃ zs, zs = allO m 20 D := ⟨_, rfl⟩
  rw [← hzs] at hr6
  have Hzm : Hid (∀ x ∈ zs, x ∈ sols m.cons D) := hid (by rw [hzs]; unfold allO; split; exact fun x hx => List.mem_of_mem_take hx; simp)
  have Hr6 := hid hr6
  obtain ⟨ro, rc, rfl, ⟨hr1, hr2, -⟩, -⟩ := hr6
  have HG6 := hid (HG5.out.trans hg6); have Hn6 := hid (Hn5.out.gr hg6)
  have Hb6 := hid (HG6.out.obj Hb2.out (by simp))
  clear hzs hg6 fl5
  go_wp2_with fail
  go_loopw [11] (fun i' wr => ∃ n : Nat, n ≤ zs.length ∧ i' = .int .i64 n ∧ Gr [] w6 wr) (fun i' _ => zs.length - (intOf i').toNat)
  case atStart => exact ⟨0, Nat.zero_le _, rfl, Gr.refl _ _⟩
  case round =>
    obtain ⟨n, hn, rfl, hg⟩ := hrel
    have flr := fld (hg.obj Hb6.out (by simp))
    have Hg := hid hg
    by_cases hlt : n < zs.length
    · obtain ⟨x, hx⟩ := get_some hlt
      have hxs := Hzm.out x (List.mem_of_getElem? hx)
      have hxl : x.length = D.length := (solv hxs).1
      obtain ⟨b, o, u, e1, hc0, hn0⟩ := (Hr6.out.gr hg).at0 hx
      subst e1
      obtain ⟨xo', xc', rfl, ⟨hx1, hx2, -⟩, -⟩ := id hn0
      have Hxs := hid hxs; have Hxl := hid hxl; have Hn0 := hid hn0; have Hc0 := hid hc0
      clear hx hxs hxl hn0 hg hc0
      go_wp2_with fail
      go_loopw [12, 13] (fun k' t' wt => ∃ (t : Nat) (kp : Bool), k' = .bool kp ∧ t' = .int .i64 t ∧ t ≤ F.length ∧ kp = keepB (F.take t) O x ∧ Gr [] wr wt) (fun _ t' _ => F.length - (intOf t').toNat)
      case atStart => exact ⟨0, true, rfl, rfl, Nat.zero_le _, by simp [keepB], Gr.refl _ _⟩
      case round =>
        obtain ⟨t, kp, rfl, rfl, ht, hkp, hgt⟩ := hrel
        have Hkp := hid hkp; have Hgt := hid hgt
        clear hkp hgt
        obtain ⟨wt, rfl⟩ : ∃ wt, wt = wr := ⟨_, rfl⟩
        by_cases hlt2 : t < F.length
        · cases kp
          · obtain ⟨f, hf⟩ := get_some hlt2
            have HK := hid (keepB_succ (old := O) (x := x) hf)
            clear hf
            go_wp2_with fail
            refine wp_region_gr [] _ (by kernel_rfl) (by kernel_rfl) (Gr.refl _ _) ?_
            repeat (go_big_quiet_step (fail))
            refine wpQuiet_nil ?_
            rintro w7 ⟨n7, hw7⟩
            have hg7 : Gr [] wt w7 := hw7 ▸ n7.gr
            clear hw7 n7
            go_wp2_with fail
            exact ⟨⟨t + 1, false, rfl, by go_num, by omega, by rw [HK.out, ← Hkp.out]; rfl, Hgt.out.trans hg7⟩, by simp [intOf]; omega⟩
          · obtain ⟨f, hf⟩ := get_some hlt2
            have HK := hid (keepB_succ (old := O) (x := x) hf)
            have hfin := HFB.out.2 f (List.mem_of_getElem? hf)
            obtain ⟨fn, rfl⟩ := Int.eq_ofNat_of_zero_le hfin.1
            have hfD : fn < D.length := by have := HDL.out; omega
            obtain ⟨xf, hxf⟩ := get_some (xs := x) (k := fn) (by have := Hxl.out; omega)
            obtain ⟨of, hof⟩ := get_some (xs := O) (k := fn) (by have := HOl.out; omega)
            have HKB : Hid (keepB (F.take (t + 1)) O x = (xf == of)) := hid (by rw [HK.out, ← Hkp.out, Int.toNat_natCast, getD_here hxf, getD_here hof]; rfl)
            obtain ⟨b2, o2, e2, -, c2⟩ := ((HF2.out.gr HG6.out).gr (Hg.out.trans Hgt.out)).at hf
            subst e2
            obtain ⟨b3, o3, e3, -, c3⟩ := (Hn0.out.gr Hgt.out).at hxf
            subst e3
            obtain ⟨b4, o4, e4, -, c4⟩ := ((HO2.out.gr HG6.out).gr (Hg.out.trans Hgt.out)).at hof
            subst e4
            have hfx : fn < x.length := by have := Hxl.out; omega
            have hfo : fn < O.length := by have := HOl.out; omega
            have hm1 : ∀ k : GrW [] wt, k.val.cell? ⟨b, o + n, none⟩ = some (.slice (some ⟨b3, o3, none⟩) x.length xc') := fun k => k.gr.cell (Hgt.out.cell Hc0.out (by simp)) (by simp)
            have hm2 : ∀ k : GrW [] wt, k.val.cell? ⟨b2, o2 + t, none⟩ = some (.int .i64 fn) := fun k => k.gr.cell c2 (by simp)
            have hm3 : ∀ k : GrW [] wt, k.val.cell? ⟨b3, o3 + fn, none⟩ = some (.int .i64 xf) := fun k => k.gr.cell c3 (by simp)
            have hm4 : ∀ k : GrW [] wt, k.val.cell? ⟨b4, o4 + fn, none⟩ = some (.int .i64 of) := fun k => k.gr.cell c4 (by simp)
            clear hf hfin hxf hof c2 c3 c4
            cases hfe : (xf == of)
            all_goals
              have Hfe := hid hfe
              go_wp2_with fail
              refine wp_region_gr [] _ (by kernel_rfl) (by kernel_rfl) (Gr.refl _ _) ?_
              repeat (go_big_quiet_step (fail))
              refine wpQuiet_nil ?_
              rintro w7 ⟨n7, hw7⟩
              have hg7 : Gr [] wt w7 := hw7 ▸ n7.gr
              clear hw7 n7 hm1 hm2 hm3 hm4
              go_wp2_with fail
              exact ⟨⟨t + 1, _, rfl, by go_num, by omega, by rw [HKB.out, Hfe.out], Hgt.out.trans hg7⟩, by simp [intOf]; omega⟩
        · have hkx : kp = keepB F O x := by rw [Hkp.out, List.take_of_length_le (by omega)]
          have Hkx := hid hkx
          have hc0 := Hgt.out.cell Hc0.out (by simp)
          have HN0 := hid (Hn0.out.gr Hgt.out)
          have HNy := hid (Hn6.out.gr (Hg.out.trans Hgt.out)); have HNo := hid ((HO2.out.gr HG6.out).gr (Hg.out.trans Hgt.out))
          clear hkx
          cases kp
          · go_wp2_with fail
            exact ⟨⟨n + 1, by omega, by go_num, Hg.out.trans Hgt.out⟩, by simp [intOf]; omega⟩
          · have hle := nearO_least Hnear.out Hxs.out (by rw [← keep_ag (fun f hf => by have := HFB.out.2 f hf; have := HDL.out; have := Hxl.out; omega)]; exact Hkx.out.symm)
            obtain ⟨ax, hax⟩ : ∃ ax, ax = apN x O x.length := ⟨_, rfl⟩
            obtain ⟨ay, hay⟩ : ∃ ay, ay = apN ys O ys.length := ⟨_, rfl⟩
            rw [← hax, ← hay] at hle
            have hd1 : decide (ax < ay) = false := decide_eq_false (by omega)
            have hd2 : decide ((ax : Int) < (ay : Int)) = false := decide_eq_false (by omega)
            have Hax := hid hax; have Hay := hid hay
            clear hax hay hle
            go_wp2_with fail
            have hcall := Distance_c x O _ _ _ HN0.out HNo.out (by rw [Hxl.out, HOl.out]) (by have := Hxl.out; omega)
            (with_reducible refine hcall.mono ?_)
            clear hcall
            rw [← Hax.out]
            rintro e w7 ⟨rfl, hg7⟩
            have Hg7 := hid hg7; clear hg7
            go_wp2_with fail
            have hcall := Distance_c ys O _ _ _ (HNy.out.gr Hg7.out) (HNo.out.gr Hg7.out) (by rw [HYL.out, HOl.out]) (by have := HYL.out; omega)
            (with_reducible refine hcall.mono ?_)
            clear hcall
            rw [← Hay.out]
            rintro e w8 ⟨rfl, hg8⟩
            go_wp2_with fail
            exact ⟨⟨n + 1, by omega, by go_num, (Hg.out.trans Hgt.out).trans (Hg7.out.trans hg8)⟩, by simp [intOf]; omega⟩
    · clear hg
      have HFr := hid ((HF2.out.gr HG6.out).gr Hg.out); have HOr := hid ((HO2.out.gr HG6.out).gr Hg.out); have HYr := hid (Hn6.out.gr Hg.out)
      have Hbr := hid (Hg.out.obj Hb6.out (by simp))
      have HK := hid ((keep_ag (fr := F) (old := O) (x := ys) (fun f hf => by have := HFB.out.2 f hf; have := HDL.out; have := HYL.out; omega)).trans Hys.out.2)
      go_wp2_with fail
      go_loopw [14] (fun i' wt => ∃ t : Nat, t ≤ F.length ∧ i' = .int .i64 t ∧ Gr [] wr wt) (fun i' _ => F.length - (intOf i').toNat)
      case atStart => exact ⟨0, Nat.zero_le _, rfl, Gr.refl _ _⟩
      case round =>
        obtain ⟨t, ht, rfl, hgt⟩ := hrel
        have Hgt := hid hgt; clear hgt
        obtain ⟨wt, rfl⟩ : ∃ wt, wt = wr := ⟨_, rfl⟩
        have flt := fld (Hgt.out.obj Hbr.out (by simp))
        by_cases hlt2 : t < F.length
        · obtain ⟨f, hf⟩ := get_some hlt2
          have hfin := HFB.out.2 f (List.mem_of_getElem? hf)
          have hkf := List.all_eq_true.1 HK.out f (List.mem_of_getElem? hf)
          obtain ⟨fn, rfl⟩ := Int.eq_ofNat_of_zero_le hfin.1
          have hfD : fn < D.length := by have := HDL.out; omega
          obtain ⟨yf, hyf⟩ := get_some (xs := ys) (k := fn) (by have := HYL.out; omega)
          obtain ⟨of, hof⟩ := get_some (xs := O) (k := fn) (by have := HOl.out; omega)
          rw [Int.toNat_natCast, getD_here hyf, getD_here hof] at hkf
          obtain rfl : yf = of := eq_of_beq hkf
          obtain ⟨b2, o2, e2, -, c2⟩ := (HFr.out.gr Hgt.out).at hf
          subst e2
          obtain ⟨b3, o3, e3, -, c3⟩ := (HYr.out.gr Hgt.out).at hyf
          subst e3
          obtain ⟨b4, o4, e4, -, c4⟩ := (HOr.out.gr Hgt.out).at hof
          subst e4
          have hfx : fn < ys.length := by have := HYL.out; omega
          have hfo : fn < O.length := by have := HOl.out; omega
          have hm2 : ∀ k : GrW [] wt, k.val.cell? ⟨b2, o2 + t, none⟩ = some (.int .i64 fn) := fun k => k.gr.cell c2 (by simp)
          have hm3 : ∀ k : GrW [] wt, k.val.cell? ⟨b3, o3 + fn, none⟩ = some (.int .i64 yf) := fun k => k.gr.cell c3 (by simp)
          have hm4 : ∀ k : GrW [] wt, k.val.cell? ⟨b4, o4 + fn, none⟩ = some (.int .i64 yf) := fun k => k.gr.cell c4 (by simp)
          have hd3 : (yf != yf) = false := by simp
          clear hf hfin hyf hof c2 c3 c4 hkf
          go_wp2_with fail
          refine wp_region_gr [] _ (by kernel_rfl) (by kernel_rfl) (Gr.refl _ _) ?_
          repeat (go_big_quiet_step (fail))
          refine wpQuiet_nil ?_
          rintro w7 ⟨n7, hw7⟩
          have hg7 : Gr [] wt w7 := hw7 ▸ n7.gr
          clear hw7 n7 hm2 hm3 hm4
          go_wp2_with fail
          exact ⟨⟨t + 1, by omega, by go_num, Hgt.out.trans hg7⟩, by simp [intOf]; omega⟩
        · have HGf := hid (HG6.out.trans (Hg.out.trans Hgt.out))
          have HBB : Hid (isB m.cons D O = decide (ys = O)) := hid (by
            unfold isB
            refine decide_eq_decide.2 ⟨fun h => ?_, fun h => h ▸ Hys.out.1⟩
            have h1 := nearO_least Hnear.out h (agI_self _ _ _)
            rw [apN_self] at h1
            exact apN_eq (by rw [HYL.out, HOl.out]) (by omega))
          obtain ⟨bb, hbb⟩ : ∃ bb, bb = decide (ys = O) := ⟨_, rfl⟩
          have Hbb := hid hbb
          have hbe : (bb == bb) = true := by cases bb <;> rfl
          clear hbb
          go_wp2_with fail
          have hcall := IsSolution_t m D ys _ _ _ (Hmv2.out.gr HGf.out) HVM.out (HYr.out.gr Hgt.out) Hys.out.1
          (with_reducible refine hcall.mono ?_)
          clear hcall
          rintro e w7 ⟨rfl, hg7⟩
          have Hg7 := hid hg7
          have fl7 := fld (hg7.obj (Hgt.out.obj Hbr.out (by simp)) (by simp))
          clear hg7 flt
          go_wp2_with fail
          have hcall := IsSolution_b m D O _ _ _ (Hmv2.out.gr (HGf.out.trans Hg7.out)) HVM.out ((HOr.out.gr Hgt.out).gr Hg7.out)
          (with_reducible refine hcall.mono ?_)
          clear hcall
          rw [HBB.out, ← Hbb.out]
          rintro e w8 ⟨rfl, hg8⟩
          have Hg8 := hid (Hg7.out.trans hg8)
          clear hg8 fl7
          go_wp2_with fail
          have hcall := lawEqualInts_c ys O _ _ _ ((HYr.out.gr Hgt.out).gr Hg8.out) ((HOr.out.gr Hgt.out).gr Hg8.out)
          (with_reducible refine hcall.mono ?_)
          clear hcall
          rw [← Hbb.out]
          rintro e w9 ⟨rfl, hg9⟩
          go_wp2_with fail
          go_ret
          exact ⟨rfl, ((HG2.out.trans HGf.out).trans Hg8.out).trans hg9⟩

end Go.Proofs.YtjmjjdgbkibdaaaGreat
