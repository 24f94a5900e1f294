/-
  Walk of FnLocalSearch.
-/
import Derived.Test.YtdpcjfbnakfflaaGreatLIm
import Derived.Test.YtdpcjfbnakfflaaGreatLs
set_option linter.unusedVariables false
set_option linter.unusedSimpArgs false
namespace Go.Proofs.YtdpcjfbnakfflaaGreat
open Go.RowKit


set_option maxRecDepth 100000 in
set_option maxHeartbeats 8000000 in
theorem FnLocalSearch_c (code : Value) (bs : List Int) (ao : Option Addr) (cap : Nat) (w : World) (hv : code = .slice ao bs.length cap) (hlen : bs.length ≤ 9223372036854775807) (hcap : bs.length ≤ cap) (hc : Cells [] w .u8 ao bs) (hb : ∀ b ∈ bs, 0 ≤ b ∧ b ≤ 255) :
    Calls Tryz.prog 6 #[code] w (fun e w' => e = .returned (.bool true) ∧ Gr [] w w') := by
  subst hv
  have Hc := hid hc; have Hb := hid hb; clear hc hb
  by_cases hbig : 1048576 < bs.length
  · go_enter Tryz.func6, Tryz.ntmps6
    go_wp2_with fail
    go_ret
    exact ⟨rfl, Gr.refl _ _⟩
  have hbig' : decide ((1048576 : Int) < (bs.length : Int)) = false := by simp; omega
  go_enter Tryz.func6, Tryz.ntmps6
  go_wp2_with fail
  have hcall := DrawLocalSearch_c _ bs w ao cap rfl hlen hcap Hc.out Hb.out
  (with_reducible refine hcall.mono ?_)
  clear hcall
  rintro e w1 ⟨m, mv, ov, xv, O, X, rfl, hmv, hms, ⟨hd1, hd4⟩, hO, hX, ⟨hOl, -⟩, ⟨hXl, -⟩, hg1⟩
  obtain ⟨xo, xc, co, cc, rfl⟩ := hmv.slices
  have ha2 : Gr [] w1 (w1.alloc (.cells #[.slice xo m.doms.length xc, .slice co m.cons.length cc] 31)) := (Gr.refl _ _).alloc _
  have hb2 : (w1.alloc (.cells #[.slice xo m.doms.length xc, .slice co m.cons.length cc] 31)).heap[w1.heap.size]? = some (.cells #[.slice xo m.doms.length xc, .slice co m.cons.length cc] 31 (0, 0)) := heap_alloc_new _ _
  have HG2 := hid (hg1.trans ha2); have Hmv2 := hid (hmv.gr ha2); have Hms := hid hms; have Hb2 := hid hb2
  have HO2 := hid (hO.gr ha2); have HX2 := hid (hX.gr ha2)
  obtain ⟨Oo, Oc, rfl, ⟨hO1, hO2, -⟩, -⟩ := hO
  obtain ⟨Xo, Xc, rfl, ⟨hX1, hX2, -⟩, -⟩ := hX
  clear hmv hms ha2 hb2 hg1 hbig
  obtain ⟨D, hD⟩ := openVM m
  have HD := hid hD; clear hD
  go_wp2_with fail
  have hcall := LocalSearch_c m O X _ _ _ _ Hmv2.out HO2.out HX2.out D HD.out
  (with_reducible refine hcall.mono ?_)
  clear hcall
  obtain ⟨Y, hY⟩ : ∃ Y, Y = locO m D O X := ⟨_, rfl⟩
  rw [← hY]
  have HY := hid hY; clear hY
  rintro e w3 ⟨v3, rfl, hn3, hg3⟩
  have hn3 := hn3.nums (S := []) (by simp)
  have Hn3 := hid hn3
  obtain ⟨zo, zc, rfl, ⟨hz1, hz2, -⟩, -⟩ := hn3
  have fl3 := fld (hg3.obj Hb2.out (by simp))
  have HG3 := hid hg3; clear hg3
  go_wp2_with fail
  have hcall := specLocalSearch_c m O X _ _ _ _ (Hmv2.out.gr HG3.out) Hms.out (HO2.out.gr HG3.out) (HX2.out.gr HG3.out) D HD.out
  (with_reducible refine hcall.mono ?_)
  clear hcall
  rw [← HY.out]
  rintro e w4 ⟨v4, rfl, hn4, hg4⟩
  have Hn4 := hid hn4
  have HG4 := hid (HG3.out.trans hg4); have Hg4 := hid hg4
  have fl4 := fld (HG4.out.obj Hb2.out (by simp))
  obtain ⟨ok, hok⟩ : ∃ ok, ok = Y.isSome := ⟨_, rfl⟩
  rw [← hok]
  have Hok := hid hok
  obtain ⟨ys, hys⟩ : ∃ ys, ys = Y.getD [] := ⟨_, rfl⟩
  rw [← hys] at Hn3 Hn4 hz1 ⊢
  have Hyl := hid hys
  have hne : (ok != ok) = false := by cases ok <;> rfl
  have heq : (ok == ok) = true := by cases ok <;> rfl
  clear hn4 hg4 fl3 hok hys
  go_wp2_with fail
  have hcall := lawEqualInts_c ys ys _ _ _ (Hn3.out.gr Hg4.out) Hn4.out
  (with_reducible refine hcall.mono ?_)
  clear hcall
  rw [decide_eq_true (rfl : ys = ys)]
  rintro e w5 ⟨rfl, hg5⟩
  have HG5 := hid (HG4.out.trans hg5); have Hn5 := hid (Hn3.out.gr (Hg4.out.trans hg5)); have Hm5 := hid (Hn4.out.gr hg5)
  have Hb5 := hid (HG5.out.obj Hb2.out (by simp))
  clear hg5 fl4
  cases hY : Y with
  | none =>
    have Hokf : ok = false := by rw [Hok.out, hY]; rfl
    subst Hokf
    clear hY
    go_wp2_with fail
    have hcall := lawEqualInts_c ys ys _ _ _ Hn5.out Hm5.out
    (with_reducible refine hcall.mono ?_)
    clear hcall
    rw [decide_eq_true (rfl : ys = ys)]
    rintro e w7 ⟨rfl, hg7⟩
    go_wp2_with fail
    go_ret
    exact ⟨rfl, (HG2.out.trans HG5.out).trans hg7⟩
  | some y =>
  have Hokt : ok = true := by rw [Hok.out, hY]; rfl
  subst Hokt
  have hysy : ys = y := by rw [Hyl.out, hY]; rfl
  subst hysy
  have hin : (validM m && (objB O m.doms.length && isB m.cons D X)) = true := by
    cases h : (validM m && (objB O m.doms.length && isB m.cons D X))
    · exfalso; have := HY.out; rw [locO_no h, hY] at this; cases this
    · rfl
  have hst : ys = locL m.cons D O X := by
    have := HY.out
    rw [locO_yes hin, hY] at this
    exact Option.some.inj this
  simp only [Bool.and_eq_true] at hin
  obtain ⟨hval, hob, his⟩ := hin
  have HVM := hid (HD.out hval)
  have Hval := hid hval; have Hob := hid hob
  have HDL : Hid (m.doms.length = D.length) := hid (by rw [HVM.out.doms, ints_len])
  have Hxs : Hid (X ∈ sols m.cons D) := hid (of_decide_eq_true his)
  have HXL : Hid (X.length = D.length) := hid (solv Hxs.out).1
  have HLB := hid (lowB_of HVM.out hob)
  have Hfix := hid (locL_fix HLB.out Hxs.out)
  rw [← hst] at Hfix
  have Hys : Hid (ys ∈ sols m.cons D) := hid Hfix.out.1
  have His : Hid (isB m.cons D ys = true) := hid (decide_eq_true Hys.out)
  have HYL : Hid (ys.length = D.length) := hid (solv Hys.out).1
  have hD4 : D.length ≤ 4 := HVM.out.len.2
  have hyd : ys.length ≤ 4 := by have := HYL.out; omega
  clear hval hob his hst hY
  go_wp2_with fail
  go_loopw [10] (fun i wr => ∃ n : Nat, n ≤ ys.length ∧ i = .int .i64 n ∧ Gr [] w5 wr) (fun i _ => ys.length - (intOf i).toNat)
  case atStart => exact ⟨0, Nat.zero_le _, rfl, Gr.refl _ _⟩
  case round =>
    obtain ⟨n, hn, rfl, hg⟩ := hrel
    have Hg := hid hg
    clear hg
    obtain ⟨w6, rfl⟩ : ∃ w6, w6 = wr := ⟨_, rfl⟩
    by_cases hlt : n < ys.length
    · go_wp2_with fail
      go_loopw [11] (fun j wt => ∃ t : Nat, n < t ∧ t ≤ ys.length ∧ j = .int .i64 t ∧ Gr [] w6 wt) (fun j _ => ys.length - (intOf j).toNat)
      case atStart => exact ⟨n + 1, Nat.lt_succ_self _, by omega, by go_num, Gr.refl _ _⟩
      case round =>
        obtain ⟨t, hnt, ht, rfl, hgt⟩ := hrel
        have Hgt := hid hgt
        clear hgt
        obtain ⟨w7, rfl⟩ : ∃ w7, w7 = wr := ⟨_, rfl⟩
        have HGa := hid (HG5.out.trans (Hg.out.trans Hgt.out))
        have Hny := hid (Hn5.out.gr (Hg.out.trans Hgt.out))
        by_cases hlt2 : t < ys.length
        · have flt := fld ((Hg.out.trans Hgt.out).obj Hb5.out (by simp))
          have HT : Hid (impO m D O ys [(n : Int), (t : Int)] = some ys) := hid (by
            have hfr : frB [(n : Int), (t : Int)] m.doms.length = true := by
              unfold frB
              rw [Bool.and_eq_true, decide_eq_true_eq]
              refine ⟨by simp, allB_iff.2 fun x hx => ?_⟩
              have := HYL.out; have := HDL.out
              simp at hx
              rcases hx with rfl | rfl <;> omega
            rw [impO_yes (by rw [Hval.out, Hob.out, His.out, hfr]; rfl)]
            exact congrArg some (rnd_fix HLB.out Hys.out Hfix.out.2.1 hnt (by have := HYL.out; omega)))
          go_wp2_with fail
          refine (Improve_c m O ys [(n : Int), (t : Int)] _ _ _ _ _ ((Hmv2.out.gr HGa.out).gr ((Gr.refl [] w7).alloc _)) ((HO2.out.gr HGa.out).gr ((Gr.refl [] w7).alloc _)) (Hny.out.gr ((Gr.refl [] w7).alloc _)) (nums_new _ _ _ (by simp)) D HD.out).mono ?_
          rw [HT.out]
          rintro e w8 ⟨v8, rfl, hn8, hg8⟩
          have hn8 := hn8.nums (S := []) (by simp)
          rw [Option.getD_some] at hn8
          obtain ⟨ho8, hc8, rfl, -, -⟩ := id hn8
          have Hn8 := hid hn8; have Hg8 := hid (((Gr.refl [] w7).alloc (.cells #[.int .i64 n, .int .i64 t] 3)).trans hg8)
          clear hn8 hg8 flt
          go_wp2_with fail
          have hcall := lawEqualInts_c ys ys _ _ _ Hn8.out (Hny.out.gr Hg8.out)
          (with_reducible refine hcall.mono ?_)
          clear hcall
          rw [decide_eq_true (rfl : ys = ys)]
          rintro e w9 ⟨rfl, hg9⟩
          go_wp2_with fail
          exact ⟨⟨t + 1, by omega, by omega, by go_num, (Hgt.out.trans Hg8.out).trans hg9⟩, by simp [intOf]; omega⟩
        · go_wp2_with fail
          exact ⟨⟨n + 1, by omega, by go_num, Hg.out.trans Hgt.out⟩, by simp [intOf]; omega⟩
    · have HGr := hid (HG5.out.trans Hg.out)
      have Hbr := hid (Hg.out.obj Hb5.out (by simp))
      have flr := fld Hbr.out
      have HU : Hid (locO m D O ys = some ys) := hid (by
        rw [locO_yes (by rw [Hval.out, Hob.out, His.out]; rfl)]
        exact congrArg some (locL_self Hfix.out.2.1))
      have HN6 := hid (Hn5.out.gr Hg.out)
      go_wp2_with fail
      have hcall := LocalSearch_c m O ys _ _ _ _ (Hmv2.out.gr HGr.out) (HO2.out.gr HGr.out) HN6.out D HD.out
      (with_reducible refine hcall.mono ?_)
      clear hcall
      rw [HU.out]
      rintro e w9 ⟨v9, rfl, hn9, hg9⟩
      have hn9 := hn9.nums (S := []) (by simp)
      rw [Option.getD_some] at hn9
      obtain ⟨ho9, hc9, rfl, -, -⟩ := id hn9
      have Hn9 := hid hn9; have Hg9 := hid hg9
      have fl9 := fld (Hg9.out.obj Hbr.out (by simp))
      clear hn9 hg9 flr
      go_wp2_with fail
      have hcall := IsSolution_t m D ys _ _ _ (Hmv2.out.gr (HGr.out.trans Hg9.out)) HVM.out (HN6.out.gr Hg9.out) Hys.out
      (with_reducible refine hcall.mono ?_)
      clear hcall
      rintro e w10 ⟨rfl, hg10⟩
      have Hg10 := hid (Hg9.out.trans hg10); have Hg10' := hid hg10
      clear hg10 fl9
      have hab : objVal O ys ≤ objVal O X := by
        rw [objVal_dot Hob.out (by rw [HYL.out, HDL.out]) (by have := HDL.out; omega) (solv Hys.out).2, objVal_dot Hob.out (by rw [HXL.out, HDL.out]) (by have := HDL.out; omega) (solv Hxs.out).2]
        exact Hfix.out.2.2
      obtain ⟨av, hav⟩ : ∃ av, av = objVal O ys := ⟨_, rfl⟩
      obtain ⟨bv, hbv⟩ : ∃ bv, bv = objVal O X := ⟨_, rfl⟩
      rw [← hav, ← hbv] at hab
      have hle : decide (av ≤ bv) = true := decide_eq_true hab
      have Hav := hid hav; have Hbv := hid hbv
      clear hav hbv hab
      go_wp2_with fail
      have hcall := ObjectiveValue_c O ys _ _ _ (HO2.out.gr (HGr.out.trans Hg10.out)) (HN6.out.gr Hg10.out)
      (with_reducible refine hcall.mono ?_)
      clear hcall
      rw [← Hav.out]
      rintro e w11 ⟨rfl, hg11⟩
      have Hg11 := hid (Hg10.out.trans hg11); have Hg11' := hid hg11
      clear hg11
      go_wp2_with fail
      have hcall := ObjectiveValue_c O X _ _ _ (HO2.out.gr (HGr.out.trans Hg11.out)) (HX2.out.gr (HGr.out.trans Hg11.out))
      (with_reducible refine hcall.mono ?_)
      clear hcall
      rw [← Hbv.out]
      rintro e w12 ⟨rfl, hg12⟩
      have Hg12 := hid (Hg11.out.trans hg12)
      have Hn9' := hid (Hn9.out.gr (Hg10'.out.trans (Hg11'.out.trans hg12)))
      clear hg12
      go_wp2_with fail
      have hcall := lawEqualInts_c ys ys _ _ _ Hn9'.out (HN6.out.gr Hg12.out)
      (with_reducible refine hcall.mono ?_)
      clear hcall
      rw [decide_eq_true (rfl : ys = ys)]
      rintro e w13 ⟨rfl, hg13⟩
      go_wp2_with fail
      go_ret
      exact ⟨rfl, (HG2.out.trans (HGr.out.trans Hg12.out)).trans hg13⟩

end Go.Proofs.YtdpcjfbnakfflaaGreat
