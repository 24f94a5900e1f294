/-
  Walk of FnPropagateSound.
-/
import Derived.Test.YthjmdcilfbgidaaLPF
import Derived.Test.YthjmdcilfbgidaaSk
set_option linter.unusedVariables false
namespace Go.Proofs.Ythjmdcilfbgidaa
open Go.RowKit

theorem DomainHas_t {d v : Nat} (hd : d < 64) (hv : v < 6) (hb : d.testBit v = true) (w : World) : Calls Try.prog 33 #[.int .i64 d, .int .i64 v] w fun e w' => e = .returned (.bool true) ∧ w' = w := by
  have h := DomainHas_c d v hd hv w
  rwa [hb] at h
theorem RowsV.at {S : List Nat} {w : World} {ao : Option Addr} {n cap : Nat} {rows : List (List Int)} (h : RowsV S w (.slice ao n cap) rows) {i : Nat} {r : List Int} (hi : rows[i]? = some r) :
    ∃ b o u, ao = some ⟨b, o, none⟩ ∧ w.cell? ⟨b, o + i, none⟩ = some u ∧ Nums S w .i64 u r := by
  obtain ⟨ao', cap', e, _, hc⟩ := h
  cases e
  obtain ⟨b, o, u, e1, _, h1, h2⟩ := hc i r hi
  exact ⟨b, o, u, e1, h1, h2⟩

set_option maxRecDepth 100000 in
set_option maxHeartbeats 2000000 in
theorem FnPropagateSound_c (code : Value) (bs : List Int) (ao : Option Addr) (cap : Nat) (w : World) (hv : code = .slice ao bs.length cap) (hlen : bs.length ≤ 9223372036854775807) (hcap : bs.length ≤ cap) (hc : Cells [] w .u8 ao bs) (hb : ∀ b ∈ bs, 0 ≤ b ∧ b ≤ 255) :
    Calls Try.prog 7 #[code] w (fun e w' => e = .returned (.bool true) ∧ Gr [] w w') := by
  subst hv
  have Hc := hid hc; have Hb := hid hb; clear hc hb
  by_cases hbig : 1048576 < bs.length
  · go_enter Try.func7, Try.ntmps7
    go_wp2_with fail
    go_ret
    exact ⟨rfl, Gr.refl _ _⟩
  have hbig' : decide ((1048576 : Int) < (bs.length : Int)) = false := by simp; omega
  go_enter Try.func7, Try.ntmps7
  go_wp2_with fail
  have hcall := DrawPropagate_c _ bs w ao cap rfl hlen hcap Hc.out Hb.out
  (with_reducible refine hcall.mono ?_)
  clear hcall
  rintro e w1 ⟨m, mv, rfl, hmv, hms, hg1⟩
  obtain ⟨dv, cv, rfl, hdv, hcv⟩ := hmv
  have hmv : ModV [] w1 (.agg #[dv, cv]) m := ⟨dv, cv, rfl, hdv, hcv⟩
  obtain ⟨xo, xc, rfl, ⟨hx1, hx2, hx3⟩, hxc⟩ := hdv
  have Hcv := hid hcv
  obtain ⟨co, cc, rfl, _, _⟩ := hcv
  have ha2 : Gr [] w1 (w1.alloc (.cells #[.slice xo m.doms.length xc, .slice co m.cons.length cc] 26)) := (Gr.refl _ _).alloc _
  have hb2 : (w1.alloc (.cells #[.slice xo m.doms.length xc, .slice co m.cons.length cc] 26)).heap[w1.heap.size]? = some (.cells #[.slice xo m.doms.length xc, .slice co m.cons.length cc] 26 (0, 0)) := heap_alloc_new _ _
  have HG2 := hid (hg1.trans ha2); have Hmv2 := hid (hmv.gr ha2); have Hms := hid hms; have Hb2 := hid hb2; have Hcv2 := hid (Hcv.out.gr ha2)
  clear hmv hms ha2 hb2 hg1 hxc hbig Hcv
  obtain ⟨D, hD⟩ : ∃ D, validM m = true → VM m D := by
    by_cases h : validM m = true
    · obtain ⟨D, h⟩ := validM_open h; exact ⟨D, fun _ => h⟩
    · exact ⟨[], fun h' => absurd h' h⟩
  have HD := hid hD; clear hD
  go_wp2_with fail
  have hcall := Propagate_c m _ _ Hmv2.out D HD.out
  (with_reducible refine hcall.mono ?_)
  clear hcall
  rintro e w3 ⟨v3, rfl, hopt3, hg3⟩
  have hb3 := hg3.obj Hb2.out (by simp)
  have hn3 := hopt3.nums
  have Hn3 := hid hn3
  obtain ⟨do3, dc3, rfl, ⟨hd31, hd32, _⟩, _⟩ := hn3
  have HG3 := hid hg3; have Hb3 := hid hb3
  have fl3 := fld hb3
  clear hopt3 hg3 hb3
  go_wp2_with fail
  have hcall := specPropagate_c m _ _ (Hmv2.out.gr HG3.out) Hms.out D HD.out
  (with_reducible refine hcall.mono ?_)
  clear hcall
  rintro e w4 ⟨v4, rfl, hopt4, hg4⟩
  have Hn4 := hid hopt4.nums
  have HG4 := hid hg4; clear hopt4 hg4
  go_wp2_with fail
  have hcall := lawEqualInts_c _ _ _ _ _ (Hn3.out.gr HG4.out) Hn4.out
  (with_reducible refine hcall.mono ?_)
  clear hcall
  rw [decide_eq_true (rfl : (propO m D).getD [] = (propO m D).getD [])]
  rintro e w5 ⟨rfl, hg5⟩
  have HG35 := hid (HG4.out.trans hg5); clear HG4 hg5 fl3
  have hb5 := HG35.out.obj Hb3.out (by simp)
  have Hb5 := hid hb5
  have fl5 := fld hb5
  have HG25 := hid (HG3.out.trans HG35.out)
  clear hb5
  cases hval : validM m
  · have hp : propO m D = none := by unfold propO; rw [hval]; rfl
    have Hp := hid hp
    rw [hp] at Hn3 Hn4 hd31 ⊢
    simp only [Option.getD_none, List.length_nil] at Hn3 Hn4 hd31 ⊢
    clear hp hval
    go_wp2_with fail
    have hcall := specPropagate_c m _ _ (Hmv2.out.gr HG25.out) Hms.out D HD.out
    (with_reducible refine hcall.mono ?_)
    clear hcall
    rintro e w6 ⟨v6, rfl, hopt6, hg6⟩
    have Hn6 := hid hopt6.nums
    have HG6 := hid hg6; clear hopt6 hg6
    go_wp2_with fail
    have hcall := lawEqualInts_c _ _ _ _ _ (Hn3.out.gr (HG35.out.trans HG6.out)) Hn6.out
    (with_reducible refine hcall.mono ?_)
    clear hcall
    rintro e w7 ⟨rfl, hg7⟩
    go_wp2_with fail
    go_ret
    exact ⟨ret_bool (by rw [Hp.out]; simp), ((HG2.out.trans HG25.out).trans HG6.out).trans hg7⟩
  · have hVM := HD.out hval
    have HVM := hid hVM; have Hval := hid hval
    have hp : propO m D = some (ints (fix m.cons D)) := by unfold propO; rw [hval]; rfl
    have Hp := hid hp
    have hfl := fix_len hVM.cons
    have hl1 : 0 < (fix m.cons D).length := by rw [hfl]; have := hVM.len; omega
    have hl4 : (fix m.cons D).length ≤ 4 := by rw [hfl]; have := hVM.len; omega
    clear hVM hval HD hfl
    rw [hp] at Hn3 hd31 ⊢
    simp only [Option.getD_some] at Hn3 hd31 ⊢
    rw [ints_len] at Hn3 hd31 ⊢
    clear hp
    have hz : (((fix m.cons D).length : Int) == 0) = false := beq_eq_false_iff_ne.2 (by omega)
    have Hn5 := hid (Hn3.out.gr HG35.out)
    have HX5 : Hid (ModV [] w5 (.agg #[.slice do3 (fix m.cons D).length dc3, .slice co m.cons.length cc]) ⟨ints (fix m.cons D), m.cons⟩) := hid ⟨_, _, rfl, Hn5.out, Hcv2.out.gr HG25.out⟩
    have HVX := hid HVM.out.fixed
    have hcnt : countI ⟨ints (fix m.cons D), m.cons⟩ (fix m.cons D) = countI m D := by unfold countI; rw [HVX.out.valid, Hval.out, if_pos rfl, if_pos rfl, sols_fix HVM.out.cons]
    have Hcnt := hid hcnt
    clear hcnt
    go_wp2_with fail
    have hcall := SolveAll_c m 20 _ w5 (Hmv2.out.gr HG25.out) D (fun _ => HVM.out)
    (with_reducible refine hcall.mono ?_)
    clear hcall
    rintro e w6 ⟨v6, rfl, hr6, hg6⟩
    obtain ⟨zs, hzs⟩ : ∃ zs, zs = allO m 20 D := ⟨_, rfl⟩
    rw [← hzs] at hr6
    have hsol : ∀ x ∈ zs, In x (fix m.cons D) := by
      intro x hx
      rw [hzs] at hx
      unfold allO at hx
      split at hx
      · have h1 := List.mem_of_mem_take hx
        rw [← sols_fix HVM.out.cons] at h1
        exact (mem_sols.1 h1).1
      · simp at hx
    have Hsol := hid hsol; have Hr6 := hid hr6; have Hg6 := hid hg6
    obtain ⟨zo, zc, rfl, ⟨hz1, hz2, _⟩, _⟩ := hr6
    have hb6 := hg6.obj Hb5.out (by simp)
    have fl6 := fld hb6
    have Hb6 := hid hb6
    clear hsol hg6 hzs hb6
    go_wp2_with fail
    go_loopw [6] (fun i wr => ∃ n : Nat, n ≤ zs.length ∧ i = .int .i64 n ∧ Gr [] w6 wr) (fun i _ => zs.length - (intOf i).toNat)
    case atStart => exact ⟨0, by omega, rfl, Gr.refl _ _⟩
    case round =>
      obtain ⟨n, hn, rfl, hg⟩ := hrel
      have flr := fld (hg.obj Hb6.out (by simp))
      have Hg := hid hg
      clear hg
      by_cases hlt : n < zs.length
      · obtain ⟨x, hx⟩ := get_some hlt
        have hin := Hsol.out x (List.mem_of_getElem? hx)
        have Hin := hid hin; have Hx := hid hx
        clear hx hin flr
        obtain ⟨wR, hwR⟩ : ∃ wR : World, wR = wr := ⟨_, rfl⟩
        rw [← hwR] at Hg ⊢
        clear hwR
        go_wp2_with fail
        go_loopw [7] (fun i wi => ∃ j : Nat, j ≤ (fix m.cons D).length ∧ i = .int .i64 j ∧ Gr [] wR wi) (fun i _ => (fix m.cons D).length - (intOf i).toNat)
        case atStart => exact ⟨0, by omega, rfl, Gr.refl _ _⟩
        case round =>
          obtain ⟨j, hj, rfl, hgi⟩ := hrel
          have Hgi := hid hgi
          by_cases hlj : j < (fix m.cons D).length
          · obtain ⟨u, hu1, hu6, hub⟩ := Hin.out.get hlj
            obtain ⟨f, hf⟩ := get_some hlj
            have hf64 := HVX.out.below f (List.mem_of_getElem? hf)
            have hfu : f.testBit u = true := by simpa [List.getD_eq_getElem?_getD, hf] using hub
            have hg6i := Hg.out.trans hgi
            obtain ⟨b1, o1, rfl, _, hc1⟩ := ((Hn5.out.gr Hg6.out).gr hg6i).at (i := j) (x := (f : Int)) (by rw [ints_get, hf]; rfl)
            obtain ⟨b2, o2, u2, rfl, hc2, hn2⟩ := (Hr6.out.gr hg6i).at Hx.out
            have hjx : j < x.length := (List.getElem?_eq_some_iff.1 hu1).1
            obtain ⟨xo, xc, rfl, _, _⟩ := id hn2
            obtain ⟨b3, o3, rfl, _, hc3⟩ := hn2.at hu1
            have Hfu := hid hfu
            clear hub hf hfu hgi hg6i hn2 hu1
            go_wp2_with fail
            go_quiet ((go_at_call 33; exact Calls.quiet_of_same (DomainHas_t hf64 hu6 Hfu.out _)))
            go_wp2_with fail
            exact ⟨⟨j + 1, by omega, by go_num, Hgi.out.drewN _⟩, by simp [intOf]; omega⟩
          · clear hgi
            go_wp2_with fail
            exact ⟨⟨n + 1, by omega, by go_num, Hg.out.trans Hgi.out⟩, by simp [intOf]; omega⟩
      · go_wp2_with fail
        have hgr : Gr [] w5 wr := Hg6.out.trans Hg.out
        have HS : Hid (∀ w', Gr [] wr w' → w'.cell? ⟨w1.heap.size, 0, none⟩ = some (.slice xo m.doms.length xc) ∧ w'.cell? ⟨w1.heap.size, 1, none⟩ = some (.slice co m.cons.length cc) ∧ Gr [] wr w') :=
          hid fun w' h => ⟨fld (h.obj (hgr.obj Hb5.out (by simp)) (by simp)) 0, fld (h.obj (hgr.obj Hb5.out (by simp)) (by simp)) 1, h⟩
        have HX6 := hid (HX5.out.gr hgr); have Hm6 := hid ((Hmv2.out.gr HG25.out).gr hgr)
        have Hgr := hid hgr
        clear hgr
        go_region_held3 (fun w' => w'.cell? ⟨w1.heap.size, 0, none⟩ = some (.slice xo m.doms.length xc) ∧ w'.cell? ⟨w1.heap.size, 1, none⟩ = some (.slice co m.cons.length cc) ∧ Gr [] wr w')
          (first | exact HS.out _ ((Gr.refl [] _).drew) | (go_split_ands; exact HS.out _ (Gr.trans (by assumption) hg8)) | (go_split_ands; exact HS.out _ (Gr.trans (by assumption) hg7)))
          (first
            | (go_at_call 24; go_split_ands; refine (CountSolutions_c ⟨ints (fix m.cons D), m.cons⟩ _ _ (HX6.out.gr (by assumption)) (fix m.cons D) (fun _ => HVX.out)).mono ?_; rintro e w7 ⟨rfl, hg7⟩)
            | (go_at_call 24; go_split_ands; refine (CountSolutions_c m _ _ (Hm6.out.gr (by assumption)) D (fun _ => HVM.out)).mono ?_; rintro e w8 ⟨rfl, hg8⟩))
        all_goals
          go_wp2_with fail
          go_ret
          exact ⟨ret_bool (by rw [Hcnt.out]; simp), (((HG2.out.trans HG25.out).trans Hgr.out).trans ((Gr.refl _ _).drew)).trans (Gr.trans hg7 hg8)⟩
end Go.Proofs.Ythjmdcilfbgidaa
