/-
  Walks of laws.equalInts and FnIsConsistent.
-/
import Derived.Test.YthjmdcilfbgidaaG8
set_option linter.unusedVariables false
namespace Go.Proofs.Ythjmdcilfbgidaa
open Go.RowKit

theorem lawEqualInts_c (xs ys : List Int) (vx vy : Value) (w : World) (hx : Nums [] w .i64 vx xs) (hy : Nums [] w .i64 vy ys) :
    Calls Try.prog 15 #[vx, vy] w fun e w' => e = .returned (.bool (decide (xs = ys))) ∧ Gr [] w w' := by
  obtain ⟨xo, xc, rfl, ⟨hx1, hx2, _⟩, hxc⟩ := hx
  obtain ⟨yo, yc, rfl, ⟨hy1, hy2, _⟩, hyc⟩ := hy
  have Hxc := hid hxc; have Hyc := hid hyc; clear hxc hyc
  have hxl : xs.length ≤ 9223372036854775807 := by omega
  have hyl : ys.length ≤ 9223372036854775807 := by omega
  cases hl : ((xs.length : Int) != (ys.length : Int))
  rotate_left
  · have hne : xs ≠ ys := by rintro rfl; simp at hl
    have Hne := hid hne; clear hne
    go_enter Try.func15, Try.ntmps15
    go_wp2_with fail
    go_ret
    exact ⟨ret_bool (by simp [Hne.out]), Gr.refl _ _⟩
  have hle : xs.length ≤ ys.length := by simp at hl; omega
  have hge : ys.length ≤ xs.length := by simp at hl; omega
  go_enter Try.func15, Try.ntmps15
  go_wp2_with fail
  go_loopw [5] (fun i wr => ∃ n : Nat, n ≤ xs.length ∧ i = .int .i64 n ∧ (xs.drop n = ys.drop n ↔ xs = ys) ∧ Gr [] w wr) (fun i _ => xs.length - (intOf i).toNat)
  case atStart => exact ⟨0, Nat.zero_le _, rfl, by simp, Gr.refl _ _⟩
  case round =>
    obtain ⟨n, hn, rfl, hd, hg⟩ := hrel
    have Hd := hid hd; clear hd
    by_cases hlt : n < xs.length
    · obtain ⟨x, hx⟩ := get_some hlt
      obtain ⟨y, hy⟩ := get_some (show n < ys.length by omega)
      obtain ⟨b, o, rfl, _, h0⟩ := (Hxc.out.gr hg) n x hx
      obtain ⟨b', o', rfl, _, h1⟩ := (Hyc.out.gr hg) n y hy
      have HX := hid (drop_cons hx); have HY := hid (drop_cons hy); clear hx hy
      have hny : n < ys.length := by omega
      cases hb : (x != y)
      · go_wp2_with fail
        go_quiet (fail)
        go_wp2_with fail
        refine ⟨⟨n + 1, by omega, by go_num, ?_, hg.drewN _⟩, by simp [intOf]; omega⟩
        have := Hd.out
        rw [HX.out, HY.out] at this
        have e : x = y := by simpa using hb
        rw [← this, e]; simp
      · go_wp2_with fail
        go_quiet (fail)
        go_wp2_with fail
        go_ret
        refine ⟨ret_bool ?_, hg.drewN _⟩
        have := Hd.out
        rw [HX.out, HY.out] at this
        have e : x ≠ y := by simpa using hb
        symm
        rw [decide_eq_false_iff_not, ← this]; simp [e]
    · go_wp2_with fail
      go_ret
      refine ⟨ret_bool ?_, hg⟩
      symm
      rw [decide_eq_true_eq, ← Hd.out, drop_end (by omega), drop_end (by omega)]

/-- Domains that no constraint changes are those that propagation leaves as they are. -/
theorem cons_iff_fix {m : Mod} {D : List Nat} (h : VM m D) (h0 : 0 ∉ D) : consB m.cons D = decide (fix m.cons D = D) := by
  rw [Bool.eq_iff_iff, consB_iff, decide_eq_true_eq, ← stepF_eq_iff h.cons]
  constructor
  · exact fix_done h.cons h0
  · intro he
    by_cases hs : stepF m.cons D = D
    · exact hs
    · have h1 := fix_more h.cons h0 hs
      have h2 := fix_sub (cs := m.cons) (D := stepF m.cons D) (by rw [stepF_len]; exact h.cons)
      rw [← h1, he] at h2
      have := stepF_sub h.cons
      exact this.antisymm h2

set_option maxRecDepth 100000 in
set_option maxHeartbeats 1000000 in
theorem FnIsConsistent_c (code : Value) (bs : List Int) (ao : Option Addr) (cap : Nat) (w : World) (hv : code = .slice ao bs.length cap) (hlen : bs.length ≤ 9223372036854775807) (hcap : bs.length ≤ cap) (hc : Cells [] w .u8 ao bs) (hb : ∀ b ∈ bs, 0 ≤ b ∧ b ≤ 255) :
    Calls Try.prog 3 #[code] w (fun e w' => e = .returned (.bool true) ∧ Gr [] w w') := by
  subst hv
  have Hc := hid hc; have Hb := hid hb; clear hc hb
  by_cases hbig : 1048576 < bs.length
  · go_enter Try.func3, Try.ntmps3
    go_wp2_with fail
    go_ret
    exact ⟨rfl, Gr.refl _ _⟩
  have hbig' : decide ((1048576 : Int) < (bs.length : Int)) = false := by simp; omega
  go_enter Try.func3, Try.ntmps3
  go_wp2_with fail
  have hcall := DrawIsConsistent_c _ bs w ao cap rfl hlen hcap Hc.out Hb.out
  (with_reducible refine hcall.mono ?_)
  clear hcall
  rintro e w1 ⟨m, mv, rfl, hmv, hms, hg1⟩
  obtain ⟨dv, cv, rfl, hdv, hcv⟩ := hmv
  have hmv : ModV [] w1 (.agg #[dv, cv]) m := ⟨dv, cv, rfl, hdv, hcv⟩
  obtain ⟨xo, xc, rfl, ⟨hx1, hx2, hx3⟩, hxc⟩ := hdv
  obtain ⟨co, cc, rfl, _, _⟩ := hcv
  have ha2 : Gr [] w1 (w1.alloc (.cells #[.slice xo m.doms.length xc, .slice co m.cons.length cc] 26)) := (Gr.refl _ _).alloc _
  have hb2 : (w1.alloc (.cells #[.slice xo m.doms.length xc, .slice co m.cons.length cc] 26)).heap[w1.heap.size]? = some (.cells #[.slice xo m.doms.length xc, .slice co m.cons.length cc] 26 (0, 0)) := heap_alloc_new _ _
  have HG2 := hid (hg1.trans ha2); have Hmv2 := hid (hmv.gr ha2); have Hms := hid hms; have Hb2 := hid hb2
  clear hmv hms ha2 hb2 hg1 hxc hbig
  obtain ⟨D, hD⟩ : ∃ D, validM m = true → VM m D := by
    by_cases h : validM m = true
    · obtain ⟨D, h⟩ := validM_open h; exact ⟨D, fun _ => h⟩
    · exact ⟨[], fun h' => absurd h' h⟩
  have HD := hid hD; clear hD
  go_wp2_with fail
  have hcall := IsConsistent_c m _ _ Hmv2.out D HD.out
  (with_reducible refine hcall.mono ?_)
  clear hcall
  rintro e w3 ⟨rfl, hg3⟩
  have fl3 := fld (hg3.obj Hb2.out (by simp))
  have HG3 := hid hg3; clear hg3
  go_wp2_with fail
  have hcall := specIsConsistentM_c m _ _ (Hmv2.out.gr HG3.out) Hms.out D HD.out
  (with_reducible refine hcall.mono ?_)
  clear hcall
  rintro e w4 ⟨rfl, hg4⟩
  have hg24 := HG3.out.trans hg4
  have fl4 := fld (hg24.obj Hb2.out (by simp))
  have HG4 := hid hg24; clear hg24 hg4 fl3
  go_wp2_with fail
  have hcall := ValidModel_c m _ _ (Hmv2.out.gr HG4.out)
  (with_reducible refine hcall.mono ?_)
  clear hcall
  rintro e w5 ⟨rfl, hg5⟩
  have hg25 := HG4.out.trans hg5
  have fl5 := fld (hg25.obj Hb2.out (by simp))
  have HG5 := hid hg25; clear hg25 hg5 fl4
  cases hval : validM m
  · have Hval := hid hval; clear hval
    go_wp2_with fail
    have hcall := specIsConsistentM_c m _ _ (Hmv2.out.gr HG5.out) Hms.out D HD.out
    (with_reducible refine hcall.mono ?_)
    clear hcall
    rintro e w6 ⟨rfl, hg6⟩
    go_wp2_with fail
    go_ret
    exact ⟨ret_bool (by simp), (HG2.out.trans HG5.out).trans hg6⟩
  · have hVM := HD.out hval
    have HVM := hid hVM; have Hval := hid hval; clear hVM hval HD
    have Hmv5 := hid (Hmv2.out.gr HG5.out)
    have Hn5 := hid Hmv5.out.parts.1
    have hdl : m.doms.length = D.length := by rw [HVM.out.doms, ints_len]
    have HDL := hid hdl; clear hdl
    have hisc : isConsB m D = (!decide (0 ∈ D) && consB m.cons D) := by unfold isConsB; rw [Hval.out, Bool.true_and]
    have HI := hid hisc; clear hisc
    have hlen4 : m.doms.length ≤ 4 := by have := HVM.out.len; have := HDL.out; omega
    go_wp2_with fail
    go_loop [5, 6] (fun v i => ∃ n : Nat, n ≤ m.doms.length ∧ i = .int .i64 n ∧ v = .bool (decide (0 ∈ D.take n))) (fun _ i => m.doms.length - (intOf i).toNat)
    case atStart => exact ⟨0, by omega, rfl, by simp⟩
    case round =>
      obtain ⟨n, hn, rfl, rfl⟩ := hrel
      by_cases hlt : n < m.doms.length
      · obtain ⟨d, hd⟩ := get_some (xs := D) (k := n) (by have := HDL.out; omega)
        have hdx : m.doms[n]? = some (d : Int) := by rw [HVM.out.doms, ints_get, hd]; rfl
        obtain ⟨b, o, rfl, _, hcell⟩ := Hn5.out.at hdx
        have htk : D.take (n + 1) = D.take n ++ [d] := by
          obtain ⟨h1, rfl⟩ := List.getElem?_eq_some_iff.1 hd
          exact List.take_succ_eq_append_getElem h1
        have HT := hid htk; clear htk hd hdx
        cases h0 : decide (0 ∈ D.take n)
        · have h0' : 0 ∉ D.take n := by simpa using h0
          have H0 := hid h0'; clear h0 h0'
          by_cases hd0 : d = 0
          · subst hd0
            go_wp2_with fail
            exact ⟨⟨n + 1, by omega, by go_num, by rw [HT.out]; simp⟩, by simp [intOf]; omega⟩
          · have hd0' : ((d : Int) == 0) = false := by simp; omega
            have HD0 := hid hd0; clear hd0
            go_wp2_with fail
            exact ⟨⟨n + 1, by omega, by go_num, by rw [HT.out]; have := H0.out; have := HD0.out; simp [*]; omega⟩, by simp [intOf]; omega⟩
        · have h0' : 0 ∈ D.take n := by simpa using h0
          have H0 := hid h0'; clear h0 h0'
          go_wp2_with fail
          exact ⟨⟨n + 1, by omega, by go_num, by rw [HT.out]; simp [H0.out]⟩, by simp [intOf]; omega⟩
      · have hnt : D.take n = D := List.take_of_length_le (by have := HDL.out; omega)
        rw [hnt]
        clear hnt
        cases h0 : decide (0 ∈ D)
        · have h0' : 0 ∉ D := by simpa using h0
          have HE : Hid (isConsB m D = decide (fix m.cons D = D)) := hid (by rw [HI.out, h0, ← cons_iff_fix HVM.out h0']; rfl)
          clear h0 h0'
          go_wp2_with fail
          have HS : Hid (∀ w', Gr [] w5 w' → w'.cell? ⟨w1.heap.size, 0, none⟩ = some (.slice xo m.doms.length xc) ∧ w'.cell? ⟨w1.heap.size, 1, none⟩ = some (.slice co m.cons.length cc) ∧ Gr [] w5 w') :=
            hid fun w' h => ⟨fld (h.obj (HG5.out.obj Hb2.out (by simp)) (by simp)) 0, fld (h.obj (HG5.out.obj Hb2.out (by simp)) (by simp)) 1, h⟩
          go_region_held3 (fun w' => w'.cell? ⟨w1.heap.size, 0, none⟩ = some (.slice xo m.doms.length xc) ∧ w'.cell? ⟨w1.heap.size, 1, none⟩ = some (.slice co m.cons.length cc) ∧ Gr [] w5 w')
            (first | exact HS.out _ ((Gr.refl [] _).drew) | (go_split_ands; exact HS.out _ (Gr.trans (by assumption) hg7)) | (go_split_ands; exact HS.out _ (Gr.trans (by assumption) hg6)))
            (first
              | (go_at_call 16; go_split_ands; refine (Propagate_c m _ _ (Hmv5.out.gr (by assumption)) D (fun _ => HVM.out)).mono ?_; rintro e w6 ⟨v6, rfl, hopt6, hg6⟩)
              | (go_at_call 15; go_split_ands; refine (lawEqualInts_c _ _ _ _ _ (OptV.nums hopt6) (Hn5.out.gr (by assumption))).mono ?_; rintro e w7 ⟨rfl, hg7⟩))
          all_goals
            go_wp2_with fail
            go_ret
            refine ⟨ret_bool ?_, ((HG2.out.trans HG5.out).trans ((Gr.refl _ _).drew)).trans (Gr.trans hg6 hg7)⟩
            rw [HE.out]
            unfold propO
            rw [Hval.out]
            simp only [if_true, Option.getD_some]
            rw [HVM.out.doms, decide_ints]; simp
        · have HE : Hid (isConsB m D = false) := hid (by rw [HI.out, h0]; rfl)
          clear h0
          rw [HE.out]
          go_wp2_with fail
          go_region
          all_goals
            go_wp2_with fail
            go_ret
            exact ⟨ret_bool (by simp), (HG2.out.trans HG5.out).trans ((Gr.refl _ _).drew)⟩
end Go.Proofs.Ythjmdcilfbgidaa
