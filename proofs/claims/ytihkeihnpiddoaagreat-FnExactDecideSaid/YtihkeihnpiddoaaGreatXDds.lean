/-
  Walk of the reference's Decide: its result reads beside any of the older blocks.
-/
import Derived.Test.YtihkeihnpiddoaaGreatXDc
import Derived.Test.YtihkeihnpiddoaaGreatXSd
set_option linter.unusedVariables false
set_option linter.unusedSimpArgs false
namespace Go.Proofs.YtihkeihnpiddoaaGreat
open Go.RowKit


set_option maxRecDepth 100000 in
set_option maxHeartbeats 8000000 in
theorem specDecide_s (s : Sto) (l : Lit) (C : List Nat) (sv : Value) (w : World) (hv : StoV [] w sv s) (hs : s.mod.Small) (hC : validS s = true → Cur s C) :
    Calls Tryz.prog 9 #[sv, .agg #[.int .i64 l.var, .int .i64 l.val, .bool l.neg]] w fun e w' => ∃ v', e = .returned (.tuple #[v', .bool (decB s l)]) ∧ (∀ S : List Nat, (∀ b ∈ S, b < w.heap.size) → StoV S w' v' (decR s l C)) ∧ Gr [] w w' := by
  obtain ⟨xo, xc, co, cc, lo, lc, rfl, hm0, -⟩ := hv.open
  have HM0 := hid hm0
  have h20 := heap2 w (.cells #[.slice xo s.mod.doms.length xc, .slice co s.mod.cons.length cc, .slice lo s.lv.length lc] 29) (.cells #[.int .i64 l.var, .int .i64 l.val, .bool l.neg] 31)
  have hg2 : Gr [] w ((w.alloc (.cells #[.slice xo s.mod.doms.length xc, .slice co s.mod.cons.length cc, .slice lo s.lv.length lc] 29)).alloc (.cells #[.int .i64 l.var, .int .i64 l.val, .bool l.neg] 31)) := ((Gr.refl [] w).alloc _).alloc _
  have hs2 : ((w.alloc (.cells #[.slice xo s.mod.doms.length xc, .slice co s.mod.cons.length cc, .slice lo s.lv.length lc] 29)).alloc (.cells #[.int .i64 l.var, .int .i64 l.val, .bool l.neg] 31)).heap.size = w.heap.size + 2 := by simp
  have h3 := heap_alloc_new ((w.alloc (.cells #[.slice xo s.mod.doms.length xc, .slice co s.mod.cons.length cc, .slice lo s.lv.length lc] 29)).alloc (.cells #[.int .i64 l.var, .int .i64 l.val, .bool l.neg] 31)) (.cells #[.slice none 0 0, .slice none 0 0, .slice none 0 0] 29)
  rw [hs2] at h3
  have ha3 := (Gr.refl [] ((w.alloc (.cells #[.slice xo s.mod.doms.length xc, .slice co s.mod.cons.length cc, .slice lo s.lv.length lc] 29)).alloc (.cells #[.int .i64 l.var, .int .i64 l.val, .bool l.neg] 31))).alloc (.cells #[.slice none 0 0, .slice none 0 0, .slice none 0 0] 29)
  have HA := hid (ha3.obj h20.1 (by simp)); have HB := hid (ha3.obj h20.2 (by simp)); have HZ := hid h3; have HG0 := hid (hg2.trans ha3); have HV := hid (hv.gr (hg2.trans ha3)); have HC := hid hC; have Hs := hid hs
  have fa := fld HA.out
  clear hv h20 hg2 hs2 h3 ha3 hC hs
  go_enter Tryz.func9, Tryz.ntmps9
  go_wp2_with fail
  generalize hW0 : ((w.alloc (.cells #[.slice xo s.mod.doms.length xc, .slice co s.mod.cons.length cc, .slice lo s.lv.length lc] 29)).alloc (.cells #[.int .i64 l.var, .int .i64 l.val, .bool l.neg] 31)).alloc (.cells #[.slice none 0 0, .slice none 0 0, .slice none 0 0] 29) = w0 at *
  clear hW0
  have hcall := specValidStore_c s _ _ HV.out Hs.out
  (with_reducible refine hcall.mono ?_)
  clear hcall
  rintro e w1 ⟨rfl, hg1⟩
  have HA1 := hid (hg1.obj HA.out (by simp)); have HB1 := hid (hg1.obj HB.out (by simp)); have HZ1 := hid (hg1.obj HZ.out (by simp)); have HG1 := hid (HG0.out.trans hg1); have HV1 := hid (HV.out.gr hg1)
  have fz1 := fld HZ1.out; have ffz1 := fldF HZ1.out; have fa1 := fld HA1.out
  clear hg1 fa HA HB HZ HG0 HV
  cases hb : validS s
  · go_wp2_with fail
    obtain ⟨h5, hG5⟩ := set3 (.slice none 0 0) (.slice none 0 0) (.slice none 0 0) HZ1.out
    have flE := fld h5
    refine bodyPost_ret (v := .tuple #[.agg #[.slice none 0 0, .slice none 0 0, .slice none 0 0], .bool false]) (by simp [results, Tryz.results9, go_sem, flE]) rfl ⟨.agg #[.slice none 0 0, .slice none 0 0, .slice none 0 0], by simp [decB, hb], fun S hS => by unfold decR; rw [hb]; exact StoV.zero _ _, HG1.out.step hG5 (fun i hi => .inr (by simp at hi; omega))⟩
  have hcur := HC.out hb
  have hmany := hcur.many; have hsm := hcur.small; have hlen := hcur.len
  have HCur := hid hcur; have Hb := hid hb
  clear hcur hb HC
  go_wp2_with fail
  have hcall := copyStore_c s _ _ HV1.out Hs.out (fun c hc => rows_le (HCur.out.cons c hc)) (by omega) (fun r hr => by have := HCur.out.rows r hr; omega)
  (with_reducible refine hcall.mono ?_)
  clear hcall
  rintro e w2 ⟨yo, yc, zo, zc, po, pc, M, xs, rfl, hM, hMr, hx1, hx2, hx3, hown, hg2⟩
  have hxl : xs.length = s.lv.length := by rw [← hx1, List.length_map]
  have Hx1 := hid hx1; have Hx2 := hid hx2; have Hx3 := hid hx3; have Hxl := hid hxl
  clear hx1 hx2 hx3 hxl
  have ha3 : Gr [] w2 (w2.alloc (.cells #[.slice yo s.mod.doms.length yc, .slice zo s.mod.cons.length zc, .slice po s.lv.length pc] 29)) := (Gr.refl _ _).alloc _
  have hx3 := sto3 w2 (.slice yo s.mod.doms.length yc) (.slice zo s.mod.cons.length zc) (.slice po s.lv.length pc)
  have hlt12 := hg2.size
  have hlz := lt_of_block HZ1.out
  have HA3 := hid (ha3.obj (hg2.obj HA1.out (by simp)) (by simp)); have HB3 := hid (ha3.obj (hg2.obj HB1.out (by simp)) (by simp)); have HZ3 := hid (ha3.obj (hg2.obj HZ1.out (by simp)) (by simp)); have HX3 := hid hx3
  have HG3 := hid (HG1.out.trans (hg2.trans ha3)); have HV3 := hid (HV1.out.gr (hg2.trans ha3))
  have HM3 := hid (hM.gr' (M' := M) ha3 (by simp) (fun _ _ h => h)); have HMr := hid hMr; have HO3 := hid (hown.gr elRowO_ok ha3 (by simp))
  have hs3 : (w2.alloc (.cells #[.slice yo s.mod.doms.length yc, .slice zo s.mod.cons.length zc, .slice po s.lv.length pc] 29)).heap.size = w2.heap.size + 1 := by simp
  have fa3 := fld HA3.out; have fb3 := fld HB3.out
  have fa4 := fld (((Gr.refl [] (w2.alloc (.cells #[.slice yo s.mod.doms.length yc, .slice zo s.mod.cons.length zc, .slice po s.lv.length pc] 29))).alloc (.cells #[.int .i64 l.var, .int .i64 l.val, .bool l.neg] 31)).obj HA3.out (by simp))
  have HPO : Hid (∀ b, (Value.slice po s.lv.length pc).ownBlock = some b → w1.heap.size ≤ b ∧ b < w2.heap.size) := hid fun b h => hown.own h
  have HOX3 : Hid (OwnGX (fun b => b < w1.heap.size ∨ b = w2.heap.size) 1 elRowO w1.heap.size (w2.alloc (.cells #[.slice yo s.mod.doms.length yc, .slice zo s.mod.cons.length zc, .slice po s.lv.length pc] 29)) 23 (.slice po s.lv.length pc) xs) := hid ((OwnGX.ofG hown (fun b h => by rcases h with h | h; (exact .inl h); (exact .inr (by omega)))).gr elRowO_ok ha3 (by simp))
  clear hM hMr hown hg2 ha3 hx3 fz1 ffz1 fa1
  have HL4 : Hid (LitsV [] ((w2.alloc (.cells #[.slice yo s.mod.doms.length yc, .slice zo s.mod.cons.length zc, .slice po s.lv.length pc] 29)).alloc (.cells #[.int .i64 l.var, .int .i64 l.val, .bool l.neg] 31)) (.slice (some ⟨w2.heap.size + 1, 0, none⟩) 1 1) [l]) := hid (by
    have := lits_new (w2.alloc (.cells #[.slice yo s.mod.doms.length yc, .slice zo s.mod.cons.length zc, .slice po s.lv.length pc] 29)) l [] (by simp)
    rwa [hs3] at this)
  clear hm0
  go_wp2_with fail
  generalize hW3 : w2.alloc (.cells #[.slice yo s.mod.doms.length yc, .slice zo s.mod.cons.length zc, .slice po s.lv.length pc] 29) = w3 at *
  clear hW3
  have ha4 : Gr [] w3 (w3.alloc (.cells #[.int .i64 l.var, .int .i64 l.val, .bool l.neg] 31)) := (Gr.refl _ _).alloc _
  have Ha4 := hid ha4
  clear ha4
  generalize hW4 : w3.alloc (.cells #[.int .i64 l.var, .int .i64 l.val, .bool l.neg] 31) = w4 at *
  clear hW4
  have hcall := specValidClause1_c l s.mod.doms.length _ _ HL4.out (by omega)
  (with_reducible refine hcall.mono ?_)
  clear hcall
  rintro e w5 ⟨rfl, hg5⟩
  have HG35 := hid (Ha4.out.trans hg5)
  have HA5 := hid (HG35.out.obj HA3.out (by simp)); have HB5 := hid (HG35.out.obj HB3.out (by simp)); have HZ5 := hid (HG35.out.obj HZ3.out (by simp)); have HX5 := hid (HG35.out.obj HX3.out (by simp))
  have HG5 := hid (HG3.out.trans HG35.out); have HV5 := hid (HV3.out.gr HG35.out)
  have HM5 := hid (HM3.out.gr' (M' := M) HG35.out (by simp) (fun _ _ h => h)); have HO5 := hid (HO3.out.gr elRowO_ok HG35.out (by simp)); have HOX5 := hid (HOX3.out.gr elRowO_ok HG35.out (by simp))
  have fa5 := fld HA5.out; have fx5 := fld HX5.out; have fz5 := fld HZ5.out; have ffz5 := fldF HZ5.out
  have hs5 := HG35.out.size
  clear hg5 fa3 fb3 fa4 Ha4 HA3 HB3 HZ3 HX3 HG3 HV3 HM3 HO3 HL4 HOX3
  have Hcopy : Hid (∀ W, Gr [] w5 W → ∀ S : List Nat, (∀ b ∈ S, b < w.heap.size) → StoV S (((W.setCell ⟨w.heap.size + 2, 0, none⟩ (.slice yo s.mod.doms.length yc)).setCell ⟨w.heap.size + 2, 1, none⟩ (.slice zo s.mod.cons.length zc)).setCell ⟨w.heap.size + 2, 2, none⟩ (.slice po s.lv.length pc)) (.agg #[.slice yo s.mod.doms.length yc, .slice zo s.mod.cons.length zc, .slice po s.lv.length pc]) s) := hid fun W h S hS => by
    have hw01 := HG1.out.size
    have hZ := h.obj HZ5.out (by simp)
    have hG := (set3 (.slice yo s.mod.doms.length yc) (.slice zo s.mod.cons.length zc) (.slice po s.lv.length pc) hZ).2
    have hm := (HM5.out.gr' (M' := M) h (by simp) (fun _ _ h => h)).gr' (M' := M) hG (fun b hb hm => by have := (HMr.out b hm).1.1; simp at hb; omega) (fun _ _ h => h)
    have ho := (HO5.out.gr elRowO_ok h (by simp)).gr elRowO_ok hG (by simp; omega)
    exact StoV.mk (hm.mod (fun b hb h => by have := (HMr.out b h).1.1; have := hS b hb; omega)) (by have := ho.rowsO (S := S) (fun b hb => .inl (by have := hS b hb; omega)); rw [Hx1.out] at this; exact this)
  cases h1 : litOk (s.mod.doms.length : Int) l
  · have hdb : decB s l = false := by simp [decB, h1]
    go_wp2_with fail
    obtain ⟨h5, hG5⟩ := set3 (.slice yo s.mod.doms.length yc) (.slice zo s.mod.cons.length zc) (.slice po s.lv.length pc) HZ5.out
    have flE := fld h5
    refine bodyPost_ret (v := .tuple #[.agg #[.slice yo s.mod.doms.length yc, .slice zo s.mod.cons.length zc, .slice po s.lv.length pc], .bool false]) (by simp [results, Tryz.results9, go_sem, flE]) rfl ⟨.agg #[.slice yo s.mod.doms.length yc, .slice zo s.mod.cons.length zc, .slice po s.lv.length pc], by rw [hdb], fun S hS => by unfold decR; rw [Hb.out, if_pos rfl, hdb]; exact Hcopy.out w5 (Gr.refl _ _) S hS, HG5.out.step hG5 (fun i hi => .inr (by simp at hi; omega))⟩
  cases h2 : decide ((12 : Int) ≤ (s.lv.length : Int))
  rotate_left
  · have hdb : decB s l = false := by
      have : s.lv.length = 12 := by have := of_decide_eq_true h2; omega
      simp [decB, this]
    go_wp2_with fail
    obtain ⟨h5, hG5⟩ := set3 (.slice yo s.mod.doms.length yc) (.slice zo s.mod.cons.length zc) (.slice po s.lv.length pc) HZ5.out
    have flE := fld h5
    refine bodyPost_ret (v := .tuple #[.agg #[.slice yo s.mod.doms.length yc, .slice zo s.mod.cons.length zc, .slice po s.lv.length pc], .bool false]) (by simp [results, Tryz.results9, go_sem, flE]) rfl ⟨.agg #[.slice yo s.mod.doms.length yc, .slice zo s.mod.cons.length zc, .slice po s.lv.length pc], by rw [hdb], fun S hS => by unfold decR; rw [Hb.out, if_pos rfl, hdb]; exact Hcopy.out w5 (Gr.refl _ _) S hS, HG5.out.step hG5 (fun i hi => .inr (by simp at hi; omega))⟩
  have hdb : decB s l = true := by
    have : ¬ s.lv.length = 12 := by have := of_decide_eq_false h2; omega
    simp [decB, Hb.out, h1, this]
  have Hdb := hid hdb
  have HOK : Hid (∀ x ∈ [l], litOk (C.length : Int) x = true) := hid (by rw [hlen]; intro x hx; simp at hx; subst hx; exact h1)
  clear hdb
  obtain ⟨k, hk⟩ : ∃ k, k = s.lv.length - 1 := ⟨_, rfl⟩
  have hrow := HCur.out.row
  rw [← hk] at hrow
  have hx1 : ((s.lv.length : Int) - 1) = (k : Int) := by omega
  have hklt : k < s.lv.length := by omega
  clear hk
  obtain ⟨b, o, u, e1, hu, hnu⟩ : ∃ b o u, lo = some ⟨b, o, none⟩ ∧ w5.cell? ⟨b, o + k, none⟩ = some u ∧ Nums [] w5 .i64 u (ints C) := by
    obtain ⟨dv, cv, lv, e, -, -, h⟩ := HV5.out
    simp only [Value.agg.injEq, Array.mk.injEq, List.cons.injEq, and_true] at e
    obtain ⟨-, -, rfl⟩ := e
    exact h.at0 hrow
  subst e1
  obtain ⟨uo, uc, rfl⟩ : ∃ uo uc, u = .slice uo (ints C).length uc := by obtain ⟨a, c, e, -⟩ := hnu; exact ⟨a, c, e⟩
  have Hnu := hid hnu
  clear hnu hrow
  go_wp2_with fail
  have hcall := copyInts_c (.slice uo (ints C).length uc) (ints C) _ Hnu.out (by rw [ints_len]; omega)
  (with_reducible refine hcall.mono ?_)
  clear hcall
  rintro e w6 ⟨v6, rfl, ho6, hg6⟩
  obtain ⟨g, cap, rfl, ⟨hgB, hgl⟩, -, -⟩ := ho6.open (by rw [ints_len]; omega)
  rw [ints_len] at ho6 ⊢
  have hlo := litOk_iff.1 h1
  obtain ⟨q, hq⟩ : ∃ q : Nat, l.var = (q : Int) := Int.eq_ofNat_of_zero_le hlo.1.1
  have hqD : q < C.length := by omega
  obtain ⟨d, hdd⟩ := get_some (xs := C) (k := q) hqD
  have hd64 : d < 64 := HCur.out.below d (List.mem_of_getElem? hdd)
  have hl64 := litD_lt l hlo.2
  have hand := i64_and d (litD l) (by omega) (by omega)
  have hsn' : andAt C l.var.toNat (litD l) = C.set q (d &&& litD l) := by rw [hq, Int.toNat_natCast]; unfold andAt; rw [List.getD_eq_getElem?_getD, hdd]; rfl
  have HSN := hid hsn'; have HA := hid hdd
  have Ho6 := hid ho6; have HG6 := hid hg6
  have HV' := hid hlo.2; have Hh1 := hid h1
  have HB6 : Hid (w6.heap[w.heap.size + 1]? = some (.cells #[.int .i64 (q : Int), .int .i64 l.val, .bool l.neg] 31 (0, 0))) := hid (by rw [← hq]; exact hg6.obj HB5.out (by simp))
  have hat := fun (W : World) (h : Gr [] w6 W) => ((Ho6.out.gr h (by simp)).at (i := q) (x := d) (by rw [ints_get, HA.out]; rfl))
  have Hat := hid hat
  obtain ⟨ca1, ca2⟩ := hat _ (Gr.refl [] w6).drew
  obtain ⟨cb1, cb2⟩ := hat _ (Gr.refl [] w6)
  have fb6 := fld HB6.out
  have Hlen := hid hlen
  clear hlen ho6 hg6 hlo hdd hd64 hl64 hsn' hat h1 fa5 fx5 fz5 ffz5 hu
  go_wp2_with fail
  go_cut [7] from 38 to 49 (fun v wx => v = .slice (some ⟨g, 0, none⟩) C.length cap ∧ Own w5.heap.size wx 3 (.slice (some ⟨g, 0, none⟩) C.length cap) (ints (andAt C l.var.toNat (litD l))) ∧ Gr [g] w5 wx)
  case first =>
    go_region_law (first
      | (go_simp; go_at_call 47; rw [← hq]; refine (literalDomain_c l _ HV'.out).mono ?_; rintro e w7 ⟨rfl, hg7⟩; have hgx : Gr [] w6 w7 := Gr.trans (by first | exact (Gr.refl [] w6).drew | exact Gr.refl [] w6) hg7; have HGX := hid hgx; have fb7 := fld (hgx.obj HB6.out (by simp)); obtain ⟨cc1, cc2⟩ := Hat.out _ hgx; clear hg7 hgx; (try dsimp only)))
    all_goals
      have hset : Own w5.heap.size (w7.setCell ⟨g, q, none⟩ (.int .i64 ((d &&& litD l : Nat) : Int))) 3 (.slice (some ⟨g, 0, none⟩) C.length cap) (ints (andAt C l.var.toNat (litD l))) := by
        rw [HSN.out, ints_set]
        exact (Ho6.out.gr HGX.out (by simp)).set q ((d &&& litD l : Nat) : Int) (by rw [ints_len]; exact hqD)
      have hg8 : Gr [g] w7 (w7.setCell ⟨g, q, none⟩ (.int .i64 ((d &&& litD l : Nat) : Int))) := (Gr.refl _ _).setCell _ _ (.inl (by simp))
      have HG8 : Hid (Gr [g] w5 (w7.setCell ⟨g, q, none⟩ (.int .i64 ((d &&& litD l : Nat) : Int)))) := hid ((Gr.any (HG6.out.trans HGX.out)).trans hg8)
      have Hset := hid hset
      clear hset hg8
      go_wp2_with fail
      go_meet
      exact ⟨rfl, Hset.out, HG8.out⟩
  case rest =>
    obtain ⟨rfl, ho, hg⟩ := hcut
    have hgw : Gr [] w5 wc := hg.sub (fun k hk h => by simp at h; omega)
    have HAc := hid (hgw.obj HA5.out (by simp)); have HXc := hid (hgw.obj HX5.out (by simp)); have HZc := hid (hgw.obj HZ5.out (by simp))
    have Ho := hid ho; have Hgw := hid hgw
    have fac := fld HAc.out; have fxc := fld HXc.out
    have hsw := hgw.size
    clear ho hg hgw fb6 ca1 ca2 cb1 cb2 hq
    go_wp2_with fail
    have HFL : Hid ((ints (fix s.mod.cons (andAt C l.var.toNat (litD l)))).length = C.length) := hid (by rw [ints_len, fix_len (by rw [andAt_len]; exact HCur.out.cons), andAt_len])
    go_region_law (first
      | (go_simp; go_at_call 48; refine (specFixpoint_c s.mod (andAt C l.var.toNat (litD l)) _ _ _ (HM0.out.gr ((HG5.out.trans Hgw.out).trans (Gr.refl [] wc).drew)) ((Ho.out.gr (Gr.refl [] wc).drew (by simp)).nums (by simp)) (by rw [andAt_len]; exact HCur.out.cons) (andAt_below HCur.out.below _ _) (by rw [andAt_len]; exact HCur.out.small.2)).mono ?_; rintro e wd ⟨vd, rfl, hod, hgd⟩; obtain ⟨gd, vcc, rfl, hgdl, -, -⟩ := hod.open (by rw [HFL.out]; omega); have hgx : Gr [] wc wd := ((Gr.refl [] wc).drew).trans hgd; have HGd := hid hgx; have HOd := hid (hod.le (B' := 0) (by omega)); have hgd6 : wc.heap.size ≤ gd ∧ gd < wd.heap.size := hgdl; have fxd := fld (hgx.obj HXc.out (by simp)); have fxe := fld ((hgx.alloc (.cells #[.slice (some ⟨gd, 0, none⟩) (ints (fix s.mod.cons (andAt C l.var.toNat (litD l)))).length vcc] 23)).obj HXc.out (by simp)); have hsd := hgx.size; clear hod hgd hgx; (try dsimp only))
      | (refine step_appGX rfl _ _ 27 rfl 1 elRowO elRowO_ok w1.heap.size 23 (.slice none 0 0) 24 infoR rfl (by omega) (by omega) Tryz.underlying27 (.slice po s.lv.length pc) xs rfl (fun b => b < w1.heap.size ∨ b = w2.heap.size) (fun b hb => by simp; omega) ((HOX5.out.gr elRowO_ok (Hgw.out.trans HGd.out) (by simp)).gr elRowO_ok ((Gr.refl [] wd).alloc _) (by simp)) wd.heap.size 1 (ints (fix s.mod.cons (andAt C l.var.toNat (litD l))), gd) [.slice (some ⟨gd, 0, none⟩) (ints (fix s.mod.cons (andAt C l.var.toNat (litD l)))).length vcc] rfl rfl (by simp [Value.oneCell']) (fun j q hj => by match j, hj with | 0, hj => (simp at hj; subst hj; exact cell_one _ _ _) | j + 1, hj => simp at hj) (fun S hS => ⟨_, rfl, HOd.out.alloc _, fun hm => by rcases hS _ hm with h | h | h; (simp at h; omega); (simp at h; omega); (have := (HPO.out _ h).2; (try simp at this); omega)⟩) (by rw [Hxl.out]; omega) (by simp; omega) ?_; intro g7 c7 w7 hown7 hg7 hwh7 hlt7; rw [Hxl.out] at hown7 ⊢; have Hwh7 := hid hwh7; have HO7 := hid hown7; have HG7 := hid hg7; have hX7 := hg7.obj ((HGd.out.alloc (.cells #[.slice (some ⟨gd, 0, none⟩) (ints (fix s.mod.cons (andAt C l.var.toNat (litD l)))).length vcc] 23)).obj HXc.out (by simp)) (fun hm => by have := (HPO.out _ (by simpa using hm)).2; omega); have HX7 := hid hX7; have fx7 := fld hX7; have ffx7 := fldF hX7; clear hown7 hg7 hwh7 hX7))
    all_goals
      have hZ7 := HG7.out.obj ((HGd.out.alloc (.cells #[.slice (some ⟨gd, 0, none⟩) (ints (fix s.mod.cons (andAt C l.var.toNat (litD l)))).length vcc] 23)).obj HZc.out (by simp)) (fun hm => by have := (HPO.out _ (by simpa using hm)).1; omega)
      have hX8 := block_cells (cur' := #[]) HX7.out 2 (.slice (some ⟨g7, 0, none⟩) (s.lv.length + 1) c7)
      have hg8 : Gr [w2.heap.size] w7 (w7.setCell ⟨w2.heap.size, 2, none⟩ (.slice (some ⟨g7, 0, none⟩) (s.lv.length + 1) c7)) := (Gr.refl _ _).setCell _ _ (.inl (by simp))
      have hZ8 := hg8.obj hZ7 (by simp; omega)
      have HZ8 := hid hZ8; have Hg8 := hid hg8
      have fx8 := fld hX8; have fz8 := fld hZ8; have ffz8 := fldF hZ8
      clear hZ7 hX8 hg8 hZ8
      go_wp2_with fail
      obtain ⟨h5, hG5⟩ := set3 (.slice yo s.mod.doms.length yc) (.slice zo s.mod.cons.length zc) (.slice (some ⟨g7, 0, none⟩) (s.lv.length + 1) c7) HZ8.out
      have flE := fld h5
      refine bodyPost_ret (v := .tuple #[.agg #[.slice yo s.mod.doms.length yc, .slice zo s.mod.cons.length zc, .slice (some ⟨g7, 0, none⟩) (s.lv.length + 1) c7], .bool true]) (by simp [results, Tryz.results9, go_sem, flE]) rfl ⟨.agg #[.slice yo s.mod.doms.length yc, .slice zo s.mod.cons.length zc, .slice (some ⟨g7, 0, none⟩) (s.lv.length + 1) c7], by rw [Hdb.out], fun S hS => ?_, ?_⟩
      · unfold decR
        rw [Hb.out, if_pos rfl, Hdb.out, if_pos rfl]
        have hm := ((((HM5.out.gr' (M' := M) (Hgw.out.trans HGd.out) (by simp) (fun _ _ h => h)).gr' (M' := M) ((Gr.refl [] wd).alloc _) (by simp) (fun _ _ h => h)).gr' (M' := M) HG7.out (fun b hb hm => (HMr.out b hm).2.1 (by simpa using hb)) (fun _ _ h => h)).gr' (M' := M) Hg8.out (fun b hb hm => by have := (HMr.out b hm).1.2; simp at hb; omega) (fun _ _ h => h)).gr' (M' := M) hG5 (fun b hb hm => by have := (HMr.out b hm).1.1; simp at hb; omega) (fun _ _ h => h)
        have ho := ((HO7.out.gr elRowO_ok Hg8.out (by simp)).gr elRowO_ok hG5 (by simp; omega)).g (fun b h => .inl h)
        have hw01 := HG1.out.size
        exact StoV.mk (hm.mod (fun b hb h => by have := (HMr.out b h).1.1; have := hS b hb; omega)) (by have := ho.rowsO (S := S) (fun b hb => .inl (by have := hS b hb; omega)); rw [List.map_append, Hx1.out] at this; exact this)
      · exact ((((HG5.out.trans (Hgw.out.trans HGd.out)).alloc _).step HG7.out (fun i hi => .inr (by have := (HPO.out i (by simpa using hi)).1; omega))).step Hg8.out (fun i hi => .inr (by simp at hi; omega))).step hG5 (fun i hi => .inr (by simp at hi; omega))

end Go.Proofs.YtihkeihnpiddoaaGreat
