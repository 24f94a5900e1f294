/-
  Walk of the program's Decide: the cells of whole numbers that its result holds and leads to are all different.
-/
import Derived.Test.YtihkeihnpiddoaaGreatXDc
import Derived.Test.YtihkeihnpiddoaaGreatXScl
set_option linter.unusedVariables false
set_option linter.unusedSimpArgs false
namespace Go.Proofs.YtihkeihnpiddoaaGreat
open Go.RowKit

theorem StoF.mk2 {M : Nat → Prop} {B : Nat} {w : World} {dv cv lv : Value} {s : Sto} {L : List Addr} (hM : ModM M w (.agg #[dv, cv]) s.mod) (hMr : ∀ b, M b → B ≤ b ∧ b < w.heap.size) (hnd : (leavesN dv ++ leavesCs w cv).Nodup)
    (hr : RowsM (New B w) w lv s.lv) (hL : leavesR w lv = L) (hLn : L.Nodup) (hML : ∀ b, M b → ∀ a ∈ L, a.block ≠ b) : StoF B w.heap.size w (.agg #[dv, cv, lv]) s := by
  refine ⟨dv, cv, lv, rfl, hM.gr' (Gr.refl [] w) (by simp) (fun b _ h => hMr b h), hr, ?_⟩
  rw [hL]
  refine List.nodup_append.2 ⟨hnd, hLn, fun a ha b hb e => ?_⟩
  subst e
  refine hML a.block ?_ a hb rfl
  rcases List.mem_append.1 ha with h | h
  · exact hM.parts.1.leaf a h
  · exact hM.parts.2.leaf a h


set_option maxRecDepth 100000 in
set_option maxHeartbeats 8000000 in
theorem Decide_l (s : Sto) (l : Lit) (C : List Nat) (sv : Value) (w : World) (hv : StoV [] w sv s) (hs : s.mod.Small) (hC : validS s = true → Cur s C) :
    Calls Tryz.prog 8 #[sv, .agg #[.int .i64 l.var, .int .i64 l.val, .bool l.neg]] w fun e w' => ∃ v', e = .returned (.tuple #[v', .bool (decB s l)]) ∧ StoF w.heap.size w'.heap.size w' v' (decR s l C) ∧ Gr [] w w' := by
  obtain ⟨xo, xc, co, cc, lo, lc, rfl, hm0, -⟩ := hv.open
  have HM0 := hid hm0
  have h20 := heap2 w (.cells #[.slice xo s.mod.doms.length xc, .slice co s.mod.cons.length cc, .slice lo s.lv.length lc] 29) (.cells #[.int .i64 l.var, .int .i64 l.val, .bool l.neg] 31)
  have hg2 : Gr [] w ((w.alloc (.cells #[.slice xo s.mod.doms.length xc, .slice co s.mod.cons.length cc, .slice lo s.lv.length lc] 29)).alloc (.cells #[.int .i64 l.var, .int .i64 l.val, .bool l.neg] 31)) := ((Gr.refl [] w).alloc _).alloc _
  have hs2 : ((w.alloc (.cells #[.slice xo s.mod.doms.length xc, .slice co s.mod.cons.length cc, .slice lo s.lv.length lc] 29)).alloc (.cells #[.int .i64 l.var, .int .i64 l.val, .bool l.neg] 31)).heap.size = w.heap.size + 2 := by simp
  have h3 := heap_alloc_new ((w.alloc (.cells #[.slice xo s.mod.doms.length xc, .slice co s.mod.cons.length cc, .slice lo s.lv.length lc] 29)).alloc (.cells #[.int .i64 l.var, .int .i64 l.val, .bool l.neg] 31)) (.cells #[.slice none 0 0, .slice none 0 0, .slice none 0 0] 29)
  rw [hs2] at h3
  have ha3 := (Gr.refl [] ((w.alloc (.cells #[.slice xo s.mod.doms.length xc, .slice co s.mod.cons.length cc, .slice lo s.lv.length lc] 29)).alloc (.cells #[.int .i64 l.var, .int .i64 l.val, .bool l.neg] 31))).alloc (.cells #[.slice none 0 0, .slice none 0 0, .slice none 0 0] 29)
  have HA := hid (ha3.obj h20.1 (by simp)); have HB := hid (ha3.obj h20.2 (by simp)); have HZ := hid h3; have HG0 := hid (hg2.trans ha3); have HV := hid (hv.gr (hg2.trans ha3)); have HC := hid hC; have Hs := hid hs
  have fa := fld HA.out
  clear hv h20 hg2 hs2 h3 ha3 hC hs
  go_enter Tryz.func8, Tryz.ntmps8
  go_wp2_with fail
  generalize hW0 : ((w.alloc (.cells #[.slice xo s.mod.doms.length xc, .slice co s.mod.cons.length cc, .slice lo s.lv.length lc] 29)).alloc (.cells #[.int .i64 l.var, .int .i64 l.val, .bool l.neg] 31)).alloc (.cells #[.slice none 0 0, .slice none 0 0, .slice none 0 0] 29) = w0 at *
  clear hW0
  have hcall := ValidStore_c s _ _ HV.out
  (with_reducible refine hcall.mono ?_)
  clear hcall
  rintro e w1 ⟨rfl, hg1⟩
  have HA1 := hid (hg1.obj HA.out (by simp)); have HB1 := hid (hg1.obj HB.out (by simp)); have HZ1 := hid (hg1.obj HZ.out (by simp)); have HG1 := hid (HG0.out.trans hg1); have HV1 := hid (HV.out.gr hg1)
  have fz1 := fld HZ1.out; have ffz1 := fldF HZ1.out; have fa1 := fld HA1.out
  clear hg1 fa HA HB HZ HG0 HV
  cases hb : validS s
  · go_wp2_with fail
    obtain ⟨h5, hG5⟩ := set3 (.slice none 0 0) (.slice none 0 0) (.slice none 0 0) HZ1.out
    have flE := fld h5
    refine bodyPost_ret (v := .tuple #[.agg #[.slice none 0 0, .slice none 0 0, .slice none 0 0], .bool false]) (by simp [results, Tryz.results8, go_sem, flE]) rfl ⟨.agg #[.slice none 0 0, .slice none 0 0, .slice none 0 0], by simp [decB, hb], by unfold decR; rw [hb]; exact StoF.zero _ _ _, HG1.out.step hG5 (fun i hi => .inr (by simp at hi; omega))⟩
  have hcur := HC.out hb
  have hmany := hcur.many; have hsm := hcur.small; have hlen := hcur.len
  have HCur := hid hcur; have Hb := hid hb
  clear hcur hb HC
  go_wp2_with fail
  have hcall := stoCopied_l s _ _ HV1.out Hs.out (by omega) (fun r hr => by have := HCur.out.rows r hr; omega)
  (with_reducible refine hcall.mono ?_)
  clear hcall
  rintro e w2 ⟨yo, yc, zo, zc, po, pc, M, xs, rfl, hM, hMr, hnd2, hx1, hx2, hx3, hown, hg2⟩
  have hxl : xs.length = s.lv.length := by rw [← hx1, List.length_map]
  have Hx1 := hid hx1; have Hx2 := hid hx2; have Hx3 := hid hx3; have Hxl := hid hxl
  clear hx1 hx2 hx3 hxl
  have ha3 : Gr [] w2 (w2.alloc (.cells #[.slice yo s.mod.doms.length yc, .slice zo s.mod.cons.length zc, .slice po s.lv.length pc] 29)) := (Gr.refl _ _).alloc _
  have hx3 := sto3 w2 (.slice yo s.mod.doms.length yc) (.slice zo s.mod.cons.length zc) (.slice po s.lv.length pc)
  have hlt12 := hg2.size
  have hlz := lt_of_block HZ1.out
  have HA3 := hid (ha3.obj (hg2.obj HA1.out (by simp)) (by simp)); have HB3 := hid (ha3.obj (hg2.obj HB1.out (by simp)) (by simp)); have HZ3 := hid (ha3.obj (hg2.obj HZ1.out (by simp)) (by simp)); have HX3 := hid hx3
  have HG3 := hid (HG1.out.trans (hg2.trans ha3)); have HV3 := hid (HV1.out.gr (hg2.trans ha3))
  have HM3 := hid (hM.gr' (M' := M) ha3 (by simp) (fun _ _ h => h)); have HND3 : Hid ((leavesN (.slice yo s.mod.doms.length yc) ++ leavesCs (w2.alloc (.cells #[.slice yo s.mod.doms.length yc, .slice zo s.mod.cons.length zc, .slice po s.lv.length pc] 29)) (.slice zo s.mod.cons.length zc)).Nodup) := hid (nd_keep hM ha3 hnd2); have HMr := hid hMr; have HO3 := hid (hown.gr elRowL_ok ha3 (by simp))
  have hs3 : (w2.alloc (.cells #[.slice yo s.mod.doms.length yc, .slice zo s.mod.cons.length zc, .slice po s.lv.length pc] 29)).heap.size = w2.heap.size + 1 := by simp
  have fa3 := fld HA3.out; have fb3 := fld HB3.out
  have fa4 := fld (((Gr.refl [] (w2.alloc (.cells #[.slice yo s.mod.doms.length yc, .slice zo s.mod.cons.length zc, .slice po s.lv.length pc] 29))).alloc (.cells #[.int .i64 l.var, .int .i64 l.val, .bool l.neg] 31)).obj HA3.out (by simp))
  have HPO : Hid (∀ b, (Value.slice po s.lv.length pc).ownBlock = some b → w1.heap.size ≤ b ∧ b < w2.heap.size) := hid fun b h => hown.own h
  have HOX3 : Hid (OwnGX (fun b => b < w1.heap.size ∨ b = w2.heap.size) 1 elRowL w1.heap.size (w2.alloc (.cells #[.slice yo s.mod.doms.length yc, .slice zo s.mod.cons.length zc, .slice po s.lv.length pc] 29)) 23 (.slice po s.lv.length pc) xs) := hid ((OwnGX.ofG hown (fun b h => by rcases h with h | h; (exact .inl h); (exact .inr (by omega)))).gr elRowL_ok ha3 (by simp))
  clear hM hMr hown hg2 hnd2 ha3 hx3 fz1 ffz1 fa1
  have HL4 : Hid (LitsV [] ((w2.alloc (.cells #[.slice yo s.mod.doms.length yc, .slice zo s.mod.cons.length zc, .slice po s.lv.length pc] 29)).alloc (.cells #[.int .i64 l.var, .int .i64 l.val, .bool l.neg] 31)) (.slice (some ⟨w2.heap.size + 1, 0, none⟩) 1 1) [l]) := hid (by
    have := lits_new (w2.alloc (.cells #[.slice yo s.mod.doms.length yc, .slice zo s.mod.cons.length zc, .slice po s.lv.length pc] 29)) l [] (by simp)
    rwa [hs3] at this)
  clear hm0
  go_wp2_with fail
  generalize hW3 : w2.alloc (.cells #[.slice yo s.mod.doms.length yc, .slice zo s.mod.cons.length zc, .slice po s.lv.length pc] 29) = w3 at *
  clear hW3
  have ha4 : Gr [] w3 (w3.alloc (.cells #[.int .i64 l.var, .int .i64 l.val, .bool l.neg] 31)) := (Gr.refl _ _).alloc _
  have Ha4 := hid ha4
  clear ha4
  generalize hW4 : w3.alloc (.cells #[.int .i64 l.var, .int .i64 l.val, .bool l.neg] 31) = w4 at *
  clear hW4
  have hcall := ValidClause1_c l s.mod.doms.length _ _ HL4.out (by omega)
  (with_reducible refine hcall.mono ?_)
  clear hcall
  rintro e w5 ⟨rfl, hg5⟩
  have HG35 := hid (Ha4.out.trans hg5)
  have HA5 := hid (HG35.out.obj HA3.out (by simp)); have HB5 := hid (HG35.out.obj HB3.out (by simp)); have HZ5 := hid (HG35.out.obj HZ3.out (by simp)); have HX5 := hid (HG35.out.obj HX3.out (by simp))
  have HG5 := hid (HG3.out.trans HG35.out); have HV5 := hid (HV3.out.gr HG35.out)
  have HM5 := hid (HM3.out.gr' (M' := M) HG35.out (by simp) (fun _ _ h => h)); have HND5 := hid (nd_keep HM3.out HG35.out HND3.out); have HO5 := hid (HO3.out.gr elRowL_ok HG35.out (by simp)); have HOX5 := hid (HOX3.out.gr elRowL_ok HG35.out (by simp))
  have fa5 := fld HA5.out; have fx5 := fld HX5.out; have fz5 := fld HZ5.out; have ffz5 := fldF HZ5.out
  have hs5 := HG35.out.size
  clear hg5 fa3 fb3 fa4 Ha4 HA3 HB3 HZ3 HX3 HG3 HV3 HM3 HO3 HL4 HOX3
  have hw01 := HG1.out.size
  have Hcopy : Hid (∀ W, Gr [] w5 W → StoF w.heap.size (((W.setCell ⟨w.heap.size + 2, 0, none⟩ (.slice yo s.mod.doms.length yc)).setCell ⟨w.heap.size + 2, 1, none⟩ (.slice zo s.mod.cons.length zc)).setCell ⟨w.heap.size + 2, 2, none⟩ (.slice po s.lv.length pc)).heap.size (((W.setCell ⟨w.heap.size + 2, 0, none⟩ (.slice yo s.mod.doms.length yc)).setCell ⟨w.heap.size + 2, 1, none⟩ (.slice zo s.mod.cons.length zc)).setCell ⟨w.heap.size + 2, 2, none⟩ (.slice po s.lv.length pc)) (.agg #[.slice yo s.mod.doms.length yc, .slice zo s.mod.cons.length zc, .slice po s.lv.length pc]) s) := hid fun W h => by
    have hZ := h.obj HZ5.out (by simp)
    have hG := (set3 (.slice yo s.mod.doms.length yc) (.slice zo s.mod.cons.length zc) (.slice po s.lv.length pc) hZ).2
    have hMz : ∀ b ∈ [w.heap.size + 2], ¬ M b := fun b hb hm => by have := (HMr.out b hm).1.1; simp at hb; omega
    have hm0 := HM5.out.gr' (M' := M) h (by simp) (fun _ _ h => h)
    have hm := hm0.gr' (M' := M) hG hMz (fun _ _ h => h)
    have ho := ((HO5.out.gr elRowL_ok h (by simp)).gr elRowL_ok hG (by simp; omega)).le (B' := w.heap.size) (by omega)
    have hsz := h.size; have hsz2 := hG.size
    have hr := ho.rowsL
    rw [Hx1.out] at hr
    refine StoF.mk2 hm (fun b hb => by have := (HMr.out b hb).1; omega) ?_ hr ho.leavesR Hx2.out (fun b hb => (HMr.out b hb).2.2)
    rw [hm0.parts.2.leaves_gr hG hMz]
    exact nd_keep HM5.out h HND5.out
  cases h1 : litOk (s.mod.doms.length : Int) l
  · have hdb : decB s l = false := by simp [decB, h1]
    go_wp2_with fail
    obtain ⟨h5, hG5⟩ := set3 (.slice yo s.mod.doms.length yc) (.slice zo s.mod.cons.length zc) (.slice po s.lv.length pc) HZ5.out
    have flE := fld h5
    refine bodyPost_ret (v := .tuple #[.agg #[.slice yo s.mod.doms.length yc, .slice zo s.mod.cons.length zc, .slice po s.lv.length pc], .bool false]) (by simp [results, Tryz.results8, go_sem, flE]) rfl ⟨.agg #[.slice yo s.mod.doms.length yc, .slice zo s.mod.cons.length zc, .slice po s.lv.length pc], by rw [hdb], by unfold decR; rw [Hb.out, if_pos rfl, hdb]; exact Hcopy.out w5 (Gr.refl _ _), HG5.out.step hG5 (fun i hi => .inr (by simp at hi; omega))⟩
  cases h2 : ((s.lv.length : Int) == 12)
  rotate_left
  · have hdb : decB s l = false := by
      have : s.lv.length = 12 := by have := of_decide_eq_true (p := ((s.lv.length : Int) = 12)) (by simpa using h2); omega
      simp [decB, this]
    go_wp2_with fail
    obtain ⟨h5, hG5⟩ := set3 (.slice yo s.mod.doms.length yc) (.slice zo s.mod.cons.length zc) (.slice po s.lv.length pc) HZ5.out
    have flE := fld h5
    refine bodyPost_ret (v := .tuple #[.agg #[.slice yo s.mod.doms.length yc, .slice zo s.mod.cons.length zc, .slice po s.lv.length pc], .bool false]) (by simp [results, Tryz.results8, go_sem, flE]) rfl ⟨.agg #[.slice yo s.mod.doms.length yc, .slice zo s.mod.cons.length zc, .slice po s.lv.length pc], by rw [hdb], by unfold decR; rw [Hb.out, if_pos rfl, hdb]; exact Hcopy.out w5 (Gr.refl _ _), HG5.out.step hG5 (fun i hi => .inr (by simp at hi; omega))⟩
  have hdb : decB s l = true := by
    have : ¬ s.lv.length = 12 := by intro h; rw [h] at h2; simp at h2
    simp [decB, Hb.out, h1, this]
  have Hdb := hid hdb
  have HOK : Hid (∀ x ∈ [l], litOk (C.length : Int) x = true) := hid (by rw [hlen]; intro x hx; simp at hx; subst hx; exact h1)
  clear hdb
  go_wp2_with fail
  have HSW : Hid (∀ W, Gr [] w5 W → ((W.cell? ⟨w.heap.size, 0, none⟩ = some (.slice xo s.mod.doms.length xc) ∧ W.cell? ⟨w.heap.size, 1, none⟩ = some (.slice co s.mod.cons.length cc) ∧ W.cell? ⟨w.heap.size, 2, none⟩ = some (.slice lo s.lv.length lc)) ∧ (W.cell? ⟨w.heap.size + 1, 0, none⟩ = some (.int .i64 l.var) ∧ W.cell? ⟨w.heap.size + 1, 1, none⟩ = some (.int .i64 l.val) ∧ W.cell? ⟨w.heap.size + 1, 2, none⟩ = some (.bool l.neg))) ∧ Gr [] w5 W) :=
    hid fun W h => ⟨⟨⟨fld (h.obj HA5.out (by simp)) 0, fld (h.obj HA5.out (by simp)) 1, fld (h.obj HA5.out (by simp)) 2⟩, fld (h.obj HB5.out (by simp)) 0, fld (h.obj HB5.out (by simp)) 1, fld (h.obj HB5.out (by simp)) 2⟩, h⟩
  clear fa5 fx5 fz5 ffz5
  go_region_held_law (fun W => ((W.cell? ⟨w.heap.size, 0, none⟩ = some (.slice xo s.mod.doms.length xc) ∧ W.cell? ⟨w.heap.size, 1, none⟩ = some (.slice co s.mod.cons.length cc) ∧ W.cell? ⟨w.heap.size, 2, none⟩ = some (.slice lo s.lv.length lc)) ∧ (W.cell? ⟨w.heap.size + 1, 0, none⟩ = some (.int .i64 l.var) ∧ W.cell? ⟨w.heap.size + 1, 1, none⟩ = some (.int .i64 l.val) ∧ W.cell? ⟨w.heap.size + 1, 2, none⟩ = some (.bool l.neg))) ∧ Gr [] w5 W)
    ((refine HSW.out _ ?_; first | exact (Gr.refl [] w5).drew | exact ((Gr.refl [] w5).drew).alloc _ | exact HGa.out | exact HGa.out.alloc _ | exact HGb.out | exact HGc.out | assumption))
    (first
    | (go_simp; go_at_call 41; refine (current_c s (ints C) _ _ (HV5.out.gr (by first | exact (Gr.refl [] w5).drew | exact ((Gr.refl [] w5).drew).alloc _)) (by omega) HCur.out.row).mono ?_; rintro e wa ⟨va, rfl, hna, hga⟩; have hgx : Gr [] w5 wa := Gr.trans (by first | exact (Gr.refl [] w5).drew | exact ((Gr.refl [] w5).drew).alloc _) hga; have HGa := hid hgx; have Hga := hid hga; have HNa := hid hna; clear hna hga hgx; (try dsimp only))
    | (go_simp; go_at_call 40; refine (restricted_c C [l] _ _ _ (by first | exact HNa.out.gr ((Gr.refl [] wa).alloc _) | exact HNa.out) (by first | exact lits_new wa l [] (by simp) | exact (lits_new w5.drew l [] (by simp)).gr Hga.out) HOK.out HCur.out.small HCur.out.below (by simp)).mono ?_; rintro e wb ⟨vb, rfl, hob, hgb⟩; have hgx : Gr [] w5 wb := Gr.trans (by first | exact HGa.out.alloc _ | exact HGa.out) hgb; have HGb := hid hgx; have HOb := hid hob; clear hob hgb hgx; (try dsimp only))
    | (go_simp; go_at_call 39; refine (propagate_c s.mod (restL C [l]) _ _ _ (HM0.out.gr (HG5.out.trans HGb.out)) (HOb.out.nums' (S := []) (by simp)) (by rw [restL_len]; exact HCur.out.cons) (restL_below _ HCur.out.below) (by rw [restL_len]; exact HCur.out.small.2)).mono ?_; rintro e wc ⟨vc, rfl, hoc, hgc⟩; obtain ⟨vco, vcc, rfl⟩ := hoc.form; have hgx : Gr [] w5 wc := HGb.out.trans hgc; have HGc := hid hgx; have HOc := hid (OwnC.numsM hoc); clear hoc hgc hgx; (try dsimp only)))
  all_goals
    have fxc := fld (HGc.out.obj HX5.out (by simp))
    have fxd := fld ((HGc.out.alloc (.cells #[.slice vco (ints (fix s.mod.cons (restL C [l]))).length vcc] 23)).obj HX5.out (by simp))
    have hsc := HGc.out.size
    have hsb := HGb.out.size
    go_wp2_with (at_builtin; go_loud (refine wp_appGX rfl _ _ 27 rfl 1 elRowL elRowL_ok w1.heap.size 23 (.slice none 0 0) 24 infoR rfl (by omega) (by omega) Tryz.underlying27 (.slice po s.lv.length pc) xs rfl (fun b => b < w1.heap.size ∨ b = w2.heap.size) (fun b hb => by simp; omega) ((HOX5.out.gr elRowL_ok HGc.out (by simp)).gr elRowL_ok ((Gr.refl [] wc).alloc _) (by simp)) wc.heap.size 1 (ints (fix s.mod.cons (restL C [l])), leavesN (.slice vco (ints (fix s.mod.cons (restL C [l]))).length vcc)) [.slice vco (ints (fix s.mod.cons (restL C [l]))).length vcc] rfl rfl (by simp [Value.oneCell']) (fun j q hj => by match j, hj with | 0, hj => (simp at hj; subst hj; exact cell_one _ _ _) | j + 1, hj => simp at hj) (fun S hS => ⟨_, rfl, HOc.out.gr' ((Gr.refl [] wc).alloc _) (by simp) (fun b hlt hb hm => by rcases hS b hm with h | h | h; (have := hb.1; omega); (simp at h; omega); (have := (HPO.out b h).2; have := hb.1; omega)), rfl⟩) (by rw [Hxl.out]; omega) (by simp; omega) ?_; intro g7 c7 w7 hown7 hg7 hwh7 hlt7; rw [Hxl.out] at hown7 ⊢; have Hwh7 := hid hwh7; have HO7 := hid hown7; have HG7 := hid hg7; clear hown7 hg7))
    obtain ⟨hq1, hq2⟩ : s.lv.length + 1 ≤ c7 ∧ c7 ≤ 9223372036854775807 := by
      obtain ⟨a, c, e, h1, h2⟩ := HO7.out.slice
      have hxx := Hxl.out
      simp at e h1
      omega
    have hX7 := HG7.out.obj ((HGc.out.alloc (.cells #[.slice vco (ints (fix s.mod.cons (restL C [l]))).length vcc] 23)).obj HX5.out (by simp)) (fun hm => by have := (HPO.out _ (by simpa using hm)).2; omega)
    have hZ7 := HG7.out.obj ((HGc.out.alloc (.cells #[.slice vco (ints (fix s.mod.cons (restL C [l]))).length vcc] 23)).obj HZ5.out (by simp)) (fun hm => by have := (HPO.out _ (by simpa using hm)).1; omega)
    have hX8 := block_cells (cur' := #[]) hX7 2 (.slice (some ⟨g7, 0, none⟩) (s.lv.length + 1) (s.lv.length + 1))
    have hg8 : Gr [w2.heap.size] w7 (w7.setCell ⟨w2.heap.size, 2, none⟩ (.slice (some ⟨g7, 0, none⟩) (s.lv.length + 1) (s.lv.length + 1))) := (Gr.refl _ _).setCell _ _ (.inl (by simp))
    have hZ8 := hg8.obj hZ7 (by simp; omega)
    have HZ8 := hid hZ8; have Hg8 := hid hg8
    have fx7 := fld hX7; have ffx7 := fldF hX7
    have fx8 := fld hX8; have fz8 := fld hZ8; have ffz8 := fldF hZ8
    clear hX7 hZ7 hX8 hg8 hZ8 fxc fxd
    go_wp2_with fail
    refine (ClipSS_c (some ⟨g7, 0, none⟩) (s.lv.length + 1) c7 _ hq1 hq2).mono ?_
    rintro e w8 ⟨rfl, rfl⟩
    go_wp2_with fail
    obtain ⟨h5, hG5⟩ := set3 (.slice yo s.mod.doms.length yc) (.slice zo s.mod.cons.length zc) (.slice (some ⟨g7, 0, none⟩) (s.lv.length + 1) (s.lv.length + 1)) HZ8.out
    have flE := fld h5
    refine bodyPost_ret (v := .tuple #[.agg #[.slice yo s.mod.doms.length yc, .slice zo s.mod.cons.length zc, .slice (some ⟨g7, 0, none⟩) (s.lv.length + 1) (s.lv.length + 1)], .bool true]) (by simp [results, Tryz.results8, go_sem, flE]) rfl ⟨.agg #[.slice yo s.mod.doms.length yc, .slice zo s.mod.cons.length zc, .slice (some ⟨g7, 0, none⟩) (s.lv.length + 1) (s.lv.length + 1)], by rw [Hdb.out], ?_, ?_⟩
    · unfold decR
      rw [Hb.out, if_pos rfl, Hdb.out, if_pos rfl]
      rw [show w.heap.size + 1 + 1 = w.heap.size + 2 from rfl]
      have hM1 : ∀ b ∈ (Value.slice po s.lv.length pc).ownBlock.toList, ¬ M b := fun b hb hm => (HMr.out b hm).2.1 (by simpa using hb)
      have hM2 : ∀ b ∈ [w2.heap.size], ¬ M b := fun b hb hm => by have := (HMr.out b hm).1.2; simp at hb; omega
      have hM3 : ∀ b ∈ [w.heap.size + 2], ¬ M b := fun b hb hm => by have := (HMr.out b hm).1.1; simp at hb; omega
      have m1 := HM5.out.gr' (M' := M) (HGc.out.alloc (.cells #[.slice vco (ints (fix s.mod.cons (restL C [l]))).length vcc] 23)) (by simp) (fun _ _ h => h)
      have m2 := m1.gr' (M' := M) HG7.out hM1 (fun _ _ h => h)
      have m3 := m2.gr' (M' := M) Hg8.out hM2 (fun _ _ h => h)
      have m4 := m3.gr' (M' := M) hG5 hM3 (fun _ _ h => h)
      have ho := (((HO7.out.gr elRowL_ok Hg8.out (by simp)).gr elRowL_ok hG5 (by simp; omega)).g (fun b h => .inl h)).le (B' := w.heap.size) (by omega)
      have hs7 := HG7.out.size
      simp only [World.size_alloc] at hs7
      have hs8 := Hg8.out.size
      have hs9 := hG5.size
      have hr := ho.rowsL.clip
      rw [List.map_append, Hx1.out] at hr
      have hL := ho.leavesR
      refine StoF.mk2 m4 (fun b hb => by have := (HMr.out b hb).1; omega) ?_ hr hL ?_ (fun b hb a ha => ?_)
      · rw [m3.parts.2.leaves_gr hG5 hM3, m2.parts.2.leaves_gr Hg8.out hM2, m1.parts.2.leaves_gr HG7.out hM1]
        exact nd_keep HM5.out (HGc.out.alloc _) HND5.out
      · rw [List.flatMap_append]
        refine List.nodup_append.2 ⟨Hx2.out, by simpa using leavesN_nodup _, fun a ha b hb e => ?_⟩
        subst e
        simp only [List.flatMap_cons, List.flatMap_nil, List.append_nil] at hb
        have h1 := (Hx3.out a ha).2
        have h2 := (HOc.out.leaf a hb).1
        omega
      · rw [List.flatMap_append] at ha
        rcases List.mem_append.1 ha with ha | ha
        · exact (HMr.out b hb).2.2 a ha
        · simp only [List.flatMap_cons, List.flatMap_nil, List.append_nil] at ha
          have h2 := (HOc.out.leaf a ha).1
          have h3 := (HMr.out b hb).1.2
          omega
    · exact ((((HG5.out.trans HGc.out).alloc _).step HG7.out (fun i hi => .inr (by have := (HPO.out i (by simpa using hi)).1; omega))).step Hg8.out (fun i hi => .inr (by simp at hi; omega))).step hG5 (fun i hi => .inr (by simp at hi; omega))

end Go.Proofs.YtihkeihnpiddoaaGreat
