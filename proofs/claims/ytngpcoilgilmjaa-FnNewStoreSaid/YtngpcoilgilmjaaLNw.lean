/-
  Walk of FnNewStore.
-/
import Derived.Test.YtngpcoilgilmjaaSw
import Derived.Test.YtngpcoilgilmjaaLPS
import Derived.Test.YtngpcoilgilmjaaEH
set_option linter.unusedVariables false
set_option linter.unusedSimpArgs false
namespace Go.Proofs.Ytngpcoilgilmjaa
open Go.RowKit

theorem newSto_valid {m : Mod} {D : List Nat} (h : VM m D) : newSto m D = ⟨m, [ints (fix m.cons D)]⟩ := by
  unfold newSto; rw [if_pos h.valid]
theorem fix_domsOk {m : Mod} {D : List Nat} (h : VM m D) : domsOk (ints (fix m.cons D)) = true := by
  have hb := fix_below h.cons h.below
  have hl := fix_len h.cons
  unfold domsOk
  rw [Bool.and_eq_true, inB_iff, allB_iff, ints_len, hl]
  refine ⟨by have := h.len; omega, fun x hx => ?_⟩
  obtain ⟨d, hd, rfl⟩ := ints_mem.1 hx
  have := hb d hd; omega
theorem newSto_ok {m : Mod} {D : List Nat} (h : VM m D) : validS ⟨m, [ints (fix m.cons D)]⟩ = true := by
  have hl := fix_len h.cons
  unfold validS
  rw [h.valid]
  simp [lvOk, inB_iff, fix_domsOk h, h.doms, ints_len, hl]
theorem newSto_cur {m : Mod} {D : List Nat} (h : VM m D) : curO ⟨m, [ints (fix m.cons D)]⟩ = some (ints (fix m.cons D)) := by
  unfold curO; rw [newSto_ok h]; rfl


set_option maxRecDepth 100000 in
theorem DrawNewStore_c (v : Value) (bs : List Int) (w : World) (ao : Option Addr) (cap : Nat) (hv : v = .slice ao bs.length cap) (hlen : bs.length ≤ 9223372036854775807) (hcap : bs.length ≤ cap) (hc : Cells [] w .u8 ao bs) (hb : ∀ b ∈ bs, 0 ≤ b ∧ b ≤ 255) :
    Calls Try.prog 13 #[v] w (DrawPost w) := by
  subst hv
  have Hc := hid hc; have Hb := hid hb; clear hc hb
  have hg0 : Gr [] w (w.alloc (.cells #[.slice none 0 0, .slice none 0 0] 32)) := (Gr.refl _ _).alloc _
  have hr0 : (w.alloc (.cells #[.slice none 0 0, .slice none 0 0] 32)).heap[w.heap.size]? = some (.cells #[.slice none 0 0, .slice none 0 0] 32 (0, 0)) := heap_alloc_new _ _
  have Hr0 := hid hr0; have Hg0 := hid hg0; clear hr0 hg0
  go_enter Try.func13, Try.ntmps13
  go_wp2_with fail
  have hcall := newReader_c _ bs _ ao cap rfl hlen hcap (Hc.out.gr Hg0.out) Hb.out
  (with_reducible refine hcall.mono ?_)
  clear hcall
  rintro e w1 ⟨⟨R, cs, rfl, hR, hrd1⟩, hg1⟩
  go_wp2_with fail
  have hcall := anyModel_c R cs 0 _ hrd1 (by omega)
  (with_reducible refine hcall.mono ?_)
  clear hcall
  rintro e w2 ⟨m, M, bo, ac, co, cc, rfl, hown, hdM, ⟨hM1, hM2⟩, hcs, ⟨hd1, hd4⟩, hc4, htv, hrd2, hg2⟩
  simp only [World.size_alloc] at hR
  have hr2 := hg2.obj (hg1.obj Hr0.out (by simp)) (by simp; omega)
  have Hown := hid hown; have Hcs := hid hcs; have Htv := hid htv; have Hr2 := hid hr2
  have HG : Hid (Gr [] w w2) := hid ((Hg0.out.trans hg1).step hg2 (fun i hi => .inr (by simp at hi; omega)))
  have hsz := (hg1.trans (Gr.refl _ _)).size
  simp only [World.size_alloc] at hsz
  clear hown hcs htv hr2 hg1 hg2 hrd1 hrd2
  go_wp2_with ((with_reducible show wpList _ _ _ (⟨none, Op.store _ (Operand.tmp 2) (Operand.tmp 5), _, _, _, none⟩ :: _) _ _); refine wp_storeT 32 2 5 w.heap.size #[.slice bo m.doms.length ac, .slice co m.cons.length cc] 32 #[.slice none 0 0, .slice none 0 0] Hr2.out ⟨sizeM, rfl, rfl, rfl, one2 _ _ _ _ _ _⟩ ?_; intro wE hbE hgE)
  have flE := fld hbE
  refine bodyPost_ret (v := .agg #[.slice bo m.doms.length ac, .slice co m.cons.length cc]) ?_ rfl ?_
  · simp [results, Try.results13, go_sem, flE]
  · exact ⟨m, _, rfl, ModPost.modv (by simp) hM1 (Hown.out.gr hgE (by simp; omega)) (Hcs.out.gr elCon_ok hgE (by simp; omega)), mod_small hd4 hc4 Htv.out, HG.out.step hgE (fun i hi => .inr (by simp at hi; omega))⟩


set_option maxRecDepth 100000 in
set_option maxHeartbeats 8000000 in
theorem FnNewStore_c (code : Value) (bs : List Int) (ao : Option Addr) (cap : Nat) (w : World) (hv : code = .slice ao bs.length cap) (hlen : bs.length ≤ 9223372036854775807) (hcap : bs.length ≤ cap) (hc : Cells [] w .u8 ao bs) (hb : ∀ b ∈ bs, 0 ≤ b ∧ b ≤ 255) :
    Calls Try.prog 4 #[code] w (fun e w' => e = .returned (.bool true) ∧ Gr [] w w') := by
  subst hv
  have Hc := hid hc; have Hb := hid hb; clear hc hb
  by_cases hbig : 1048576 < bs.length
  · go_enter Try.func4, Try.ntmps4
    go_wp2_with fail
    go_ret
    exact ⟨rfl, Gr.refl _ _⟩
  have hbig' : decide ((1048576 : Int) < (bs.length : Int)) = false := by simp; omega
  go_enter Try.func4, Try.ntmps4
  go_wp2_with fail
  have hcall := DrawNewStore_c _ bs w ao cap rfl hlen hcap Hc.out Hb.out
  (with_reducible refine hcall.mono ?_)
  clear hcall
  rintro e w1 ⟨m, mv, rfl, hmv, hms, hg1⟩
  obtain ⟨xo, xc, co, cc, rfl⟩ := hmv.slices
  have ha2 : Gr [] w1 (w1.alloc (.cells #[.slice xo m.doms.length xc, .slice co m.cons.length cc] 32)) := (Gr.refl _ _).alloc _
  have hb2 : (w1.alloc (.cells #[.slice xo m.doms.length xc, .slice co m.cons.length cc] 32)).heap[w1.heap.size]? = some (.cells #[.slice xo m.doms.length xc, .slice co m.cons.length cc] 32 (0, 0)) := heap_alloc_new _ _
  have HG2 := hid (hg1.trans ha2); have HM2 := hid (hmv.gr ha2); have Hms := hid hms; have Hb2 := hid hb2
  have fb2 := fld hb2
  clear hmv hms ha2 hb2 hg1 hbig
  obtain ⟨D, hD⟩ : ∃ D, validM m = true → VM m D := by
    by_cases h : validM m = true
    · obtain ⟨D, h⟩ := validM_open h; exact ⟨D, fun _ => h⟩
    · exact ⟨[], fun h' => absurd h' h⟩
  have HD := hid hD; clear hD
  go_wp2_with fail
  generalize hW2 : w1.alloc (.cells #[.slice xo m.doms.length xc, .slice co m.cons.length cc] 32) = w2 at *
  clear hW2
  have hcall := NewStore_c m D _ _ HM2.out HD.out Hms.out
  (with_reducible refine hcall.mono ?_)
  clear hcall
  rintro e w3 ⟨sv, rfl, hst, hg3⟩
  obtain ⟨yo, yc, zo, zc, lo, lc, rfl, -, -⟩ := hst.open
  have ha4 : Gr [] w3 (w3.alloc (.cells #[.slice yo (newSto m D).mod.doms.length yc, .slice zo (newSto m D).mod.cons.length zc, .slice lo (newSto m D).lv.length lc] 39)) := (Gr.refl _ _).alloc _
  have hx4 := sto3 w3 (.slice yo (newSto m D).mod.doms.length yc) (.slice zo (newSto m D).mod.cons.length zc) (.slice lo (newSto m D).lv.length lc)
  have HB4 := hid (ha4.obj (hg3.obj Hb2.out (by simp)) (by simp)); have HX4 := hid hx4; have HS4 := hid (hst.gr ha4); have HM4 := hid (HM2.out.gr (hg3.trans ha4)); have HG4 := hid (HG2.out.trans (hg3.trans ha4))
  clear hst hg3 ha4 hx4 fb2
  have fb4 := fld HB4.out; have fx4 := fld HX4.out
  go_wp2_with fail
  generalize hW4 : w3.alloc (.cells #[.slice yo (newSto m D).mod.doms.length yc, .slice zo (newSto m D).mod.cons.length zc, .slice lo (newSto m D).lv.length lc] 39) = w4 at *
  clear hW4
  have HBX : Hid (∀ W, Gr [] w4 W → W.heap[w1.heap.size]? = some (.cells #[.slice xo m.doms.length xc, .slice co m.cons.length cc] 32 (0, 0))) := hid fun W h => h.obj HB4.out (by simp)
  have HXX : Hid (∀ W, Gr [] w4 W → W.heap[w3.heap.size]? = some (.cells #[.slice yo (newSto m D).mod.doms.length yc, .slice zo (newSto m D).mod.cons.length zc, .slice lo (newSto m D).lv.length lc] 39 (0, 0))) := hid fun W h => h.obj HX4.out (by simp)
  clear fb4 fx4
  have HSW : Hid (∀ W, Gr [] w4 W → ((W.cell? ⟨w1.heap.size, 0, none⟩ = some (.slice xo m.doms.length xc) ∧ W.cell? ⟨w1.heap.size, 1, none⟩ = some (.slice co m.cons.length cc)) ∧ (W.cell? ⟨w3.heap.size, 0, none⟩ = some (.slice yo (newSto m D).mod.doms.length yc) ∧ W.cell? ⟨w3.heap.size, 1, none⟩ = some (.slice zo (newSto m D).mod.cons.length zc) ∧ W.cell? ⟨w3.heap.size, 2, none⟩ = some (.slice lo (newSto m D).lv.length lc))) ∧ Gr [] w4 W) :=
    hid fun W h => ⟨⟨⟨fld (HBX.out W h) 0, fld (HBX.out W h) 1⟩, fld (HXX.out W h) 0, fld (HXX.out W h) 1, fld (HXX.out W h) 2⟩, h⟩
  cases hval : validM m
  · go_region_held_law (fun W => ((W.cell? ⟨w1.heap.size, 0, none⟩ = some (.slice xo m.doms.length xc) ∧ W.cell? ⟨w1.heap.size, 1, none⟩ = some (.slice co m.cons.length cc)) ∧ (W.cell? ⟨w3.heap.size, 0, none⟩ = some (.slice yo (newSto m D).mod.doms.length yc) ∧ W.cell? ⟨w3.heap.size, 1, none⟩ = some (.slice zo (newSto m D).mod.cons.length zc) ∧ W.cell? ⟨w3.heap.size, 2, none⟩ = some (.slice lo (newSto m D).lv.length lc))) ∧ Gr [] w4 W)
      ((refine HSW.out _ ?_; first | exact (Gr.refl [] w4) | exact Gr.drew (Gr.refl [] w4) | exact HGa.out | exact HGb.out | exact HGc.out | assumption))
      (first
      | (go_simp; go_at_call 16; refine (specNewStore_c m D _ _ (HM4.out.gr (by first | exact Gr.drew (Gr.refl [] w4) | exact (Gr.refl [] w4))) HD.out Hms.out).mono ?_; rintro e wa ⟨va, rfl, hsa, hga⟩; have hgx : Gr [] w4 wa := Gr.trans (by first | exact Gr.drew (Gr.refl [] w4) | exact (Gr.refl [] w4)) hga; obtain ⟨ao1, ac1, bo1, bc1, co1, cc1, rfl, -, -⟩ := hsa.open; have HGa := hid hgx; have HSa := hid hsa; clear hga hgx hsa; (try dsimp only))
      | (go_simp; go_at_call 15; refine (equalStores_t _ _ _ _ (HS4.out.gr HGa.out) HSa.out).mono ?_; rintro e wb ⟨rfl, hgb⟩; have hgx : Gr [] w4 wb := Gr.trans HGa.out hgb; have HGb := hid hgx; clear hgb hgx; (try dsimp only))
      | (go_simp; go_at_call 17; refine (ValidModel_c m _ _ (HM4.out.gr HGb.out)).mono ?_; rw [hval]; rintro e wc ⟨rfl, hgc⟩; have hgx : Gr [] w4 wc := Gr.trans HGb.out hgc; have HGc := hid hgx; clear hgc hgx; (try dsimp only)))
    all_goals
      go_wp2_with fail
      go_region_held_law (fun W => ((W.cell? ⟨w1.heap.size, 0, none⟩ = some (.slice xo m.doms.length xc) ∧ W.cell? ⟨w1.heap.size, 1, none⟩ = some (.slice co m.cons.length cc)) ∧ (W.cell? ⟨w3.heap.size, 0, none⟩ = some (.slice yo (newSto m D).mod.doms.length yc) ∧ W.cell? ⟨w3.heap.size, 1, none⟩ = some (.slice zo (newSto m D).mod.cons.length zc) ∧ W.cell? ⟨w3.heap.size, 2, none⟩ = some (.slice lo (newSto m D).lv.length lc))) ∧ Gr [] w4 W)
        ((refine HSW.out _ ?_; first | exact HGc.out | exact Gr.drew HGc.out | exact HGd.out | exact HGe.out | assumption))
        (first
        | (go_simp; go_at_call 16; refine (specNewStore_c m D _ _ (HM4.out.gr (by first | exact Gr.drew HGc.out | exact HGc.out)) HD.out Hms.out).mono ?_; rintro e wd ⟨va, rfl, hsa, hga⟩; have hgx : Gr [] w4 wd := Gr.trans (by first | exact Gr.drew HGc.out | exact HGc.out) hga; obtain ⟨ao1, ac1, bo1, bc1, co1, cc1, rfl, -, -⟩ := hsa.open; have HGd := hid hgx; have HSd := hid hsa; clear hga hgx hsa; (try dsimp only))
        | (go_simp; go_at_call 15; refine (equalStores_t _ _ _ _ (HS4.out.gr HGd.out) HSd.out).mono ?_; rintro e we ⟨rfl, hgb⟩; have hgx : Gr [] w4 we := Gr.trans HGd.out hgb; have HGe := hid hgx; clear hgb hgx; (try dsimp only)))
      all_goals
        go_wp2_with fail
        go_ret
        exact ⟨rfl, HG4.out.trans HGe.out⟩
  · have HVM := hid (HD.out hval)
    have HVS : Hid (validS (newSto m D) = true) := hid (by rw [newSto_valid HVM.out]; exact newSto_ok HVM.out)
    have HCU : Hid (curO (newSto m D) = some (ints (fix m.cons D))) := hid (by rw [newSto_valid HVM.out]; exact newSto_cur HVM.out)
    have HPR : Hid (propO m D = some (ints (fix m.cons D))) := hid (by unfold propO; rw [hval]; rfl)
    have hlv : (newSto m D).lv.length = 1 := by rw [newSto_valid HVM.out]; rfl
    have hlv2 : (((newSto m D).lv.length : Int) == 1) = true := by rw [hlv]; rfl
    clear hlv
    go_region_held_law (fun W => ((W.cell? ⟨w1.heap.size, 0, none⟩ = some (.slice xo m.doms.length xc) ∧ W.cell? ⟨w1.heap.size, 1, none⟩ = some (.slice co m.cons.length cc)) ∧ (W.cell? ⟨w3.heap.size, 0, none⟩ = some (.slice yo (newSto m D).mod.doms.length yc) ∧ W.cell? ⟨w3.heap.size, 1, none⟩ = some (.slice zo (newSto m D).mod.cons.length zc) ∧ W.cell? ⟨w3.heap.size, 2, none⟩ = some (.slice lo (newSto m D).lv.length lc))) ∧ Gr [] w4 W)
      ((refine HSW.out _ ?_; first | exact (Gr.refl [] w4) | exact Gr.drew (Gr.refl [] w4) | exact HGa.out | exact HGb.out | exact HGc.out | assumption))
      (first
      | (go_simp; go_at_call 16; refine (specNewStore_c m D _ _ (HM4.out.gr (by first | exact Gr.drew (Gr.refl [] w4) | exact (Gr.refl [] w4))) HD.out Hms.out).mono ?_; rintro e wa ⟨va, rfl, hsa, hga⟩; have hgx : Gr [] w4 wa := Gr.trans (by first | exact Gr.drew (Gr.refl [] w4) | exact (Gr.refl [] w4)) hga; obtain ⟨ao1, ac1, bo1, bc1, co1, cc1, rfl, -, -⟩ := hsa.open; have HGa := hid hgx; have HSa := hid hsa; clear hga hgx hsa; (try dsimp only))
      | (go_simp; go_at_call 15; refine (equalStores_t _ _ _ _ (HS4.out.gr HGa.out) HSa.out).mono ?_; rintro e wb ⟨rfl, hgb⟩; have hgx : Gr [] w4 wb := Gr.trans HGa.out hgb; have HGb := hid hgx; clear hgb hgx; (try dsimp only))
      | (go_simp; go_at_call 17; refine (ValidModel_c m _ _ (HM4.out.gr HGb.out)).mono ?_; rw [hval]; rintro e wc ⟨rfl, hgc⟩; have hgx : Gr [] w4 wc := Gr.trans HGb.out hgc; have HGc := hid hgx; clear hgc hgx; (try dsimp only)))
    all_goals
      go_wp2_with fail
      go_region_held_law (fun W => ((W.cell? ⟨w1.heap.size, 0, none⟩ = some (.slice xo m.doms.length xc) ∧ W.cell? ⟨w1.heap.size, 1, none⟩ = some (.slice co m.cons.length cc)) ∧ (W.cell? ⟨w3.heap.size, 0, none⟩ = some (.slice yo (newSto m D).mod.doms.length yc) ∧ W.cell? ⟨w3.heap.size, 1, none⟩ = some (.slice zo (newSto m D).mod.cons.length zc) ∧ W.cell? ⟨w3.heap.size, 2, none⟩ = some (.slice lo (newSto m D).lv.length lc))) ∧ Gr [] w4 W)
        ((refine HSW.out _ ?_; first | exact HGc.out | exact Gr.drew HGc.out | exact HGd.out | exact HGe.out | exact HGf.out | exact HGg.out | assumption))
        (first
        | (go_simp; go_at_call 18; refine (ValidStore_c _ _ _ (HS4.out.gr (by first | exact Gr.drew HGc.out | exact HGc.out))).mono ?_; rw [HVS.out]; rintro e wd ⟨rfl, hga⟩; have hgx : Gr [] w4 wd := Gr.trans (by first | exact Gr.drew HGc.out | exact HGc.out) hga; have HGd := hid hgx; clear hga hgx; (try dsimp only))
        | (go_simp; go_at_call 20; refine (CurrentDomains_c _ _ _ (HS4.out.gr HGd.out)).mono ?_; rw [HCU.out]; rintro e we ⟨ve, rfl, hoe, hge⟩; have hgx : Gr [] w4 we := Gr.trans HGd.out hge; have HGe := hid hgx; have HNe := hid hoe.nums; clear hge hgx hoe; (try dsimp only))
        | (go_simp; go_at_call 21; refine (Propagate_c m _ _ (HM4.out.gr HGe.out) D HD.out).mono ?_; rw [HPR.out]; rintro e wf ⟨vf, rfl, hof, hgf⟩; have hgx : Gr [] w4 wf := Gr.trans HGe.out hgf; have HGf := hid hgx; have HNf := hid hof.nums; have HNe2 := hid (HNe.out.gr hgf); clear hgf hgx hof; (try dsimp only))
        | (go_simp; go_at_call 19; refine (lawEqualInts_c _ _ _ _ _ HNe2.out HNf.out).mono ?_; rw [decide_eq_true rfl]; rintro e wg ⟨rfl, hgg⟩; have hgx : Gr [] w4 wg := Gr.trans HGf.out hgg; have HGg := hid hgx; clear hgg hgx; (try dsimp only)))
      all_goals
        go_wp2_with fail
        go_ret
        exact ⟨rfl, HG4.out.trans HGg.out⟩

end Go.Proofs.Ytngpcoilgilmjaa
