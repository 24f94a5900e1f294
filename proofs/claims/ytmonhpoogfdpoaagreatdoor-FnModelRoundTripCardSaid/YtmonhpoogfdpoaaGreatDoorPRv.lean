/-
  Walk of the generator of models: what it draws is valid.
-/
import Derived.Test.YtmonhpoogfdpoaaGreatDoorPG8
import Derived.Test.YtmonhpoogfdpoaaGreatDoorPM4M5
set_option linter.unusedVariables false
namespace Go.Proofs.YtmonhpoogfdpoaaGreatDoor
open Go.RowKit

/-- What the generator of valid models leaves. -/
def ModPostV (B R : Nat) (bs : List Int) (q : Nat) (w : World) (e : Ending) (w' : World) : Prop :=
  ∃ (m : Mod) (M : Nat) (ao : Option Addr) (ac : Nat) (co : Option Addr) (cc : Nat), e = .returned (.agg #[.slice ao m.doms.length ac, .slice co m.cons.length cc]) ∧
    Own B w' 3 (.slice ao m.doms.length ac) m.doms ∧ (∀ b, (Value.slice ao m.doms.length ac).ownBlock = some b → b < M) ∧ (B ≤ M ∧ M ≤ w'.heap.size) ∧
    OwnG 5 elCon M w' 49 (.slice co m.cons.length cc) m.cons ∧ (1 ≤ m.doms.length ∧ m.doms.length ≤ 4) ∧ m.cons.length ≤ 4 ∧ (∀ c ∈ m.cons, TinyV c) ∧ Rd w' R bs q ∧ Gr [R] w w' ∧ validM m = true
theorem validM_mk {ds : List Int} {cs : List Con} (h1 : 1 ≤ ds.length ∧ ds.length ≤ 4) (h2 : cs.length ≤ 4) (hd : ∀ d ∈ ds, 0 ≤ d ∧ d ≤ 63) (hc : ∀ c ∈ cs, VC c ds.length) : validM ⟨ds, cs⟩ = true := by
  refine validM_iff.2 ⟨?_, by show cs.length ≤ 6; omega, fun c h => validCon_iff.2 (hc c h)⟩
  unfold domsOk
  rw [Bool.and_eq_true, inB_iff, allB_iff]
  exact ⟨by show 1 ≤ (ds.length : Int) ∧ (ds.length : Int) ≤ 4; omega, hd⟩

set_option maxRecDepth 100000 in
set_option maxHeartbeats 4000000 in
theorem randomModel_v (R : Nat) (bs : List Int) (q : Nat) (w : World) (hr : Rd w R bs q) (hq : q ≤ 1000000) :
    Calls Tryz.prog 18 #[.pointer (some ⟨R, 0, none⟩)] w (ModPostV w.heap.size R bs (q + 1000) w) := by
  have hRw := hr.lt
  have hg0 : Gr [] w ((w.alloc (.cells #[.slice none 0 0, .slice none 0 0] 27)).alloc (.cells #[.slice none 0 0, .slice none 0 0] 27)) := ((Gr.refl _ _).alloc _).alloc _
  have hr0 : ((w.alloc (.cells #[.slice none 0 0, .slice none 0 0] 27)).alloc (.cells #[.slice none 0 0, .slice none 0 0] 27)).heap[w.heap.size]? = some (.cells #[.slice none 0 0, .slice none 0 0] 27 (0, 0)) := (heap_alloc_old _ _ (by simp)).trans (heap_alloc_new _ _)
  have hb0 : ((w.alloc (.cells #[.slice none 0 0, .slice none 0 0] 27)).alloc (.cells #[.slice none 0 0, .slice none 0 0] 27)).heap[w.heap.size + 1]? = some (.cells #[.slice none 0 0, .slice none 0 0] 27 (0, 0)) := by
    have := heap_alloc_new (w.alloc (.cells #[.slice none 0 0, .slice none 0 0] 27)) (.cells #[.slice none 0 0, .slice none 0 0] 27)
    rwa [World.size_alloc] at this
  have Hg0 := hid hg0; have Hb0 := hid hb0; have Hr0 := hid hr0; have Hr := hid hr
  clear hg0 hb0 hr0 hr
  go_enter Tryz.func18, Tryz.ntmps18
  go_wp2_with fail
  have hcall := pick_c R bs q 4 _ (Hr.out.gr Hg0.out) (by omega) (by omega)
  (with_reducible refine hcall.mono ?_)
  clear hcall
  rintro e w1 ⟨⟨r1, rfl, hr10, hr1n⟩, hrd1, hg1⟩
  obtain ⟨r1, rfl⟩ := Int.eq_ofNat_of_zero_le hr10
  have hr14 : r1 < 4 := by omega
  have hb1 := hg1.obj Hb0.out (by simp; omega)
  have hr1 := hg1.obj Hr0.out (by simp; omega)
  have HG1 : Hid (Gr [R] w w1) := hid (Hg0.out.any.trans hg1)
  have hlt1 := lt_of_block hb1
  have Hb1 := hid hb1; have Hrd1 := hid hrd1
  have HRB : Hid (∀ W, Gr [R, w.heap.size + 1] w1 W → W.heap[w.heap.size]? = some (.cells #[.slice none 0 0, .slice none 0 0] 27 (0, 0))) := hid fun W h => h.obj hr1 (by simp; omega)
  have HK : Hid (((1 : Int) + (r1 : Int)) = ((1 + r1 : Nat) : Int)) := hid (by omega)
  clear hb1 hr1 hg1 hrd1 hr1n hr10
  go_wp2_with fail
  go_loopw [4] (fun i wr => ∃ (k : Nat) (ds : List Int) (dv : Value), k ≤ 4 ∧ i = .int .i64 k ∧ ds.length + k = 1 + r1 ∧ (∀ d ∈ ds, 0 ≤ d ∧ d ≤ 63) ∧ wr.heap[w.heap.size + 1]? = some (.cells #[dv, .slice none 0 0] 27 (0, 0)) ∧ Own w1.heap.size wr 3 dv ds ∧ Rd wr R bs (q + 1 + 3 * ds.length) ∧ Gr [R, w.heap.size + 1] w1 wr) (fun i _ => (intOf i).toNat)
  case atStart => exact ⟨1 + r1, [], _, by omega, by rw [HK.out], by simp, by simp, Hb1.out, Own.nil _ _ _, Hrd1.out, Gr.refl _ _⟩
  case round =>
    obtain ⟨k, ds, dv, hk, rfl, hal, hdr, hb, hown, hrd, hL⟩ := hrel
    have flr := fld hb
    have ffr := fldF hb
    have hltr := lt_of_block hb
    have hsr := hL.size
    obtain ⟨xo, xc, rfl⟩ := hown.c.form
    have Hal := hid hal; have Hdr := hid hdr; have Hb := hid hb; have Hown := hid hown; have Hrd := hid hrd; have HL := hid hL
    clear hdr
    have hds4 : ds.length ≤ 4 := by omega
    clear hal hb hown hrd hL
    by_cases hlt : 0 < k
    · go_wp2_with fail
      go_region_law (first
        | (go_simp; go_at_call 48; refine (randomDomain_c R bs (q + 1 + 3 * ds.length) _ (Hrd.out.drew) (by omega)).mono ?_; rintro e w6 ⟨⟨r6, rfl, hr6⟩, hrd6, hg6⟩; have HS6 := hid (Gr.trans (a := wr) ((Gr.refl [R] _).drew) hg6); have HSC6 : Hid (Gr [R] wr w6) := HS6; have Hrd6 := hid hrd6; have Hb6 := hid (HSC6.out.obj Hb.out (by simp <;> omega)); have fl6 := fld Hb6.out; have ff6 := fldF Hb6.out; have hlt6 := lt_of_block Hb6.out; have hs6 := HSC6.out.size; have Hr6 := hid hr6; clear hrd6 hg6 hr6)
        | (refine step_app1 rfl _ _ 24 rfl w1.heap.size 3 infoInt Tryz.underlying24 (.slice xo ds.length xc) ds rfl ((Hown.out.gr HSC6.out (by simp <;> omega)).alloc _) w6.heap.size 1 r6 rfl (cell_new _ _ _) (by omega) (by simp <;> omega) ?_; intro g7 c7 w7 hown7 hbl7; have HA7 := hid (And.intro hown7 hbl7); have fl7 := fld ((hbl7.block (w.heap.size + 1) (by omega)).trans ((((Gr.refl [] w6).alloc (.cells #[.int .i64 r6] 3)).obj Hb6.out (by simp)))); have ff7 := fldF ((hbl7.block (w.heap.size + 1) (by omega)).trans ((((Gr.refl [] w6).alloc (.cells #[.int .i64 r6] 3)).obj Hb6.out (by simp)))); clear hown7 hbl7))
      all_goals
        go_wp2_with fail
        obtain ⟨e1, e2, e3, e4⟩ := app_end2 (fi := 0) (nv := .slice (some ⟨g7, 0, none⟩) (ds.length + 1) c7) HL.out HSC6.out HA7.out.2 (by omega) (by omega) Hb6.out Hrd6.out
        exact ⟨⟨k - 1, ds ++ [r6], _, by omega, by go_num, by rw [List.length_append, List.length_singleton]; have := Hal.out; omega, (fun d hd => by rcases List.mem_append.1 hd with h | h; exact Hdr.out d h; (rw [List.mem_singleton.1 h]; exact Hr6.out)), e1, HA7.out.1.gr e2 (by simp; omega), e3.le (by rw [List.length_append, List.length_singleton]; omega), e4⟩, by simp [intOf]; omega⟩
    · have hk0 : k = 0 := by omega
      subst hk0
      have hal := Hal.out
      rw [Nat.add_zero] at hal
      have hds1 : 1 ≤ ds.length := by omega
      clear Hal hal
      obtain ⟨wD, hwD⟩ : ∃ wD : World, wD = wr := ⟨_, rfl⟩
      rw [← hwD] at Hb Hown Hrd HL hltr hsr flr ffr ⊢
      clear hwD
      go_wp2_with fail
      have hcall := pick_c R bs (q + 1 + 3 * ds.length) 5 _ Hrd.out (by omega) (by omega)
      (with_reducible refine hcall.mono ?_)
      clear hcall
      rintro e w2 ⟨⟨r2, rfl, hr20, hr2n⟩, hrd2, hg2⟩
      obtain ⟨r2, rfl⟩ := Int.eq_ofNat_of_zero_le hr20
      have hr25 : r2 < 5 := by omega
      have HL2 : Hid (Gr [R, w.heap.size + 1] w1 w2) := hid (HL.out.trans (hg2.sub (by intro k _ h; simp at h ⊢; exact .inl h)))
      have Hb2 := hid (hg2.obj Hb.out (by simp; omega))
      have Hown2 := hid (Hown.out.gr hg2 (by simp; omega))
      have Hrd2 := hid hrd2
      have hs2 := HL2.out.size
      clear hg2 hrd2 hr20 hr2n Hb Hown Hrd HL flr ffr hltr hsr
      go_wp2_with fail
      go_loopw [5] (fun i wr => ∃ (k : Nat) (cs : List Con) (cv : Value), k ≤ 4 ∧ i = .int .i64 k ∧ cs.length + k = r2 ∧ wr.heap[w.heap.size + 1]? = some (.cells #[.slice xo ds.length xc, cv] 27 (0, 0)) ∧ OwnG 5 elCon w2.heap.size wr 49 cv cs ∧ (∀ c ∈ cs, TinyV c ∧ VC c ds.length) ∧ Rd wr R bs (q + 1 + 3 * ds.length + 1 + 200 * cs.length) ∧ Gr [R, w.heap.size + 1] w2 wr) (fun i _ => (intOf i).toNat)
      case atStart => exact ⟨r2, [], _, by omega, rfl, by simp, Hb2.out, OwnG.nil _ _ _, by simp, Hrd2.out, Gr.refl _ _⟩
      case round =>
        obtain ⟨k, cs, cv, hk, rfl, hal2, hb, hown, htv, hrd, hL⟩ := hrel
        have flr := fld hb
        have ffr := fldF hb
        have hltr := lt_of_block hb
        have hsr := hL.size
        obtain ⟨co, cc, rfl, _, _, _⟩ := hown.slice
        have Hb := hid hb; have Hown := hid hown; have Hrd := hid hrd; have HL := hid hL; have Htv := hid htv; have Hal2 := hid hal2
        have hcs4 : cs.length ≤ 4 := by omega
        clear hb hown hrd hL htv hal2
        by_cases hlt : 0 < k
        · go_wp2_with fail
          go_region_law (first
            | (go_simp; go_at_call 49; refine (randomConstraint_v R bs (q + 1 + 3 * ds.length + 1 + 200 * cs.length) ds.length _ (Hrd.out.drew) (by omega) (by omega) (by omega)).mono ?_; rintro e w6 ⟨c6, vo6, vc6, xo6, xc6, ro6, rc6, rfl, hc6, ht6, hv6, hvc6, hrd6, hg6⟩; have HS6 := hid (Gr.trans (a := wr) ((Gr.refl [R] _).drew) hg6); have HSC6 : Hid (Gr [R] wr w6) := HS6; have Hrd6 := hid hrd6; have Hc6 := hid hc6; have Ht6 : Hid (TinyV c6 ∧ VC c6 ds.length) := hid ⟨⟨ht6, hv6⟩, hvc6⟩; have Hb6 := hid (HSC6.out.obj Hb.out (by simp <;> omega)); have fl6 := fld Hb6.out; have ff6 := fldF Hb6.out; have hlt6 := lt_of_block Hb6.out; have hs6 := HSC6.out.size; clear hrd6 hg6 hc6 ht6 hv6 hvc6)
            | (refine step_appG rfl _ _ 25 rfl 5 elCon elCon_ok w2.heap.size 49 (.agg #[.int .i64 0, .slice none 0 0, .slice none 0 0, .int .i64 0, .slice none 0 0]) 88 infoC rfl (by omega) (by omega) Tryz.underlying25 (.slice co cs.length cc) cs rfl ((Hown.out.gr elCon_ok HSC6.out (by simp <;> omega)).gr elCon_ok ((Gr.refl [] _).alloc _) (by simp)) w6.heap.size 1 c6 [.int .i64 c6.kind, .slice vo6 c6.vars.length vc6, .slice xo6 c6.args.length xc6, .int .i64 c6.bound, .slice ro6 c6.rows.length rc6] rfl rfl (by simp [Value.oneCell']) (fun j u hj => by rw [fld (heap_alloc_new w6 (.cells #[.int .i64 c6.kind, .slice vo6 c6.vars.length vc6, .slice xo6 c6.args.length xc6, .int .i64 c6.bound, .slice ro6 c6.rows.length rc6] 49))]; simpa using hj) (fun S hS => ⟨_, _, _, _, _, _, rfl, (Hc6.out S (fun b hb => by rcases hS b hb with h | h | h; exact .inl (by simp; omega); exact .inr (by simp at h; omega); exact .inl (by have := (Hown.out.ownB h).2; simp; omega))).gr ((Gr.refl _ _).alloc _)⟩) (by omega) (by simp <;> omega) ?_; intro g7 c7 w7 hown7 hg7; have hbl7 := OwnG.below ((Hown.out.gr elCon_ok HSC6.out (by simp <;> omega)).gr elCon_ok ((Gr.refl [] _).alloc _) (by simp)) hg7 (by simp <;> omega); have HA7 := hid (And.intro hown7 hbl7); have fl7 := fld ((hbl7.block (w.heap.size + 1) (by omega)).trans ((((Gr.refl [] w6).alloc (.cells #[.int .i64 c6.kind, .slice vo6 c6.vars.length vc6, .slice xo6 c6.args.length xc6, .int .i64 c6.bound, .slice ro6 c6.rows.length rc6] 49)).obj Hb6.out (by simp)))); have ff7 := fldF ((hbl7.block (w.heap.size + 1) (by omega)).trans ((((Gr.refl [] w6).alloc (.cells #[.int .i64 c6.kind, .slice vo6 c6.vars.length vc6, .slice xo6 c6.args.length xc6, .int .i64 c6.bound, .slice ro6 c6.rows.length rc6] 49)).obj Hb6.out (by simp)))); clear hown7 hbl7 hg7))
          all_goals
            go_wp2_with fail
            obtain ⟨e1, e2, e3, e4⟩ := app_end2 (fi := 1) (nv := .slice (some ⟨g7, 0, none⟩) (cs.length + 1) c7) HL.out HSC6.out HA7.out.2 (by omega) (by omega) Hb6.out Hrd6.out
            refine ⟨⟨k - 1, cs ++ [c6], _, by omega, by go_num, by rw [List.length_append, List.length_singleton]; have := Hal2.out; omega, e1, HA7.out.1.gr elCon_ok e2 (by simp; omega), fun c hc => ?_, e3.le (by rw [List.length_append, List.length_singleton]; omega), e4⟩, by simp [intOf]; omega⟩
            rcases List.mem_append.1 hc with h | h
            · exact Htv.out c h
            · rw [List.mem_singleton.1 h]; exact Ht6.out
        · have hk0 : k = 0 := by omega
          subst hk0
          go_wp2_with ((with_reducible show wpList _ _ _ (⟨none, Op.store _ (Operand.tmp 2) (Operand.tmp 37), _, _, _, none⟩ :: _) _ _); refine wp_storeT 27 2 37 w.heap.size #[.slice xo ds.length xc, .slice co cs.length cc] 27 #[.slice none 0 0, .slice none 0 0] (HRB.out _ (HL2.out.step HL.out (by intro i hi; simp at hi ⊢; omega))) ⟨sizeM, rfl, rfl, rfl, one2 _ _ _ _ _ _⟩ ?_; intro wE hbE hgE)
          have flE := fld hbE
          refine bodyPost_ret (v := .agg #[.slice xo ds.length xc, .slice co cs.length cc]) ?_ rfl ?_
          · simp [results, Tryz.results18, go_sem, flE]
          · have hsE := hgE.size
            have hHL := HL.out.size
            refine ⟨⟨ds, cs⟩, w2.heap.size, xo, xc, co, cc, rfl, ?_, ?_, ⟨by omega, by omega⟩, Hown.out.gr elCon_ok hgE (by simp; omega), ⟨hds1, hds4⟩, hcs4, (fun c hc => (Htv.out c hc).1), (Hrd.out.grS hgE (by simp; omega)).le (by omega), ?_, validM_mk ⟨hds1, hds4⟩ hcs4 Hdr.out (fun c hc => (Htv.out c hc).2)⟩
            · exact (((Hown2.out.gr HL.out (by simp; omega)).gr hgE (by simp; omega)).le (by omega))
            · intro b hb
              exact (ownsRow_ownBlock Hown2.out hb).2
            · exact (HG1.out.step (HL2.out.step HL.out (by intro i hi; simp at hi ⊢; omega)) (fun i hi => by simp at hi; rcases hi with h | h; exact .inl (by simp [h]); exact .inr (by omega))).step hgE (fun i hi => .inr (by simp at hi; omega))
end Go.Proofs.YtmonhpoogfdpoaaGreatDoor
