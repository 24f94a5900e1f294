/-
  Walk of the generator of models.
-/
import Derived.Test.YthebokkfhpeeiaaG6
import Derived.Test.YthebokkfhpeeiaaFP
set_option linter.unusedVariables false
namespace Go.Proofs.Ythebokkfhpeeiaa
open Go.RowKit

def SmallV (c : Con) : Prop := c.Small ∧ 1 ≤ c.vars.length

set_option maxRecDepth 100000 in
set_option maxHeartbeats 4000000 in
theorem anyModel_c (R : Nat) (bs : List Int) (q : Nat) (w : World) (hr : Rd w R bs q) (hq : q ≤ 1000000) :
    Calls Try.prog 77 #[.pointer (some ⟨R, 0, none⟩)] w (ModPost SmallV w.heap.size R bs (q + 2000) w) := by
  have hRw := hr.lt
  have hg0 : Gr [] w (w.alloc (.cells #[.slice none 0 0, .slice none 0 0] 32)) := (Gr.refl _ _).alloc _
  have hr0 : (w.alloc (.cells #[.slice none 0 0, .slice none 0 0] 32)).heap[w.heap.size]? = some (.cells #[.slice none 0 0, .slice none 0 0] 32 (0, 0)) := heap_alloc_new _ _
  have Hg0 := hid hg0; have Hr0 := hid hr0; have Hr := hid hr
  clear hg0 hr0 hr
  go_enter Try.func77, Try.ntmps77
  go_wp2_with fail
  have hcall := randomModel_c R bs q _ (Hr.out.gr Hg0.out) (by omega)
  (with_reducible refine hcall.mono ?_)
  clear hcall
  rintro e w1 ⟨m, M, ao, dc, co, cc, rfl, hown, hdM, ⟨hM1, hM2⟩, hcs, ⟨hd1, hd4⟩, hc4, htv, hrd1, hg1⟩
  obtain ⟨gd, dc', e1, ⟨hgd1, hgd2⟩, _, _⟩ := hown.open (by omega)
  obtain ⟨rfl, rfl⟩ : ao = some ⟨gd, 0, none⟩ ∧ dc = dc' := by simpa using e1
  have hgdM : gd < M := hdM gd rfl
  have HdM := hid hdM
  have HcB : Hid (∀ b, (Value.slice co m.cons.length cc).ownBlock = some b → b < w1.heap.size) := hid fun b hb => (hcs.ownB hb).2
  clear e1 hdM
  simp only [World.size_alloc] at hgd1 hM1 hown
  have hrb1 := hg1.obj Hr0.out (by simp <;> omega)
  have hg01 := Hg0.out.any.trans hg1
  have ha2 : Gr [] w1 (w1.alloc (.cells #[.slice (some ⟨gd, 0, none⟩) m.doms.length dc, .slice co m.cons.length cc] 32)) := (Gr.refl _ _).alloc _
  have hb2 : (w1.alloc (.cells #[.slice (some ⟨gd, 0, none⟩) m.doms.length dc, .slice co m.cons.length cc] 32)).heap[w1.heap.size]? = some (.cells #[.slice (some ⟨gd, 0, none⟩) m.doms.length dc, .slice co m.cons.length cc] 32 (0, 0)) := heap_alloc_new _ _
  have Hown := hid hown; have Hcs := hid hcs; have Htv := hid htv; have Hrd1 := hid hrd1; have Hrb1 := hid hrb1; have Hg01 := hid hg01; have Ha2 := hid ha2; have Hb2 := hid hb2
  have hs1 := lt_of_block hrb1
  clear hown hcs htv hrd1 hrb1 hg01 ha2 hb2 hg1
  go_wp2_with fail
  have hcall := pick_c R bs (q + 1000) 16 _ (Hrd1.out.gr Ha2.out) (by omega) (by omega)
  (with_reducible refine hcall.mono ?_)
  clear hcall
  rintro e w3 ⟨⟨r3, rfl, hr30, hr3n⟩, hrd3, hg3⟩
  have HG3 : Hid (Gr [R] w w3) := hid ((Hg01.out.trans Ha2.out.any).trans hg3)
  have hg13 : Gr [R] w1 w3 := Ha2.out.any.trans hg3
  have hs3 := hg13.size
  have hb3 := hg3.obj Hb2.out (by simp <;> omega)
  have hlt3 := lt_of_block hb3
  have Hb3 := hid hb3
  have Hown3 := hid (Hown.out.gr hg13 (by simp <;> omega))
  have Hcs3 := hid (Hcs.out.gr elCon_ok hg13 (by simp <;> omega))
  have Hrd3 := hid hrd3
  have hrb3 := hg13.obj Hrb1.out (by simp <;> omega)
  have HRBR := hid hrb3
  have fl3 := fld hb3
  have ff3 := fldF hb3
  clear hg13 hg3 hrd3 hb3 hrb3 Hown Hcs Hrd1 Hrb1 Hg01 Ha2 Hb2
  have hM3 : M ≤ w3.heap.size := by omega
  cases h0 : (r3 == 0)
  · cases h1 : (r3 == 1)
    · have HRB : Hid (∀ W, Gr [R, w3.heap.size, w3.heap.size] w3 W → W.heap[w.heap.size]? = some (.cells #[.slice none 0 0, .slice none 0 0] 32 (0, 0))) := hid fun W h => h.obj HRBR.out (by simp <;> omega)
      go_wp2_with ((with_reducible show wpList _ _ _ (⟨none, Op.store _ (Operand.tmp 2) (Operand.tmp 44), _, _, _, none⟩ :: _) _ _); refine wp_storeT 32 2 44 w.heap.size #[.slice (some ⟨gd, 0, none⟩) m.doms.length dc, .slice co m.cons.length cc] 32 #[.slice none 0 0, .slice none 0 0] (HRB.out _ (Gr.refl [R, w3.heap.size, w3.heap.size] w3)) ⟨sizeM, rfl, rfl, rfl, one2 _ _ _ _ _ _⟩ ?_; intro wE hbE hgE)
      have flE := fld hbE
      refine bodyPost_ret (v := .agg #[.slice (some ⟨gd, 0, none⟩) m.doms.length dc, .slice co m.cons.length cc]) ?_ rfl ?_
      · simp [results, Try.results77, go_sem, flE]
      · have hsE := hgE.size
        have hsL := (Gr.refl [R, w3.heap.size, w3.heap.size] w3).size
        have hcE := OwnG.gr elCon_ok Hcs3.out hgE (by simp <;> omega)
        have hdE := Own.gr Hown3.out hgE (by simp <;> omega)
        refine ⟨m, M, _, _, _, _, rfl, hdE.le (by omega), ?_, ⟨by omega, by omega⟩, hcE, ⟨hd1, hd4⟩, hc4, (fun c hc => ⟨(Htv.out c hc).1.small, (Htv.out c hc).2⟩), (Hrd3.out.grS hgE (by simp <;> omega)).le (by omega), ?_⟩
        · exact HdM.out
        · exact (HG3.out.step (Gr.refl [R, w3.heap.size, w3.heap.size] w3) (fun i hi => by simp at hi; by_cases hiR : i = R; exact .inl (by simp [hiR]); exact .inr (by omega))).step hgE (fun i hi => .inr (by simp at hi; omega))
    · have h1' : r3 = 1 := by simpa using h1
      subst h1'
      by_cases hcp : 0 < m.cons.length
      · have hcz : 0 < m.cons.length := hcp
        go_wp2_with fail
        (refine (pick_c R bs (q + 1000 + 1) m.cons.length _ Hrd3.out (by omega) (by omega)).mono ?_)
        rintro e w5 ⟨⟨r5, rfl, hr50, hr5n⟩, hrd5, hg5⟩
        obtain ⟨r5, rfl⟩ := Int.eq_ofNat_of_zero_le hr50
        have hr5c : r5 < m.cons.length := by omega
        have HS5 : Hid (Gr [R] w3 w5) := hid hg5
        have Hrd5 := hid hrd5
        have hs5 := hg5.size
        have Hb5 := hid (hg5.obj Hb3.out (by simp <;> omega))
        have hlt5 := lt_of_block Hb5.out
        have fl5 := fld Hb5.out
        have ff5 := fldF Hb5.out
        have Hcs5 := hid (Hcs3.out.gr elCon_ok hg5 (by simp <;> omega))
        clear hr50 hr5n hrd5 hg5
        obtain ⟨c, hc⟩ := get_some hr5c
        obtain ⟨gc, cc', us, e2, hgc1, hgc2, hul, hcell, hfro, hel⟩ := Hcs5.out.cell hc
        obtain ⟨rfl, rfl⟩ : co = some ⟨gc, 0, none⟩ ∧ cc = cc' := by simpa using e2
        obtain ⟨vo, vc, xo, xc, ro, rc, rfl, _⟩ := hel [] (by simp)
        have hgcw := HcB.out gc rfl
        have c0 := hcell 0 _ rfl
        have c1 := hcell 1 _ rfl
        have c2 := hcell 2 _ rfl
        have c3 := hcell 3 _ rfl
        have c4 := hcell 4 _ rfl
        simp only [Nat.zero_add, Nat.add_zero] at c0 c1 c2 c3 c4
        have Hel : Hid (∀ S : List Nat, (∀ b ∈ S, (b < M ∨ b = gc) ∨ w5.heap.size ≤ b) → ConV S w5 (.agg #[.int .i64 c.kind, .slice vo c.vars.length vc, .slice xo c.args.length xc, .int .i64 c.bound, .slice ro c.rows.length rc]) c) := hid fun S hS => by
          obtain ⟨vo', vc', xo', xc', ro', rc', e3, h3⟩ := hel S (fun b hb => by rcases hS b hb with (h | h) | h; exact .inl h; exact .inr (.inr h); exact .inr (.inl h))
          simp only [List.cons.injEq] at e3
          obtain ⟨_, e4, e5, _, e6, _⟩ := e3
          rw [← e4, ← e5, ← e6] at h3
          exact h3
        have Ht := hid (Htv.out c (List.mem_of_getElem? hc))
        have HRB : Hid (∀ W, Gr [R, gc, gc] w3 W → W.heap[w.heap.size]? = some (.cells #[.slice none 0 0, .slice none 0 0] 32 (0, 0))) := hid fun W h => h.obj HRBR.out (by simp <;> omega)
        clear hc e2 hul hcell hel
        go_wp2_with fail
        go_region_law (first | (go_simp; go_at_call 141; refine (damage_c (fun b => b < M ∨ b = gc) R bs (q + 1000 + 1 + 1) c vo vc xo xc ro rc _ (Hrd5.out.drew) (by omega) (fun S hS => (Hel.out S hS).gr ((Gr.refl _ _).drew)) Ht.out.1 Ht.out.2 (.inl (by omega)) (fun b hb => by rcases hb with h | h; (simp; omega); (subst h; exact hgc2))).mono ?_; rintro e w6 ⟨c6, vo6, vc6, xo6, xc6, ro6, rc6, rfl, hc6, hsm6, hv6, hrd6, hg6⟩; have HS56 : Hid (Gr [R] w5 w6) := hid (Gr.trans ((Gr.refl [R] _).drew) hg6); have HS6 : Hid (Gr [R] w3 w6) := hid (HS5.out.trans HS56.out); have d0 := HS56.out.cell c0 (by simp <;> omega); have d1 := HS56.out.cell c1 (by simp <;> omega); have d2 := HS56.out.cell c2 (by simp <;> omega); have d3 := HS56.out.cell c3 (by simp <;> omega); have d4 := HS56.out.cell c4 (by simp <;> omega); have df : ∀ j, w6.frozen? ⟨gc, j, none⟩ = false := (fun j => (HS56.out.frozen hgc2 (by simp <;> omega)).trans (hfro j)); have hlt6 := lt_of_block (HS6.out.obj Hb3.out (by simp <;> omega)); have fl6 := fld (HS6.out.obj Hb3.out (by simp <;> omega)); have ff6 := fldF (HS6.out.obj Hb3.out (by simp <;> omega)); have hs6 := HS6.out.size; have Hrd6 := hid hrd6; have Hc6 := hid hc6; have HV6 : Hid (SmallV c6) := hid ⟨hsm6, hv6⟩; clear hrd6 hc6 hsm6 hv6 hg6))
        all_goals
          have HL : Hid (Gr [R, gc, gc] w3 (((((w6.setCell ⟨gc, r5 * 5, none⟩ (.int .i64 c6.kind)).setCell ⟨gc, r5 * 5 + 1, none⟩ (.slice vo6 c6.vars.length vc6)).setCell ⟨gc, r5 * 5 + 2, none⟩ (.slice xo6 c6.args.length xc6)).setCell ⟨gc, r5 * 5 + 3, none⟩ (.int .i64 c6.bound)).setCell ⟨gc, r5 * 5 + 4, none⟩ (.slice ro6 c6.rows.length rc6))) := hid ((((((HS6.out.sub (by intro k _ h; simp at h ⊢; exact .inl h)).setCell _ _ (.inl (by simp))).setCell _ _ (.inl (by simp))).setCell _ _ (.inl (by simp))).setCell _ _ (.inl (by simp))).setCell _ _ (.inl (by simp)))
          have HG7 : Hid (Gr [gc] w6 (((((w6.setCell ⟨gc, r5 * 5, none⟩ (.int .i64 c6.kind)).setCell ⟨gc, r5 * 5 + 1, none⟩ (.slice vo6 c6.vars.length vc6)).setCell ⟨gc, r5 * 5 + 2, none⟩ (.slice xo6 c6.args.length xc6)).setCell ⟨gc, r5 * 5 + 3, none⟩ (.int .i64 c6.bound)).setCell ⟨gc, r5 * 5 + 4, none⟩ (.slice ro6 c6.rows.length rc6))) := hid (((((Gr.cell1 [gc] _ _ _ (by simp)).setCell _ _ (.inl (by simp))).setCell _ _ (.inl (by simp))).setCell _ _ (.inl (by simp))).setCell _ _ (.inl (by simp)))
          have HD : Hid (Own (w.heap.size + 1) (((((w6.setCell ⟨gc, r5 * 5, none⟩ (.int .i64 c6.kind)).setCell ⟨gc, r5 * 5 + 1, none⟩ (.slice vo6 c6.vars.length vc6)).setCell ⟨gc, r5 * 5 + 2, none⟩ (.slice xo6 c6.args.length xc6)).setCell ⟨gc, r5 * 5 + 3, none⟩ (.int .i64 c6.bound)).setCell ⟨gc, r5 * 5 + 4, none⟩ (.slice ro6 c6.rows.length rc6)) 3 (.slice (some ⟨gd, 0, none⟩) m.doms.length dc) m.doms) := hid ((Hown3.out.gr HS6.out (by simp <;> omega)).keep HG7.out (by simp <;> omega))
          have HC : Hid (OwnG 5 elCon M (((((w6.setCell ⟨gc, r5 * 5, none⟩ (.int .i64 c6.kind)).setCell ⟨gc, r5 * 5 + 1, none⟩ (.slice vo6 c6.vars.length vc6)).setCell ⟨gc, r5 * 5 + 2, none⟩ (.slice xo6 c6.args.length xc6)).setCell ⟨gc, r5 * 5 + 3, none⟩ (.int .i64 c6.bound)).setCell ⟨gc, r5 * 5 + 4, none⟩ (.slice ro6 c6.rows.length rc6)) 26 (.slice (some ⟨gc, 0, none⟩) m.cons.length cc) (m.cons.set r5 c6)) := hid ((Hcs3.out.gr elCon_ok HS6.out (by simp <;> omega)).set5 elCon_ok hr5c _ _ _ _ _ (by simp [Value.oneCell']) c6 (fun S hS => ⟨_, _, _, _, _, _, rfl, ((Hc6.out (gc :: S) (fun b hb => by rcases List.mem_cons.1 hb with h | h; exact .inl (.inr h); (rcases hS b h with h | h | h; exact .inl (.inl h); exact .inr h; exact .inl (.inr h)))).gr (HG7.out.sub (fun k _ hk => by simp at hk ⊢; exact .inl hk))).sub (fun b _ hb => by simp [hb])⟩))
          have HR : Hid (Rd (((((w6.setCell ⟨gc, r5 * 5, none⟩ (.int .i64 c6.kind)).setCell ⟨gc, r5 * 5 + 1, none⟩ (.slice vo6 c6.vars.length vc6)).setCell ⟨gc, r5 * 5 + 2, none⟩ (.slice xo6 c6.args.length xc6)).setCell ⟨gc, r5 * 5 + 3, none⟩ (.int .i64 c6.bound)).setCell ⟨gc, r5 * 5 + 4, none⟩ (.slice ro6 c6.rows.length rc6)) R bs (q + 1000 + 1 + 1 + 2)) := hid (Hrd6.out.grS HG7.out (by simp <;> omega))
          have hb7 : (((((w6.setCell ⟨gc, r5 * 5, none⟩ (.int .i64 c6.kind)).setCell ⟨gc, r5 * 5 + 1, none⟩ (.slice vo6 c6.vars.length vc6)).setCell ⟨gc, r5 * 5 + 2, none⟩ (.slice xo6 c6.args.length xc6)).setCell ⟨gc, r5 * 5 + 3, none⟩ (.int .i64 c6.bound)).setCell ⟨gc, r5 * 5 + 4, none⟩ (.slice ro6 c6.rows.length rc6)).heap[w1.heap.size]? = some (.cells #[.slice (some ⟨gd, 0, none⟩) m.doms.length dc, .slice (some ⟨gc, 0, none⟩) m.cons.length cc] 32 (0, 0)) := HG7.out.obj (HS6.out.obj Hb3.out (by simp <;> omega)) (by simp <;> omega)
          obtain ⟨W7, hW7⟩ : ∃ W7 : World, W7 = (((((w6.setCell ⟨gc, r5 * 5, none⟩ (.int .i64 c6.kind)).setCell ⟨gc, r5 * 5 + 1, none⟩ (.slice vo6 c6.vars.length vc6)).setCell ⟨gc, r5 * 5 + 2, none⟩ (.slice xo6 c6.args.length xc6)).setCell ⟨gc, r5 * 5 + 3, none⟩ (.int .i64 c6.bound)).setCell ⟨gc, r5 * 5 + 4, none⟩ (.slice ro6 c6.rows.length rc6)) := ⟨_, rfl⟩
          rw [← hW7] at hb7 HL HD HC HR ⊢
          have fl7 := fld hb7
          clear fl6 fl5 fl3 ff6 ff5 ff3 d0 d1 d2 d3 d4 df c0 c1 c2 c3 c4 hfro HG7 hW7 hb7
          go_wp2_with ((with_reducible show wpList _ _ _ (⟨none, Op.store _ (Operand.tmp 2) (Operand.tmp 44), _, _, _, none⟩ :: _) _ _); refine wp_storeT 32 2 44 w.heap.size #[.slice (some ⟨gd, 0, none⟩) m.doms.length dc, .slice (some ⟨gc, 0, none⟩) m.cons.length cc] 32 #[.slice none 0 0, .slice none 0 0] (HRB.out _ (HL.out)) ⟨sizeM, rfl, rfl, rfl, one2 _ _ _ _ _ _⟩ ?_; intro wE hbE hgE)
          have flE := fld hbE
          refine bodyPost_ret (v := .agg #[.slice (some ⟨gd, 0, none⟩) m.doms.length dc, .slice (some ⟨gc, 0, none⟩) m.cons.length cc]) ?_ rfl ?_
          · simp [results, Try.results77, go_sem, flE]
          · have hsE := hgE.size
            have hsL := (HL.out).size
            have hcE := OwnG.gr elCon_ok HC.out hgE (by simp <;> omega)
            have hdE := Own.gr HD.out hgE (by simp <;> omega)
            have e : m.cons.length = (m.cons.set r5 c6).length := (by simp)
            rw [e] at hcE ⊢
            refine ⟨⟨m.doms, m.cons.set r5 c6⟩, M, _, _, _, _, rfl, hdE.le (by omega), ?_, ⟨by omega, by omega⟩, hcE, ⟨hd1, hd4⟩, (by simpa using hc4), (fun c hc => by rcases List.mem_or_eq_of_mem_set hc with h | h; exact ⟨(Htv.out c h).1.small, (Htv.out c h).2⟩; exact h ▸ HV6.out), (HR.out.grS hgE (by simp <;> omega)).le (by omega), ?_⟩
            · exact HdM.out
            · exact (HG3.out.step (HL.out) (fun i hi => by simp at hi; by_cases hiR : i = R; exact .inl (by simp [hiR]); exact .inr (by omega))).step hgE (fun i hi => .inr (by simp at hi; omega))
      · have HRB : Hid (∀ W, Gr [R, w3.heap.size, w3.heap.size] w3 W → W.heap[w.heap.size]? = some (.cells #[.slice none 0 0, .slice none 0 0] 32 (0, 0))) := hid fun W h => h.obj HRBR.out (by simp <;> omega)
        go_wp2_with ((with_reducible show wpList _ _ _ (⟨none, Op.store _ (Operand.tmp 2) (Operand.tmp 44), _, _, _, none⟩ :: _) _ _); refine wp_storeT 32 2 44 w.heap.size #[.slice (some ⟨gd, 0, none⟩) m.doms.length dc, .slice co m.cons.length cc] 32 #[.slice none 0 0, .slice none 0 0] (HRB.out _ (Gr.refl [R, w3.heap.size, w3.heap.size] w3)) ⟨sizeM, rfl, rfl, rfl, one2 _ _ _ _ _ _⟩ ?_; intro wE hbE hgE)
        have flE := fld hbE
        refine bodyPost_ret (v := .agg #[.slice (some ⟨gd, 0, none⟩) m.doms.length dc, .slice co m.cons.length cc]) ?_ rfl ?_
        · simp [results, Try.results77, go_sem, flE]
        · have hsE := hgE.size
          have hsL := (Gr.refl [R, w3.heap.size, w3.heap.size] w3).size
          have hcE := OwnG.gr elCon_ok Hcs3.out hgE (by simp <;> omega)
          have hdE := Own.gr Hown3.out hgE (by simp <;> omega)
          refine ⟨m, M, _, _, _, _, rfl, hdE.le (by omega), ?_, ⟨by omega, by omega⟩, hcE, ⟨hd1, hd4⟩, hc4, (fun c hc => ⟨(Htv.out c hc).1.small, (Htv.out c hc).2⟩), (Hrd3.out.grS hgE (by simp <;> omega)).le (by omega), ?_⟩
          · exact HdM.out
          · exact (HG3.out.step (Gr.refl [R, w3.heap.size, w3.heap.size] w3) (fun i hi => by simp at hi; by_cases hiR : i = R; exact .inl (by simp [hiR]); exact .inr (by omega))).step hgE (fun i hi => .inr (by simp at hi; omega))
  · have h0' : r3 = 0 := by simpa using h0
    subst h0'
    have HRB : Hid (∀ W, Gr [R, gd, gd] w3 W → W.heap[w.heap.size]? = some (.cells #[.slice none 0 0, .slice none 0 0] 32 (0, 0))) := hid fun W h => h.obj HRBR.out (by simp <;> omega)
    go_wp2_with fail
    go_region_law (first | (go_simp; go_at_call 57; refine (pick_c R bs (q + 1000 + 1) m.doms.length _ (Hrd3.out.gr ((Gr.refl [] _).drew)) (by omega) (by omega)).mono ?_; rintro e w5 ⟨⟨r5, rfl, hr50, hr5n⟩, hrd5, hg5⟩; obtain ⟨r5, rfl⟩ := Int.eq_ofNat_of_zero_le hr50; have hr5d : r5 < m.doms.length := (by omega); clear hr50 hr5n; have HS5 : Hid (Gr [R] w3 w5) := hid (Gr.trans (a := w3) (Gr.any ((Gr.refl [] _).drew)) hg5); have Hrd5 := hid hrd5; have hlt5 := lt_of_block (HS5.out.obj Hb3.out (by simp <;> omega)); have fl5 := fld (HS5.out.obj Hb3.out (by simp <;> omega)); have ff5 := fldF (HS5.out.obj Hb3.out (by simp <;> omega)); have hs5 := HS5.out.size; clear hrd5 hg5) | (go_simp; go_at_call 57; refine (pick_c R bs (q + 1000 + 1) m.doms.length _ (Hrd3.out.gr (((Gr.refl [] _).alloc _).drew)) (by omega) (by omega)).mono ?_; rintro e w5 ⟨⟨r5, rfl, hr50, hr5n⟩, hrd5, hg5⟩; obtain ⟨r5, rfl⟩ := Int.eq_ofNat_of_zero_le hr50; have hr5d : r5 < m.doms.length := (by omega); clear hr50 hr5n; have HS5 : Hid (Gr [R] w3 w5) := hid (Gr.trans (a := w3) (Gr.any (((Gr.refl [] _).alloc _).drew)) hg5); have HN5 := hid ((nums_new (S := [R]) w3 3 [-1, 64, 0] (by simp <;> omega)).gr (Gr.trans ((Gr.refl [R] _).drew) hg5)); have Hrd5 := hid hrd5; have hlt5 := lt_of_block (HS5.out.obj Hb3.out (by simp <;> omega)); have fl5 := fld (HS5.out.obj Hb3.out (by simp <;> omega)); have ff5 := fldF (HS5.out.obj Hb3.out (by simp <;> omega)); have hs5 := HS5.out.size; clear hrd5 hg5) | (go_simp; go_at_call 140; refine (one_c R bs (q + 1000 + 1 + 1) _ [-1, 64, 0] _ Hrd5.out HN5.out (by omega) (by simp) (by simp)).mono ?_; rintro e w6 ⟨⟨r6, rfl, hr6⟩, hrd6, hg6⟩; have HS6 : Hid (Gr [R] w3 w6) := hid (HS5.out.trans hg6); obtain ⟨y6, hy6⟩ := get_some (xs := m.doms) (k := r5) hr5d; obtain ⟨hc61, hc62⟩ := (Hown3.out.gr HS6.out (by simp <;> omega)).at hy6; have hlt6 := lt_of_block (HS6.out.obj Hb3.out (by simp <;> omega)); have fl6 := fld (HS6.out.obj Hb3.out (by simp <;> omega)); have ff6 := fldF (HS6.out.obj Hb3.out (by simp <;> omega)); have Hrd6 := hid hrd6; have hs6 := HS6.out.size; clear hy6 hrd6 hg6 hr6) | (go_simp; go_at_call 140; refine (one_c R bs (q + 1000 + 1 + 1) _ [-1, 64, 0] _ (Hrd5.out.gr ((Gr.refl [] _).alloc _)) (nums_new _ _ _ (by simp <;> omega)) (by omega) (by simp) (by simp)).mono ?_; rintro e w6 ⟨⟨r6, rfl, hr6⟩, hrd6, hg6⟩; have HS6 : Hid (Gr [R] w3 w6) := hid ((HS5.out.alloc _).trans hg6); obtain ⟨y6, hy6⟩ := get_some (xs := m.doms) (k := r5) hr5d; obtain ⟨hc61, hc62⟩ := (Hown3.out.gr HS6.out (by simp <;> omega)).at hy6; have hlt6 := lt_of_block (HS6.out.obj Hb3.out (by simp <;> omega)); have fl6 := fld (HS6.out.obj Hb3.out (by simp <;> omega)); have ff6 := fldF (HS6.out.obj Hb3.out (by simp <;> omega)); have Hrd6 := hid hrd6; have hs6 := HS6.out.size; clear hy6 hrd6 hg6 hr6))
    all_goals
      have HL : Hid (Gr [R, gd, gd] w3 (w6.setCell ⟨gd, r5, none⟩ (.int .i64 r6))) := hid ((HS6.out.sub (by intro k _ h; simp at h ⊢; exact .inl h)).setCell _ _ (.inl (by simp)))
      have HD : Hid (Own (w.heap.size + 1) (w6.setCell ⟨gd, r5, none⟩ (.int .i64 r6)) 3 (.slice (some ⟨gd, 0, none⟩) m.doms.length dc) (m.doms.set r5 r6)) := hid ((Hown3.out.gr HS6.out (by simp <;> omega)).set r5 r6 hr5d)
      have HC : Hid (OwnG 5 elCon M (w6.setCell ⟨gd, r5, none⟩ (.int .i64 r6)) 26 (.slice co m.cons.length cc) m.cons) := hid ((Hcs3.out.gr elCon_ok HS6.out (by simp <;> omega)).gr elCon_ok (Gr.cell1 [gd] _ _ _ (by simp)) (by simp <;> omega))
      have HR : Hid (Rd (w6.setCell ⟨gd, r5, none⟩ (.int .i64 r6)) R bs (q + 1000 + 1 + 1 + 1)) := hid (Hrd6.out.grS (Gr.cell1 [gd] _ _ _ (by simp)) (by simp <;> omega))
      go_wp2_with ((with_reducible show wpList _ _ _ (⟨none, Op.store _ (Operand.tmp 2) (Operand.tmp 44), _, _, _, none⟩ :: _) _ _); refine wp_storeT 32 2 44 w.heap.size #[.slice (some ⟨gd, 0, none⟩) m.doms.length dc, .slice co m.cons.length cc] 32 #[.slice none 0 0, .slice none 0 0] (HRB.out _ (HL.out)) ⟨sizeM, rfl, rfl, rfl, one2 _ _ _ _ _ _⟩ ?_; intro wE hbE hgE)
      have flE := fld hbE
      refine bodyPost_ret (v := .agg #[.slice (some ⟨gd, 0, none⟩) m.doms.length dc, .slice co m.cons.length cc]) ?_ rfl ?_
      · simp [results, Try.results77, go_sem, flE]
      · have hsE := hgE.size
        have hsL := (HL.out).size
        have hcE := OwnG.gr elCon_ok HC.out hgE (by simp <;> omega)
        have hdE := Own.gr HD.out hgE (by simp <;> omega)
        have e : m.doms.length = (m.doms.set r5 r6).length := by simp
        rw [e] at hdE ⊢
        rw [e] at HdM
        refine ⟨⟨m.doms.set r5 r6, m.cons⟩, M, _, _, _, _, rfl, hdE.le (by omega), ?_, ⟨by omega, by omega⟩, hcE, ⟨by simpa using hd1, by simpa using hd4⟩, hc4, (fun c hc => ⟨(Htv.out c hc).1.small, (Htv.out c hc).2⟩), (HR.out.grS hgE (by simp <;> omega)).le (by omega), ?_⟩
        · exact HdM.out
        · exact (HG3.out.step (HL.out) (fun i hi => by simp at hi; by_cases hiR : i = R; exact .inl (by simp [hiR]); exact .inr (by omega))).step hgE (fun i hi => .inr (by simp at hi; omega))
end Go.Proofs.Ythebokkfhpeeiaa
