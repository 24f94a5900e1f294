/-
  Walks of generators: damaged constraints.
  Walk of the generator of valid models.
  Walk of the generator of models.
  Walks of the generators DrawPropagate and DrawIsConsistent.
-/
import Derived.Test.YtlekngkcifgonaaGreatZG4
import Derived.Test.YtlekngkcifgonaaGreatZM1
import Derived.Test.YtlekngkcifgonaaGreatZFP
import Derived.Test.YtlekngkcifgonaaGreatZM4M5
set_option linter.unusedVariables false
namespace Go.Proofs.YtlekngkcifgonaaGreat
open Go.RowKit

/-- A list that lies in none of the blocks X, below hi. -/
def FrX (X : Nat → Prop) (hi : Nat) (w : World) (v : Value) (xs : List Int) : Prop := ∀ S : List Nat, (∀ b ∈ S, X b ∨ hi ≤ b) → Nums S w .i64 v xs
def FrRX (X : Nat → Prop) (hi : Nat) (w : World) (v : Value) (rows : List (List Int)) : Prop := ∀ S : List Nat, (∀ b ∈ S, X b ∨ hi ≤ b) → RowsV S w v rows
theorem FrI.x {lo hi : Nat} {w : World} {v : Value} {xs : List Int} {X : Nat → Prop} (h : FrI lo hi w v xs) (hX : ∀ b, X b → b < lo) : FrX X hi w v xs := fun S hS => h S fun b hb => (hS b hb).imp (hX b) id
theorem FrX.gr {X : Nat → Prop} {hi : Nat} {S : List Nat} {w w' : World} {v : Value} {xs : List Int} (h : FrX X hi w v xs) (hg : Gr S w w') (hS : ∀ b ∈ S, X b ∨ hi ≤ b) : FrX X hi w' v xs := fun S0 h0 =>
  ((h (S ++ S0) (by intro b hb; rcases List.mem_append.1 hb with hb | hb; exact hS b hb; exact h0 b hb)).gr (hg.sub fun k _ hk => by simp [hk])).sub fun b _ hb => by simp [hb]
theorem FrRX.gr {X : Nat → Prop} {hi : Nat} {S : List Nat} {w w' : World} {v : Value} {xs : List (List Int)} (h : FrRX X hi w v xs) (hg : Gr S w w') (hS : ∀ b ∈ S, X b ∨ hi ≤ b) : FrRX X hi w' v xs := fun S0 h0 =>
  ((h (S ++ S0) (by intro b hb; rcases List.mem_append.1 hb with hb | hb; exact hS b hb; exact h0 b hb)).gr (hg.sub fun k _ hk => by simp [hk])).sub fun b _ hb => by simp [hb]
/-- What a generator of constraints leaves: a constraint in none of the blocks X, maybe a wrong one. -/
def ConPostX (X : Nat → Prop) (R : Nat) (bs : List Int) (q : Nat) (w : World) (e : Ending) (w' : World) : Prop :=
  ∃ (c : Con) (vo : Option Addr) (vc : Nat) (xo : Option Addr) (xc : Nat) (ro : Option Addr) (rc : Nat),
    e = .returned (.agg #[.int .i64 c.kind, .slice vo c.vars.length vc, .slice xo c.args.length xc, .int .i64 c.bound, .slice ro c.rows.length rc]) ∧
    (∀ S : List Nat, (∀ b ∈ S, X b ∨ w'.heap.size ≤ b) → ConV S w' (.agg #[.int .i64 c.kind, .slice vo c.vars.length vc, .slice xo c.args.length xc, .int .i64 c.bound, .slice ro c.rows.length rc]) c) ∧
    c.Small ∧ 1 ≤ c.vars.length ∧ Rd w' R bs q ∧ Gr [R] w w'
theorem ConPost.s {B R : Nat} {bs : List Int} {q : Nat} {w : World} {e : Ending} {w' : World} (h : ConPost B R bs q w e w') : ConPostX (fun b => b < B) R bs q w e w' := by
  obtain ⟨c, vo, vc, xo, xc, ro, rc, h1, h2, h3, h4⟩ := h
  exact ⟨c, vo, vc, xo, xc, ro, rc, h1, h2, h3.small, h4⟩
end Go.Proofs.YtlekngkcifgonaaGreat

set_option linter.unusedVariables false
namespace Go.Proofs.YtlekngkcifgonaaGreat
open Go.RowKit

/-- What a generator of models leaves. -/
def ModPost (Pr : Con → Prop) (B R : Nat) (bs : List Int) (q : Nat) (w : World) (e : Ending) (w' : World) : Prop :=
  ∃ (m : Mod) (M : Nat) (ao : Option Addr) (ac : Nat) (co : Option Addr) (cc : Nat), e = .returned (.agg #[.slice ao m.doms.length ac, .slice co m.cons.length cc]) ∧
    Own B w' 3 (.slice ao m.doms.length ac) m.doms ∧ (∀ b, (Value.slice ao m.doms.length ac).ownBlock = some b → b < M) ∧ (B ≤ M ∧ M ≤ w'.heap.size) ∧
    OwnG 5 elCon M w' 55 (.slice co m.cons.length cc) m.cons ∧ (1 ≤ m.doms.length ∧ m.doms.length ≤ 4) ∧ m.cons.length ≤ 4 ∧ (∀ c ∈ m.cons, Pr c) ∧ Rd w' R bs q ∧ Gr [R] w w'
def TinyV (c : Con) : Prop := Tiny c ∧ 1 ≤ c.vars.length

theorem app_end2 {R Cb : Nat} {bs : List Int} {q fi : Nat} {w1 wr w6 w7 : World} {o : Obj} {cs : Array Value} {t : TypeId} {nv : Value}
    (hL : Gr [R, Cb] w1 wr) (h6 : Gr [R] wr w6) (hbl : Below w1.heap.size (w6.alloc o) w7) (hR : R < Cb) (hC : Cb < w1.heap.size)
    (hb6 : w6.heap[Cb]? = some (.cells cs t (0, 0))) (hrd : Rd w6 R bs q) :
    (w7.setCell ⟨Cb, fi, none⟩ nv).heap[Cb]? = some (.cells (cs.setIfInBounds fi nv) t (0, 0)) ∧ Gr [Cb] w7 (w7.setCell ⟨Cb, fi, none⟩ nv) ∧ Rd (w7.setCell ⟨Cb, fi, none⟩ nv) R bs q ∧ Gr [R, Cb] w1 (w7.setCell ⟨Cb, fi, none⟩ nv) := by
  have hgs : Gr [Cb] w7 (w7.setCell ⟨Cb, fi, none⟩ nv) := Gr.cell1 _ _ _ _ (by simp)
  have ha : Gr [] w6 (w6.alloc o) := (Gr.refl _ _).alloc _
  have hb7 : w7.heap[Cb]? = some (.cells cs t (0, 0)) := (hbl.block _ hC).trans (ha.obj hb6 (by simp))
  refine ⟨cells_set hb7 _ _, hgs, ?_, ?_⟩
  · exact ((hrd.gr ha).low hbl (by omega)).grS hgs (by simp; omega)
  · exact (((hL.trans (h6.sub (by intro k _ h; simp at h ⊢; exact .inl h))).alloc o).low hbl (Nat.le_refl _)).trans (hgs.sub (by intro k _ h; simp at h ⊢; exact .inr h))
theorem sizeM : (Tryz.prog.info? 26).map (·.size) = some 2 := by kernel_rfl
theorem one2 (x1 x2 : Option Addr) (n1 n2 c1 c2 : Nat) : (#[Value.slice x1 n1 c1, .slice x2 n2 c2]).all (·.oneCell') = true := by simp [Value.oneCell']

set_option maxRecDepth 100000 in
set_option maxHeartbeats 4000000 in
theorem randomModel_c (R : Nat) (bs : List Int) (q : Nat) (w : World) (hr : Rd w R bs q) (hq : q ≤ 1000000) :
    Calls Tryz.prog 147 #[.pointer (some ⟨R, 0, none⟩)] w (ModPost TinyV w.heap.size R bs (q + 1000) w) := by
  have hRw := hr.lt
  have hg0 : Gr [] w ((w.alloc (.cells #[.slice none 0 0, .slice none 0 0] 26)).alloc (.cells #[.slice none 0 0, .slice none 0 0] 26)) := ((Gr.refl _ _).alloc _).alloc _
  have hr0 : ((w.alloc (.cells #[.slice none 0 0, .slice none 0 0] 26)).alloc (.cells #[.slice none 0 0, .slice none 0 0] 26)).heap[w.heap.size]? = some (.cells #[.slice none 0 0, .slice none 0 0] 26 (0, 0)) := (heap_alloc_old _ _ (by simp)).trans (heap_alloc_new _ _)
  have hb0 : ((w.alloc (.cells #[.slice none 0 0, .slice none 0 0] 26)).alloc (.cells #[.slice none 0 0, .slice none 0 0] 26)).heap[w.heap.size + 1]? = some (.cells #[.slice none 0 0, .slice none 0 0] 26 (0, 0)) := by
    have := heap_alloc_new (w.alloc (.cells #[.slice none 0 0, .slice none 0 0] 26)) (.cells #[.slice none 0 0, .slice none 0 0] 26)
    rwa [World.size_alloc] at this
  have Hg0 := hid hg0; have Hb0 := hid hb0; have Hr0 := hid hr0; have Hr := hid hr
  clear hg0 hb0 hr0 hr
  go_enter Tryz.func147, Tryz.ntmps147
  go_wp2_with fail
  have hcall := pick_c R bs q 4 _ (Hr.out.gr Hg0.out) (by omega) (by omega)
  (with_reducible refine hcall.mono ?_)
  clear hcall
  rintro e w1 ⟨⟨r1, rfl, hr10, hr1n⟩, hrd1, hg1⟩
  obtain ⟨r1, rfl⟩ := Int.eq_ofNat_of_zero_le hr10
  have hr14 : r1 < 4 := by omega
  have hb1 := hg1.obj Hb0.out (by simp; omega)
  have hr1 := hg1.obj Hr0.out (by simp; omega)
  have HG1 : Hid (Gr [R] w w1) := hid (Hg0.out.any.trans hg1)
  have hlt1 := lt_of_block hb1
  have Hb1 := hid hb1; have Hrd1 := hid hrd1
  have HRB : Hid (∀ W, Gr [R, w.heap.size + 1] w1 W → W.heap[w.heap.size]? = some (.cells #[.slice none 0 0, .slice none 0 0] 26 (0, 0))) := hid fun W h => h.obj hr1 (by simp; omega)
  have HK : Hid (((1 : Int) + (r1 : Int)) = ((1 + r1 : Nat) : Int)) := hid (by omega)
  clear hb1 hr1 hg1 hrd1 hr1n hr10
  go_wp2_with fail
  go_loopw [4] (fun i wr => ∃ (k : Nat) (ds : List Int) (dv : Value), k ≤ 4 ∧ i = .int .i64 k ∧ ds.length + k = 1 + r1 ∧ wr.heap[w.heap.size + 1]? = some (.cells #[dv, .slice none 0 0] 26 (0, 0)) ∧ Own w1.heap.size wr 3 dv ds ∧ Rd wr R bs (q + 1 + 3 * ds.length) ∧ Gr [R, w.heap.size + 1] w1 wr) (fun i _ => (intOf i).toNat)
  case atStart => exact ⟨1 + r1, [], _, by omega, by rw [HK.out], by simp, Hb1.out, Own.nil _ _ _, Hrd1.out, Gr.refl _ _⟩
  case round =>
    obtain ⟨k, ds, dv, hk, rfl, hal, hb, hown, hrd, hL⟩ := hrel
    have flr := fld hb
    have ffr := fldF hb
    have hltr := lt_of_block hb
    have hsr := hL.size
    obtain ⟨xo, xc, rfl⟩ := hown.c.form
    have Hal := hid hal; have Hb := hid hb; have Hown := hid hown; have Hrd := hid hrd; have HL := hid hL
    have hds4 : ds.length ≤ 4 := by omega
    clear hal hb hown hrd hL
    by_cases hlt : 0 < k
    · go_wp2_with fail
      go_region_law (first
        | (go_simp; go_at_call 186; refine (randomDomain_c R bs (q + 1 + 3 * ds.length) _ (Hrd.out.drew) (by omega)).mono ?_; rintro e w6 ⟨⟨r6, rfl, hr6⟩, hrd6, hg6⟩; have HS6 := hid (Gr.trans (a := wr) ((Gr.refl [R] _).drew) hg6); have HSC6 : Hid (Gr [R] wr w6) := HS6; have Hrd6 := hid hrd6; have Hb6 := hid (HSC6.out.obj Hb.out (by simp <;> omega)); have fl6 := fld Hb6.out; have ff6 := fldF Hb6.out; have hlt6 := lt_of_block Hb6.out; have hs6 := HSC6.out.size; clear hrd6 hg6 hr6)
        | (refine step_app1 rfl _ _ 23 rfl w1.heap.size 3 infoInt Tryz.underlying23 (.slice xo ds.length xc) ds rfl ((Hown.out.gr HSC6.out (by simp <;> omega)).alloc _) w6.heap.size 1 r6 rfl (cell_new _ _ _) (by omega) (by simp <;> omega) ?_; intro g7 c7 w7 hown7 hbl7; have HA7 := hid (And.intro hown7 hbl7); have fl7 := fld ((hbl7.block (w.heap.size + 1) (by omega)).trans ((((Gr.refl [] w6).alloc (.cells #[.int .i64 r6] 3)).obj Hb6.out (by simp)))); have ff7 := fldF ((hbl7.block (w.heap.size + 1) (by omega)).trans ((((Gr.refl [] w6).alloc (.cells #[.int .i64 r6] 3)).obj Hb6.out (by simp)))); clear hown7 hbl7))
      all_goals
        go_wp2_with fail
        obtain ⟨e1, e2, e3, e4⟩ := app_end2 (fi := 0) (nv := .slice (some ⟨g7, 0, none⟩) (ds.length + 1) c7) HL.out HSC6.out HA7.out.2 (by omega) (by omega) Hb6.out Hrd6.out
        exact ⟨⟨k - 1, ds ++ [r6], _, by omega, by go_num, by rw [List.length_append, List.length_singleton]; have := Hal.out; omega, e1, HA7.out.1.gr e2 (by simp; omega), e3.le (by rw [List.length_append, List.length_singleton]; omega), e4⟩, by simp [intOf]; omega⟩
    · have hk0 : k = 0 := by omega
      subst hk0
      have hal := Hal.out
      rw [Nat.add_zero] at hal
      have hds1 : 1 ≤ ds.length := by omega
      clear Hal hal
      obtain ⟨wD, hwD⟩ : ∃ wD : World, wD = wr := ⟨_, rfl⟩
      rw [← hwD] at Hb Hown Hrd HL hltr hsr flr ffr ⊢
      clear hwD
      go_wp2_with fail
      have hcall := pick_c R bs (q + 1 + 3 * ds.length) 5 _ Hrd.out (by omega) (by omega)
      (with_reducible refine hcall.mono ?_)
      clear hcall
      rintro e w2 ⟨⟨r2, rfl, hr20, hr2n⟩, hrd2, hg2⟩
      obtain ⟨r2, rfl⟩ := Int.eq_ofNat_of_zero_le hr20
      have hr25 : r2 < 5 := by omega
      have HL2 : Hid (Gr [R, w.heap.size + 1] w1 w2) := hid (HL.out.trans (hg2.sub (by intro k _ h; simp at h ⊢; exact .inl h)))
      have Hb2 := hid (hg2.obj Hb.out (by simp; omega))
      have Hown2 := hid (Hown.out.gr hg2 (by simp; omega))
      have Hrd2 := hid hrd2
      have hs2 := HL2.out.size
      clear hg2 hrd2 hr20 hr2n Hb Hown Hrd HL flr ffr hltr hsr
      go_wp2_with fail
      go_loopw [5] (fun i wr => ∃ (k : Nat) (cs : List Con) (cv : Value), k ≤ 4 ∧ i = .int .i64 k ∧ cs.length + k = r2 ∧ wr.heap[w.heap.size + 1]? = some (.cells #[.slice xo ds.length xc, cv] 26 (0, 0)) ∧ OwnG 5 elCon w2.heap.size wr 55 cv cs ∧ (∀ c ∈ cs, TinyV c) ∧ Rd wr R bs (q + 1 + 3 * ds.length + 1 + 200 * cs.length) ∧ Gr [R, w.heap.size + 1] w2 wr) (fun i _ => (intOf i).toNat)
      case atStart => exact ⟨r2, [], _, by omega, rfl, by simp, Hb2.out, OwnG.nil _ _ _, by simp, Hrd2.out, Gr.refl _ _⟩
      case round =>
        obtain ⟨k, cs, cv, hk, rfl, hal2, hb, hown, htv, hrd, hL⟩ := hrel
        have flr := fld hb
        have ffr := fldF hb
        have hltr := lt_of_block hb
        have hsr := hL.size
        obtain ⟨co, cc, rfl, _, _, _⟩ := hown.slice
        have Hb := hid hb; have Hown := hid hown; have Hrd := hid hrd; have HL := hid hL; have Htv := hid htv; have Hal2 := hid hal2
        have hcs4 : cs.length ≤ 4 := by omega
        clear hb hown hrd hL htv hal2
        by_cases hlt : 0 < k
        · go_wp2_with fail
          go_region_law (first
            | (go_simp; go_at_call 211; refine (randomConstraint_c R bs (q + 1 + 3 * ds.length + 1 + 200 * cs.length) ds.length _ (Hrd.out.drew) (by omega) (by omega) (by omega)).mono ?_; rintro e w6 ⟨c6, vo6, vc6, xo6, xc6, ro6, rc6, rfl, hc6, ht6, hv6, hrd6, hg6⟩; have HS6 := hid (Gr.trans (a := wr) ((Gr.refl [R] _).drew) hg6); have HSC6 : Hid (Gr [R] wr w6) := HS6; have Hrd6 := hid hrd6; have Hc6 := hid hc6; have Ht6 : Hid (TinyV c6) := hid ⟨ht6, hv6⟩; have Hb6 := hid (HSC6.out.obj Hb.out (by simp <;> omega)); have fl6 := fld Hb6.out; have ff6 := fldF Hb6.out; have hlt6 := lt_of_block Hb6.out; have hs6 := HSC6.out.size; clear hrd6 hg6 hc6 ht6 hv6)
            | (refine step_appG rfl _ _ 24 rfl 5 elCon elCon_ok w2.heap.size 55 (.agg #[.int .i64 0, .slice none 0 0, .slice none 0 0, .int .i64 0, .slice none 0 0]) 88 infoC rfl (by omega) (by omega) Tryz.underlying24 (.slice co cs.length cc) cs rfl ((Hown.out.gr elCon_ok HSC6.out (by simp <;> omega)).gr elCon_ok ((Gr.refl [] _).alloc _) (by simp)) w6.heap.size 1 c6 [.int .i64 c6.kind, .slice vo6 c6.vars.length vc6, .slice xo6 c6.args.length xc6, .int .i64 c6.bound, .slice ro6 c6.rows.length rc6] rfl rfl (by simp [Value.oneCell']) (fun j u hj => by rw [fld (heap_alloc_new w6 (.cells #[.int .i64 c6.kind, .slice vo6 c6.vars.length vc6, .slice xo6 c6.args.length xc6, .int .i64 c6.bound, .slice ro6 c6.rows.length rc6] 55))]; simpa using hj) (fun S hS => ⟨_, _, _, _, _, _, rfl, (Hc6.out S (fun b hb => by rcases hS b hb with h | h | h; exact .inl (by simp; omega); exact .inr (by simp at h; omega); exact .inl (by have := (Hown.out.ownB h).2; simp; omega))).gr ((Gr.refl _ _).alloc _)⟩) (by omega) (by simp <;> omega) ?_; intro g7 c7 w7 hown7 hg7; have hbl7 := OwnG.below ((Hown.out.gr elCon_ok HSC6.out (by simp <;> omega)).gr elCon_ok ((Gr.refl [] _).alloc _) (by simp)) hg7 (by simp <;> omega); have HA7 := hid (And.intro hown7 hbl7); have fl7 := fld ((hbl7.block (w.heap.size + 1) (by omega)).trans ((((Gr.refl [] w6).alloc (.cells #[.int .i64 c6.kind, .slice vo6 c6.vars.length vc6, .slice xo6 c6.args.length xc6, .int .i64 c6.bound, .slice ro6 c6.rows.length rc6] 55)).obj Hb6.out (by simp)))); have ff7 := fldF ((hbl7.block (w.heap.size + 1) (by omega)).trans ((((Gr.refl [] w6).alloc (.cells #[.int .i64 c6.kind, .slice vo6 c6.vars.length vc6, .slice xo6 c6.args.length xc6, .int .i64 c6.bound, .slice ro6 c6.rows.length rc6] 55)).obj Hb6.out (by simp)))); clear hown7 hbl7 hg7))
          all_goals
            go_wp2_with fail
            obtain ⟨e1, e2, e3, e4⟩ := app_end2 (fi := 1) (nv := .slice (some ⟨g7, 0, none⟩) (cs.length + 1) c7) HL.out HSC6.out HA7.out.2 (by omega) (by omega) Hb6.out Hrd6.out
            refine ⟨⟨k - 1, cs ++ [c6], _, by omega, by go_num, by rw [List.length_append, List.length_singleton]; have := Hal2.out; omega, e1, HA7.out.1.gr elCon_ok e2 (by simp; omega), fun c hc => ?_, e3.le (by rw [List.length_append, List.length_singleton]; omega), e4⟩, by simp [intOf]; omega⟩
            rcases List.mem_append.1 hc with h | h
            · exact Htv.out c h
            · rw [List.mem_singleton.1 h]; exact Ht6.out
        · have hk0 : k = 0 := by omega
          subst hk0
          go_wp2_with ((with_reducible show wpList _ _ _ (⟨none, Op.store _ (Operand.tmp 2) (Operand.tmp 37), _, _, _, none⟩ :: _) _ _); refine wp_storeT 26 2 37 w.heap.size #[.slice xo ds.length xc, .slice co cs.length cc] 26 #[.slice none 0 0, .slice none 0 0] (HRB.out _ (HL2.out.step HL.out (by intro i hi; simp at hi ⊢; omega))) ⟨sizeM, rfl, rfl, rfl, one2 _ _ _ _ _ _⟩ ?_; intro wE hbE hgE)
          have flE := fld hbE
          refine bodyPost_ret (v := .agg #[.slice xo ds.length xc, .slice co cs.length cc]) ?_ rfl ?_
          · simp [results, Tryz.results147, go_sem, flE]
          · have hsE := hgE.size
            have hHL := HL.out.size
            refine ⟨⟨ds, cs⟩, w2.heap.size, xo, xc, co, cc, rfl, ?_, ?_, ⟨by omega, by omega⟩, Hown.out.gr elCon_ok hgE (by simp; omega), ⟨hds1, hds4⟩, hcs4, Htv.out, (Hrd.out.grS hgE (by simp; omega)).le (by omega), ?_⟩
            · exact (((Hown2.out.gr HL.out (by simp; omega)).gr hgE (by simp; omega)).le (by omega))
            · intro b hb
              exact (ownsRow_ownBlock Hown2.out hb).2
            · exact (HG1.out.step (HL2.out.step HL.out (by intro i hi; simp at hi ⊢; omega)) (fun i hi => by simp at hi; rcases hi with h | h; exact .inl (by simp [h]); exact .inr (by omega))).step hgE (fun i hi => .inr (by simp at hi; omega))
end Go.Proofs.YtlekngkcifgonaaGreat

set_option linter.unusedVariables false
namespace Go.Proofs.YtlekngkcifgonaaGreat
open Go.RowKit

end Go.Proofs.YtlekngkcifgonaaGreat

set_option linter.unusedVariables false
namespace Go.Proofs.YtlekngkcifgonaaGreat
open Go.RowKit

theorem ModPost.modv {S : List Nat} {B : Nat} {w' : World} {m : Mod} {M ac cc : Nat} {ao co : Option Addr} (hS : ∀ b ∈ S, b < B ∨ w'.heap.size ≤ b) (hBM : B ≤ M) (h1 : Own B w' 3 (.slice ao m.doms.length ac) m.doms) (h2 : OwnG 5 elCon M w' 55 (.slice co m.cons.length cc) m.cons) :
    ModV S w' (.agg #[.slice ao m.doms.length ac, .slice co m.cons.length cc]) m := ⟨_, _, rfl, h1.nums' hS, h2.cons fun b hb => (hS b hb).imp (by omega) id⟩
theorem ModV.sub0 {S : List Nat} {w : World} {v : Value} {m : Mod} (h : ModV S w v m) : ModV [] w v m := ModV.sub h (by simp)
theorem Nums.eq {S : List Nat} {w : World} {k : IntKind} {v : Value} {xs ys : List Int} (h : Nums S w k v xs) (e : xs = ys) : Nums S w k v ys := e ▸ h
theorem ModV.parts {S : List Nat} {w : World} {dv cv : Value} {m : Mod} (h : ModV S w (.agg #[dv, cv]) m) : Nums S w .i64 dv m.doms ∧ ConsV S w cv m.cons := by
  obtain ⟨dv', cv', e, h1, h2⟩ := h
  simp only [Value.agg.injEq] at e
  have e1 := congrArg (fun a => a[0]?) e
  have e2 := congrArg (fun a => a[1]?) e
  simp at e1 e2
  subst e1 e2
  exact ⟨h1, h2⟩
end Go.Proofs.YtlekngkcifgonaaGreat
