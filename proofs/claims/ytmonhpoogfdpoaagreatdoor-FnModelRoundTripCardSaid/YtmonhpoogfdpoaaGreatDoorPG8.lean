/-
  Walks of generators: damaged constraints.
  Walk of the generator of valid models.
  Walk of the generator of models.
  Walks of the generators DrawPropagate and DrawIsConsistent.
-/
import Derived.Test.YtmonhpoogfdpoaaGreatDoorPG4
import Derived.Test.YtmonhpoogfdpoaaGreatDoorPM1
import Derived.Test.YtmonhpoogfdpoaaGreatDoorPFP
import Derived.Test.YtmonhpoogfdpoaaGreatDoorPM4M5
set_option linter.unusedVariables false
namespace Go.Proofs.YtmonhpoogfdpoaaGreatDoor
open Go.RowKit

/-- A list that lies in none of the blocks X, below hi. -/
def FrX (X : Nat → Prop) (hi : Nat) (w : World) (v : Value) (xs : List Int) : Prop := ∀ S : List Nat, (∀ b ∈ S, X b ∨ hi ≤ b) → Nums S w .i64 v xs
def FrRX (X : Nat → Prop) (hi : Nat) (w : World) (v : Value) (rows : List (List Int)) : Prop := ∀ S : List Nat, (∀ b ∈ S, X b ∨ hi ≤ b) → RowsV S w v rows
theorem FrI.x {lo hi : Nat} {w : World} {v : Value} {xs : List Int} {X : Nat → Prop} (h : FrI lo hi w v xs) (hX : ∀ b, X b → b < lo) : FrX X hi w v xs := fun S hS => h S fun b hb => (hS b hb).imp (hX b) id
theorem FrX.gr {X : Nat → Prop} {hi : Nat} {S : List Nat} {w w' : World} {v : Value} {xs : List Int} (h : FrX X hi w v xs) (hg : Gr S w w') (hS : ∀ b ∈ S, X b ∨ hi ≤ b) : FrX X hi w' v xs := fun S0 h0 =>
  ((h (S ++ S0) (by intro b hb; rcases List.mem_append.1 hb with hb | hb; exact hS b hb; exact h0 b hb)).gr (hg.sub fun k _ hk => by simp [hk])).sub fun b _ hb => by simp [hb]
theorem FrRX.gr {X : Nat → Prop} {hi : Nat} {S : List Nat} {w w' : World} {v : Value} {xs : List (List Int)} (h : FrRX X hi w v xs) (hg : Gr S w w') (hS : ∀ b ∈ S, X b ∨ hi ≤ b) : FrRX X hi w' v xs := fun S0 h0 =>
  ((h (S ++ S0) (by intro b hb; rcases List.mem_append.1 hb with hb | hb; exact hS b hb; exact h0 b hb)).gr (hg.sub fun k _ hk => by simp [hk])).sub fun b _ hb => by simp [hb]
theorem FrX.grR {X : Nat → Prop} {hi R : Nat} {w w' : World} {v : Value} {xs : List Int} (h : FrX X hi w v xs) (hg : Gr [R] w w') (hR : X R) : FrX X hi w' v xs := h.gr hg fun b hb => .inl (by simp at hb; rw [hb]; exact hR)
theorem FrRX.grR {X : Nat → Prop} {hi R : Nat} {w w' : World} {v : Value} {xs : List (List Int)} (h : FrRX X hi w v xs) (hg : Gr [R] w w') (hR : X R) : FrRX X hi w' v xs := h.gr hg fun b hb => .inl (by simp at hb; rw [hb]; exact hR)
/-- What a generator of constraints leaves: a constraint in none of the blocks X, maybe a wrong one. -/
def ConPostX (X : Nat → Prop) (R : Nat) (bs : List Int) (q : Nat) (w : World) (e : Ending) (w' : World) : Prop :=
  ∃ (c : Con) (vo : Option Addr) (vc : Nat) (xo : Option Addr) (xc : Nat) (ro : Option Addr) (rc : Nat),
    e = .returned (.agg #[.int .i64 c.kind, .slice vo c.vars.length vc, .slice xo c.args.length xc, .int .i64 c.bound, .slice ro c.rows.length rc]) ∧
    (∀ S : List Nat, (∀ b ∈ S, X b ∨ w'.heap.size ≤ b) → ConV S w' (.agg #[.int .i64 c.kind, .slice vo c.vars.length vc, .slice xo c.args.length xc, .int .i64 c.bound, .slice ro c.rows.length rc]) c) ∧
    c.Small ∧ 1 ≤ c.vars.length ∧ Rd w' R bs q ∧ Gr [R] w w'
theorem conPostX_mk {X : Nat → Prop} {R : Nat} {bs : List Int} {q : Nat} {w w' : World} {k b : Int} {vars args : List Int} {rows : List (List Int)} {vo xo ro : Option Addr} {vc xc rc h1 h2 h3 : Nat}
    (f1 : FrX X h1 w' (.slice vo vars.length vc) vars) (f2 : FrX X h2 w' (.slice xo args.length xc) args) (f3 : FrRX X h3 w' (.slice ro rows.length rc) rows)
    (hh : h1 ≤ w'.heap.size ∧ h2 ≤ w'.heap.size ∧ h3 ≤ w'.heap.size) (ht : Con.Small ⟨k, vars, args, b, rows⟩) (hv : 1 ≤ vars.length) (hr : Rd w' R bs q) (hg : Gr [R] w w') :
    ConPostX X R bs q w (.returned (.agg #[.int .i64 k, .slice vo vars.length vc, .slice xo args.length xc, .int .i64 b, .slice ro rows.length rc])) w' :=
  ⟨⟨k, vars, args, b, rows⟩, vo, vc, xo, xc, ro, rc, rfl, fun S hS => ⟨_, _, _, rfl, f1 S fun b hb' => (hS b hb').imp id (by omega), f2 S fun b hb' => (hS b hb').imp id (by omega), f3 S fun b hb' => (hS b hb').imp id (by omega)⟩, ht, hv, hr, hg⟩
theorem fr_of_con {X : Nat → Prop} {w : World} {c : Con} {vv av rv : Value} (h : ∀ S : List Nat, (∀ b ∈ S, X b ∨ w.heap.size ≤ b) → ConV S w (.agg #[.int .i64 c.kind, vv, av, .int .i64 c.bound, rv]) c) :
    FrX X w.heap.size w vv c.vars ∧ FrX X w.heap.size w av c.args ∧ FrRX X w.heap.size w rv c.rows := by
  refine ⟨fun S hS => ?_, fun S hS => ?_, fun S hS => ?_⟩ <;>
  · obtain ⟨vv', av', rv', e, h1, h2, h3⟩ := h S hS
    simp only [Value.agg.injEq] at e
    have e3 := congrArg (fun a => a[1]?) e
    have e4 := congrArg (fun a => a[2]?) e
    have e5 := congrArg (fun a => a[4]?) e
    simp only [List.getElem?_toArray, List.getElem?_cons_succ, List.getElem?_cons_zero, Option.some.injEq] at e3 e4 e5
    subst e3 e4 e5
    assumption

set_option maxRecDepth 100000 in
set_option maxHeartbeats 2000000 in
theorem damage_c (X : Nat → Prop) (R : Nat) (bs : List Int) (q : Nat) (c : Con) (vo : Option Addr) (vc : Nat) (xo : Option Addr) (xc : Nat) (ro : Option Addr) (rc : Nat) (w : World) (hr : Rd w R bs q) (hq : q ≤ 100000000)
    (hc : ∀ S : List Nat, (∀ b ∈ S, X b ∨ w.heap.size ≤ b) → ConV S w (.agg #[.int .i64 c.kind, .slice vo c.vars.length vc, .slice xo c.args.length xc, .int .i64 c.bound, .slice ro c.rows.length rc]) c)
    (ht : Tiny c) (hv1 : 1 ≤ c.vars.length) (hRX : X R) (hX : ∀ b, X b → b < w.heap.size) :
    Calls Tryz.prog 79 #[.pointer (some ⟨R, 0, none⟩), .agg #[.int .i64 c.kind, .slice vo c.vars.length vc, .slice xo c.args.length xc, .int .i64 c.bound, .slice ro c.rows.length rc]] w (ConPostX X R bs (q + 2) w) := by
  obtain ⟨f1, f2, f3⟩ := fr_of_con hc
  have hg0 : Gr [] w ((w.alloc (.cells #[.int .i64 c.kind, .slice vo c.vars.length vc, .slice xo c.args.length xc, .int .i64 c.bound, .slice ro c.rows.length rc] 49)).alloc (.cells #[.int .i64 0, .slice none 0 0, .slice none 0 0, .int .i64 0, .slice none 0 0] 49)) := ((Gr.refl _ _).alloc _).alloc _
  have hb0 : ((w.alloc (.cells #[.int .i64 c.kind, .slice vo c.vars.length vc, .slice xo c.args.length xc, .int .i64 c.bound, .slice ro c.rows.length rc] 49)).alloc (.cells #[.int .i64 0, .slice none 0 0, .slice none 0 0, .int .i64 0, .slice none 0 0] 49)).heap[w.heap.size]? = some (.cells #[.int .i64 c.kind, .slice vo c.vars.length vc, .slice xo c.args.length xc, .int .i64 c.bound, .slice ro c.rows.length rc] 49 (0, 0)) := (heap_alloc_old _ _ (by simp)).trans (heap_alloc_new _ _)
  have hr0 : ((w.alloc (.cells #[.int .i64 c.kind, .slice vo c.vars.length vc, .slice xo c.args.length xc, .int .i64 c.bound, .slice ro c.rows.length rc] 49)).alloc (.cells #[.int .i64 0, .slice none 0 0, .slice none 0 0, .int .i64 0, .slice none 0 0] 49)).heap[w.heap.size + 1]? = some (.cells #[.int .i64 0, .slice none 0 0, .slice none 0 0, .int .i64 0, .slice none 0 0] 49 (0, 0)) := by
    have := heap_alloc_new (w.alloc (.cells #[.int .i64 c.kind, .slice vo c.vars.length vc, .slice xo c.args.length xc, .int .i64 c.bound, .slice ro c.rows.length rc] 49)) (.cells #[.int .i64 0, .slice none 0 0, .slice none 0 0, .int .i64 0, .slice none 0 0] 49)
    rwa [World.size_alloc] at this
  have Hg0 := hid hg0; have Hb0 := hid hb0; have Hr0 := hid hr0; have Hr := hid hr; have F1 := hid f1; have F2 := hid f2; have F3 := hid f3; have Ht := hid ht
  have hRw := hr.lt
  have hv100 := ht.vars; have ha100 := ht.args; have hr100 := ht.rows
  clear hg0 hb0 hr0 hr f1 f2 f3 hc ht
  go_enter Tryz.func79, Tryz.ntmps79
  go_wp2_with fail
  have hcall := pick_c R bs q 5 _ (Hr.out.gr Hg0.out) (by omega) (by omega)
  (with_reducible refine hcall.mono ?_)
  clear hcall
  rintro e w1 ⟨⟨r1, rfl, hr10, hr1n⟩, hrd1, hg1⟩
  have hb1 := hg1.obj Hb0.out (by simp; omega)
  have hr1 := hg1.obj Hr0.out (by simp; omega)
  have HG1 : Hid (Gr [R] w w1) := hid (Hg0.out.any.trans hg1)
  have hs1 := hg1.size
  simp at hs1
  have Hb1 := hid hb1; have Hr1 := hid hr1; have Hrd1 := hid hrd1
  have hlt1 := lt_of_block hb1
  have fl1 := fld hb1
  have ff1 := fldF hb1
  have F11 := hid (F1.out.grR HG1.out hRX); have F21 := hid (F2.out.grR HG1.out hRX); have F31 := hid (F3.out.grR HG1.out hRX)
  have HRB : Hid (∀ W, Gr [R, w.heap.size] w1 W → W.heap[w.heap.size + 1]? = some (.cells #[.int .i64 0, .slice none 0 0, .slice none 0 0, .int .i64 0, .slice none 0 0] 49 (0, 0))) := hid fun W h => h.obj Hr1.out (by simp; omega)
  clear hb1 hr1 hg1 hrd1
  have h5 : r1 = 0 ∨ r1 = 1 ∨ r1 = 2 ∨ r1 = 3 ∨ r1 = 4 := by omega
  rcases h5 with rfl | rfl | rfl | rfl | rfl
  · go_wp2_with fail
    (refine (one_c R bs (q + 1) _ [0, 10, 1, 5] _ (Hrd1.out.gr ((Gr.refl _ _).alloc _)) (nums_new _ _ _ (by simp <;> omega)) (by omega) (by simp) (by simp)).mono ?_)
    rintro e w6 ⟨⟨r6, rfl, hr6⟩, hrd6, hg6⟩
    have HS6 := hid (Gr.trans (a := w1) ((Gr.refl [R] _).alloc _) hg6)
    have HSC6 : Hid (Gr [R] w1 w6) := HS6
    have HL6 : Hid (Gr [R, w.heap.size] w1 w6) := hid (HSC6.out.sub (by intro k _ h; simp at h ⊢; exact .inl h))
    have Hb6 := hid (HSC6.out.obj Hb1.out (by simp; omega)); have fl6 := fld Hb6.out; have ff6 := fldF Hb6.out; have hlt6 := lt_of_block Hb6.out
    have Hrd6 := hid hrd6
    have hs6 := HSC6.out.size
    clear hr6 hrd6 hg6
    go_wp2_with ((with_reducible show wpList _ _ _ (⟨none, Op.store _ (Operand.tmp 4) (Operand.tmp 44), _, _, _, none⟩ :: _) _ _); refine wp_storeT 49 4 44 (w.heap.size + 1) #[.int .i64 r6, .slice vo c.vars.length vc, .slice xo c.args.length xc, .int .i64 c.bound, .slice ro c.rows.length rc] 49 #[.int .i64 0, .slice none 0 0, .slice none 0 0, .int .i64 0, .slice none 0 0] (HRB.out _ ?_) ⟨sizeC, rfl, rfl, rfl, one5 _ _ _ _ _ _ _ _ _ _ _⟩ ?_; (repeat (first | exact HL6.out | refine Gr.alloc ?_ _ | refine Gr.drew ?_ | refine Gr.setCell ?_ _ _ (.inl (by simp)))); intro wE hbE hgE)
    have flE := fld hbE
    refine bodyPost_ret (v := .agg #[.int .i64 r6, .slice vo c.vars.length vc, .slice xo c.args.length xc, .int .i64 c.bound, .slice ro c.rows.length rc]) ?_ rfl ?_
    · simp [results, Tryz.results79, go_sem, flE]
    · have hE : Gr [w.heap.size, w.heap.size + 1] w6 wE := Gr.trans (b := _) (by (repeat (first | exact (Gr.refl [w.heap.size, w.heap.size + 1] w6) | refine Gr.alloc ?_ _ | refine Gr.drew ?_ | refine Gr.setCell ?_ _ _ (.inl (by simp))))) (hgE.sub (by intro k _ h; simp at h ⊢; omega))
      have hsE := hE.size
      have hsL := (HL6.out).size
      have hrE := Rd.grS Hrd6.out hE (by simp; omega)
      have hgwE : Gr [R] w wE := (HG1.out.step (HL6.out) (fun i hi => by simp at hi; rcases hi with h | h; exact .inl (by simp [h]); exact .inr (by omega))).step hE (fun i hi => .inr (by simp at hi; omega))
      exact conPostX_mk (vars := c.vars) (args := c.args) (rows := c.rows) ((F11.out.grR HSC6.out hRX).gr hE (fun b hb => .inr (by simp at hb; omega))) ((F21.out.grR HSC6.out hRX).gr hE (fun b hb => .inr (by simp at hb; omega))) ((F31.out.grR HSC6.out hRX).gr hE (fun b hb => .inr (by simp at hb; omega))) (by omega) ⟨by simp <;> omega, by simp <;> omega, by simp <;> omega, fun r hr => by have := Ht.out.row r hr; omega⟩ hv1 (hrE.le (by omega)) hgwE
  · obtain ⟨x0, hx0⟩ := get_some (xs := c.vars) (k := 0) (by omega)
    obtain ⟨bv, ov, rfl, _, hcv⟩ := (F11.out [] (by simp)).at hx0
    rw [Nat.add_zero] at hcv
    have hv0 : 0 < c.vars.length := by omega
    have Hcv := hid hcv
    have hlv := World.block_lt_of_cell? _ _ hcv
    dsimp only at hlv
    clear hx0
    go_wp2_with fail
    go_region_law (first | (go_simp; go_at_call 110; refine (copyInts_c _ c.vars _ ((F11.out [] (by simp)).gr ((Gr.refl [] _).drew)) (by omega)).mono ?_; rintro e w6 ⟨v6, rfl, hown6, hg6⟩; have HS6 := hid (Gr.trans (a := w1) ((Gr.refl [] _).drew) hg6); have HG6 := hid hg6; have hcv6 := HS6.out.cell Hcv.out (by simp); have hlv6 := World.block_lt_of_cell? _ _ hcv6; dsimp only at hlv6; obtain ⟨xo6, xc6, rfl⟩ := hown6.c.form; have Hown6 := hid hown6; have Hb6 := hid (HS6.out.obj Hb1.out (by simp)); have fl6 := fld Hb6.out; have ff6 := fldF Hb6.out; have hlt6 := lt_of_block Hb6.out; have hs6 := HS6.out.size; clear hown6 hg6) | (go_simp; go_at_call 110; refine (copyInts_c _ c.vars _ ((F11.out [] (by simp)).gr (((Gr.refl [] _).drew).alloc _)) (by omega)).mono ?_; rintro e w6 ⟨v6, rfl, hown6, hg6⟩; have HS6 := hid (Gr.trans (a := w1) (((Gr.refl [] _).drew).alloc _) hg6); have HG6 := hid hg6; have hcv6 := HS6.out.cell Hcv.out (by simp); have hlv6 := World.block_lt_of_cell? _ _ hcv6; dsimp only at hlv6; obtain ⟨xo6, xc6, rfl⟩ := hown6.c.form; have Hown6 := hid hown6; have Hb6 := hid (HS6.out.obj Hb1.out (by simp)); have fl6 := fld Hb6.out; have ff6 := fldF Hb6.out; have hlt6 := lt_of_block Hb6.out; have hs6 := HS6.out.size; clear hown6 hg6) | (go_simp; go_at_call 110; refine (copyInts_c _ c.vars _ ((F11.out [] (by simp)).gr (((Gr.refl [] _).alloc _).drew)) (by omega)).mono ?_; rintro e w6 ⟨v6, rfl, hown6, hg6⟩; have HS6 := hid (Gr.trans (a := w1) (((Gr.refl [] _).alloc _).drew) hg6); have HG6 := hid hg6; have hcv6 := HS6.out.cell Hcv.out (by simp); have hlv6 := World.block_lt_of_cell? _ _ hcv6; dsimp only at hlv6; obtain ⟨xo6, xc6, rfl⟩ := hown6.c.form; have Hown6 := hid hown6; have Hb6 := hid (HS6.out.obj Hb1.out (by simp)); have fl6 := fld Hb6.out; have ff6 := fldF Hb6.out; have hlt6 := lt_of_block Hb6.out; have hs6 := HS6.out.size; clear hown6 hg6) | (refine step_app1 rfl _ _ 24 rfl w1.heap.size 3 infoInt Tryz.underlying24 (.slice xo6 c.vars.length xc6) c.vars rfl ((Hown6.out).alloc _) w6.heap.size 1 x0 rfl (cell_new _ _ _) (by omega) (by simp <;> omega) ?_; intro g7 c7 w7 hown7 hbl7; have HN7 : Hid (Gr [] w1 w7) := ((HS6.out.alloc _).low hbl7 (Nat.le_refl _)); have HO7 := hid (hown7.le (B' := w1.heap.size) (by first | exact Nat.le_refl _ | exact Nat.le_succ _)); have Hb7 := hid (HN7.out.obj Hb1.out (by simp)); have fl7 := fld Hb7.out; have ff7 := fldF Hb7.out; clear hown7 hbl7) | (refine step_app1 rfl _ _ 24 rfl (w1.heap.size + 1) 3 infoInt Tryz.underlying24 (.slice xo6 c.vars.length xc6) c.vars rfl (Hown6.out.le (by simp)) w1.heap.size 1 x0 rfl (HG6.out.cell (cell_new _ _ _) (by simp)) (by omega) (by have := HG6.out.size; simp at this; omega) ?_; intro g7 c7 w7 hown7 hbl7; have HN7 : Hid (Gr [] w1 w7) := (HS6.out.low hbl7 (Nat.le_succ _)); have HO7 := hid (hown7.le (B' := w1.heap.size) (by first | exact Nat.le_refl _ | exact Nat.le_succ _)); have Hb7 := hid (HN7.out.obj Hb1.out (by simp)); have fl7 := fld Hb7.out; have ff7 := fldF Hb7.out; clear hown7 hbl7))
    all_goals
      have HL7 : Hid (Gr [R, w.heap.size] w1 w7) := hid HN7.out.any
      have Hrd7 := hid (Hrd1.out.gr HN7.out)
      have hs7 := HN7.out.size
      go_wp2_with ((with_reducible show wpList _ _ _ (⟨none, Op.store _ (Operand.tmp 4) (Operand.tmp 44), _, _, _, none⟩ :: _) _ _); refine wp_storeT 49 4 44 (w.heap.size + 1) #[.int .i64 c.kind, .slice (some ⟨g7, 0, none⟩) (c.vars.length + 1) c7, .slice xo c.args.length xc, .int .i64 c.bound, .slice ro c.rows.length rc] 49 #[.int .i64 0, .slice none 0 0, .slice none 0 0, .int .i64 0, .slice none 0 0] (HRB.out _ ?_) ⟨sizeC, rfl, rfl, rfl, one5 _ _ _ _ _ _ _ _ _ _ _⟩ ?_; (repeat (first | exact HL7.out | refine Gr.alloc ?_ _ | refine Gr.drew ?_ | refine Gr.setCell ?_ _ _ (.inl (by simp)))); intro wE hbE hgE)
      have flE := fld hbE
      refine bodyPost_ret (v := .agg #[.int .i64 c.kind, .slice (some ⟨g7, 0, none⟩) (c.vars.length + 1) c7, .slice xo c.args.length xc, .int .i64 c.bound, .slice ro c.rows.length rc]) ?_ rfl ?_
      · simp [results, Tryz.results79, go_sem, flE]
      · have hE : Gr [w.heap.size, w.heap.size + 1] w7 wE := Gr.trans (b := _) (by (repeat (first | exact (Gr.refl [w.heap.size, w.heap.size + 1] w7) | refine Gr.alloc ?_ _ | refine Gr.drew ?_ | refine Gr.setCell ?_ _ _ (.inl (by simp))))) (hgE.sub (by intro k _ h; simp at h ⊢; omega))
        have hsE := hE.size
        have hsL := (HL7.out).size
        have hrE := Rd.grS Hrd7.out hE (by simp; omega)
        have hgwE : Gr [R] w wE := (HG1.out.step (HL7.out) (fun i hi => by simp at hi; rcases hi with h | h; exact .inl (by simp [h]); exact .inr (by omega))).step hE (fun i hi => .inr (by simp at hi; omega))
        have e : c.vars.length + 1 = (c.vars ++ [x0]).length := by simp
        rw [e]
        rw [e] at HO7
        exact conPostX_mk (vars := (c.vars ++ [x0])) (args := c.args) (rows := c.rows) (((HO7.out.c.fr).gr hE (by simp <;> omega)).x (fun b hb => by have := hX b hb; omega)) ((F21.out.gr HN7.out (by simp)).gr hE (fun b hb => .inr (by simp at hb; omega))) ((F31.out.gr HN7.out (by simp)).gr hE (fun b hb => .inr (by simp at hb; omega))) (by omega) ⟨by simp <;> omega, by simp <;> omega, by simp <;> omega, fun r hr => by have := Ht.out.row r hr; omega⟩ (by simp) (hrE.le (by omega)) hgwE
  · go_wp2_with fail
    (refine (copyInts_c _ c.args _ ((F21.out [] (by simp)).gr ((Gr.refl [] _))) (by omega)).mono ?_)
    rintro e w6 ⟨v6, rfl, hown6, hg6⟩
    have HS6 : Hid (Gr [] w1 w6) := hid hg6
    obtain ⟨xo6, xc6, rfl⟩ := hown6.c.form
    have Hown6 := hid hown6
    have Hb6 := hid (HS6.out.obj Hb1.out (by simp))
    have fl6 := fld Hb6.out
    have ff6 := fldF Hb6.out
    have hlt6 := lt_of_block Hb6.out
    have hs6 := HS6.out.size
    clear hown6 hg6
    go_wp2_with (first | (at_builtin; refine wp_app1 rfl _ _ 24 rfl w1.heap.size 3 infoInt Tryz.underlying24 (.slice xo6 c.args.length xc6) c.args rfl ((Hown6.out).alloc _) w6.heap.size 1 1 rfl (cell_new _ _ _) (by omega) (by simp <;> omega) ?_; intro v7 w7 hown7 hbl7; obtain ⟨xo7, xc7, rfl⟩ := hown7.c.form; rw [List.length_append, List.length_singleton]; have HN7 : Hid (Gr [] w1 w7) := ((HS6.out.alloc _).low hbl7 (Nat.le_refl _)); have HO7 := hid (hown7.le (B' := w1.heap.size) (by first | exact Nat.le_refl _ | exact Nat.le_succ _)); have Hb7 := hid (HN7.out.obj Hb1.out (by simp)); have fl7 := fld Hb7.out; have ff7 := fldF Hb7.out; clear hown7 hbl7) | ((with_reducible show wpList _ _ _ (⟨none, Op.store _ (Operand.tmp 4) (Operand.tmp 44), _, _, _, none⟩ :: _) _ _); refine wp_storeT 49 4 44 (w.heap.size + 1) #[.int .i64 c.kind, .slice vo c.vars.length vc, .slice xo7 (c.args.length + 1) xc7, .int .i64 c.bound, .slice ro c.rows.length rc] 49 #[.int .i64 0, .slice none 0 0, .slice none 0 0, .int .i64 0, .slice none 0 0] (HRB.out _ ?_) ⟨sizeC, rfl, rfl, rfl, one5 _ _ _ _ _ _ _ _ _ _ _⟩ ?_; (repeat (first | exact HN7.out.any | refine Gr.alloc ?_ _ | refine Gr.drew ?_ | refine Gr.setCell ?_ _ _ (.inl (by simp)))); intro wE hbE hgE))
    have HL7 : Hid (Gr [R, w.heap.size] w1 w7) := hid HN7.out.any
    have Hrd7 := hid (Hrd1.out.gr HN7.out)
    have hs7 := HN7.out.size
    have flE := fld hbE
    refine bodyPost_ret (v := .agg #[.int .i64 c.kind, .slice vo c.vars.length vc, .slice xo7 (c.args.length + 1) xc7, .int .i64 c.bound, .slice ro c.rows.length rc]) ?_ rfl ?_
    · simp [results, Tryz.results79, go_sem, flE]
    · have hE : Gr [w.heap.size, w.heap.size + 1] w7 wE := Gr.trans (b := _) (by (repeat (first | exact (Gr.refl [w.heap.size, w.heap.size + 1] w7) | refine Gr.alloc ?_ _ | refine Gr.drew ?_ | refine Gr.setCell ?_ _ _ (.inl (by simp))))) (hgE.sub (by intro k _ h; simp at h ⊢; omega))
      have hsE := hE.size
      have hsL := (HL7.out).size
      have hrE := Rd.grS Hrd7.out hE (by simp; omega)
      have hgwE : Gr [R] w wE := (HG1.out.step (HL7.out) (fun i hi => by simp at hi; rcases hi with h | h; exact .inl (by simp [h]); exact .inr (by omega))).step hE (fun i hi => .inr (by simp at hi; omega))
      have e : c.args.length + 1 = (c.args ++ [1]).length := by simp
      rw [e]
      exact conPostX_mk (vars := c.vars) (args := (c.args ++ [1])) (rows := c.rows) ((F11.out.gr HN7.out (by simp)).gr hE (fun b hb => .inr (by simp at hb; omega))) (((HO7.out.c.fr).gr hE (by simp <;> omega)).x (fun b hb => by have := hX b hb; omega)) ((F31.out.gr HN7.out (by simp)).gr hE (fun b hb => .inr (by simp at hb; omega))) (by omega) ⟨by simp <;> omega, by simp <;> omega, by simp <;> omega, fun r hr => by have := Ht.out.row r hr; omega⟩ hv1 (hrE.le (by omega)) hgwE
  · go_wp2_with fail
    (refine (one_c R bs (q + 1) _ [-1000, 1000, 5] _ (Hrd1.out.gr ((Gr.refl _ _).alloc _)) (nums_new _ _ _ (by simp <;> omega)) (by omega) (by simp) (by simp)).mono ?_)
    rintro e w6 ⟨⟨r6, rfl, hr6⟩, hrd6, hg6⟩
    have HS6 := hid (Gr.trans (a := w1) ((Gr.refl [R] _).alloc _) hg6)
    have HSC6 : Hid (Gr [R] w1 w6) := HS6
    have HL6 : Hid (Gr [R, w.heap.size] w1 w6) := hid (HSC6.out.sub (by intro k _ h; simp at h ⊢; exact .inl h))
    have Hb6 := hid (HSC6.out.obj Hb1.out (by simp; omega)); have fl6 := fld Hb6.out; have ff6 := fldF Hb6.out; have hlt6 := lt_of_block Hb6.out
    have Hrd6 := hid hrd6
    have hs6 := HSC6.out.size
    clear hr6 hrd6 hg6
    go_wp2_with ((with_reducible show wpList _ _ _ (⟨none, Op.store _ (Operand.tmp 4) (Operand.tmp 44), _, _, _, none⟩ :: _) _ _); refine wp_storeT 49 4 44 (w.heap.size + 1) #[.int .i64 c.kind, .slice vo c.vars.length vc, .slice xo c.args.length xc, .int .i64 r6, .slice ro c.rows.length rc] 49 #[.int .i64 0, .slice none 0 0, .slice none 0 0, .int .i64 0, .slice none 0 0] (HRB.out _ ?_) ⟨sizeC, rfl, rfl, rfl, one5 _ _ _ _ _ _ _ _ _ _ _⟩ ?_; (repeat (first | exact HL6.out | refine Gr.alloc ?_ _ | refine Gr.drew ?_ | refine Gr.setCell ?_ _ _ (.inl (by simp)))); intro wE hbE hgE)
    have flE := fld hbE
    refine bodyPost_ret (v := .agg #[.int .i64 c.kind, .slice vo c.vars.length vc, .slice xo c.args.length xc, .int .i64 r6, .slice ro c.rows.length rc]) ?_ rfl ?_
    · simp [results, Tryz.results79, go_sem, flE]
    · have hE : Gr [w.heap.size, w.heap.size + 1] w6 wE := Gr.trans (b := _) (by (repeat (first | exact (Gr.refl [w.heap.size, w.heap.size + 1] w6) | refine Gr.alloc ?_ _ | refine Gr.drew ?_ | refine Gr.setCell ?_ _ _ (.inl (by simp))))) (hgE.sub (by intro k _ h; simp at h ⊢; omega))
      have hsE := hE.size
      have hsL := (HL6.out).size
      have hrE := Rd.grS Hrd6.out hE (by simp; omega)
      have hgwE : Gr [R] w wE := (HG1.out.step (HL6.out) (fun i hi => by simp at hi; rcases hi with h | h; exact .inl (by simp [h]); exact .inr (by omega))).step hE (fun i hi => .inr (by simp at hi; omega))
      exact conPostX_mk (vars := c.vars) (args := c.args) (rows := c.rows) ((F11.out.grR HSC6.out hRX).gr hE (fun b hb => .inr (by simp at hb; omega))) ((F21.out.grR HSC6.out hRX).gr hE (fun b hb => .inr (by simp at hb; omega))) ((F31.out.grR HSC6.out hRX).gr hE (fun b hb => .inr (by simp at hb; omega))) (by omega) ⟨by simp <;> omega, by simp <;> omega, by simp <;> omega, fun r hr => by have := Ht.out.row r hr; omega⟩ hv1 (hrE.le (by omega)) hgwE
  · go_wp2_with fail
    (refine (one_c R bs (q + 1) _ [-1, 4] _ (Hrd1.out.gr ((Gr.refl _ _).alloc _)) (nums_new _ _ _ (by simp <;> omega)) (by omega) (by simp) (by simp)).mono ?_)
    rintro e w6 ⟨⟨r6, rfl, hr6⟩, hrd6, hg6⟩
    have HS6 := hid (Gr.trans (a := w1) ((Gr.refl [R] _).alloc _) hg6)
    have HSC6 : Hid (Gr [R] w1 w6) := HS6
    have HL6 : Hid (Gr [R, w.heap.size] w1 w6) := hid (HSC6.out.sub (by intro k _ h; simp at h ⊢; exact .inl h))
    have Hb6 := hid (HSC6.out.obj Hb1.out (by simp; omega)); have fl6 := fld Hb6.out; have ff6 := fldF Hb6.out; have hlt6 := lt_of_block Hb6.out
    have Hrd6 := hid hrd6
    have hs6 := HSC6.out.size
    clear hr6 hrd6 hg6
    go_wp2_with ((with_reducible show wpList _ _ _ (⟨none, Op.store _ (Operand.tmp 4) (Operand.tmp 44), _, _, _, none⟩ :: _) _ _); refine wp_storeT 49 4 44 (w.heap.size + 1) #[.int .i64 c.kind, .slice (some ⟨w6.heap.size, 0, none⟩) 1 1, .slice xo c.args.length xc, .int .i64 c.bound, .slice ro c.rows.length rc] 49 #[.int .i64 0, .slice none 0 0, .slice none 0 0, .int .i64 0, .slice none 0 0] (HRB.out _ ?_) ⟨sizeC, rfl, rfl, rfl, one5 _ _ _ _ _ _ _ _ _ _ _⟩ ?_; (repeat (first | exact HL6.out | refine Gr.alloc ?_ _ | refine Gr.drew ?_ | refine Gr.setCell ?_ _ _ (.inl (by simp)))); intro wE hbE hgE)
    have flE := fld hbE
    refine bodyPost_ret (v := .agg #[.int .i64 c.kind, .slice (some ⟨w6.heap.size, 0, none⟩) 1 1, .slice xo c.args.length xc, .int .i64 c.bound, .slice ro c.rows.length rc]) ?_ rfl ?_
    · simp [results, Tryz.results79, go_sem, flE]
    · have hE : Gr [w.heap.size, w.heap.size + 1] w6 wE := Gr.trans (b := _) (by (repeat (first | exact (Gr.refl [w.heap.size, w.heap.size + 1] w6) | refine Gr.alloc ?_ _ | refine Gr.drew ?_ | refine Gr.setCell ?_ _ _ (.inl (by simp))))) (hgE.sub (by intro k _ h; simp at h ⊢; omega))
      have hsE := hE.size
      have hsL := (HL6.out).size
      have hrE := Rd.grS Hrd6.out hE (by simp; omega)
      have hgwE : Gr [R] w wE := (HG1.out.step (HL6.out) (fun i hi => by simp at hi; rcases hi with h | h; exact .inl (by simp [h]); exact .inr (by omega))).step hE (fun i hi => .inr (by simp at hi; omega))
      have hA : wE.heap[w6.heap.size]? = some (.cells #[.int .i64 r6] 3 (0, 0)) := hgE.obj (alloc_at _ _ _ (by simp)) (by simp <;> omega)
      have hltE := lt_of_block hA
      exact conPostX_mk (vars := [r6]) (args := c.args) (rows := c.rows) ((frI_new (xs := [r6]) hA (by simp)).x (fun b hb => by have := hX b hb; omega)) ((F21.out.grR HSC6.out hRX).gr hE (fun b hb => .inr (by simp at hb; omega))) ((F31.out.grR HSC6.out hRX).gr hE (fun b hb => .inr (by simp at hb; omega))) (by omega) ⟨by simp <;> omega, by simp <;> omega, by simp <;> omega, fun r hr => by have := Ht.out.row r hr; omega⟩ (by simp) (hrE.le (by omega)) hgwE
--end damage
end Go.Proofs.YtmonhpoogfdpoaaGreatDoor

set_option linter.unusedVariables false
namespace Go.Proofs.YtmonhpoogfdpoaaGreatDoor
open Go.RowKit

/-- What a generator of models leaves. -/
def ModPost (Pr : Con → Prop) (B R : Nat) (bs : List Int) (q : Nat) (w : World) (e : Ending) (w' : World) : Prop :=
  ∃ (m : Mod) (M : Nat) (ao : Option Addr) (ac : Nat) (co : Option Addr) (cc : Nat), e = .returned (.agg #[.slice ao m.doms.length ac, .slice co m.cons.length cc]) ∧
    Own B w' 3 (.slice ao m.doms.length ac) m.doms ∧ (∀ b, (Value.slice ao m.doms.length ac).ownBlock = some b → b < M) ∧ (B ≤ M ∧ M ≤ w'.heap.size) ∧
    OwnG 5 elCon M w' 49 (.slice co m.cons.length cc) m.cons ∧ (1 ≤ m.doms.length ∧ m.doms.length ≤ 4) ∧ m.cons.length ≤ 4 ∧ (∀ c ∈ m.cons, Pr c) ∧ Rd w' R bs q ∧ Gr [R] w w'
def TinyV (c : Con) : Prop := Tiny c ∧ 1 ≤ c.vars.length

theorem app_end2 {R Cb : Nat} {bs : List Int} {q fi : Nat} {w1 wr w6 w7 : World} {o : Obj} {cs : Array Value} {t : TypeId} {nv : Value}
    (hL : Gr [R, Cb] w1 wr) (h6 : Gr [R] wr w6) (hbl : Below w1.heap.size (w6.alloc o) w7) (hR : R < Cb) (hC : Cb < w1.heap.size)
    (hb6 : w6.heap[Cb]? = some (.cells cs t (0, 0))) (hrd : Rd w6 R bs q) :
    (w7.setCell ⟨Cb, fi, none⟩ nv).heap[Cb]? = some (.cells (cs.setIfInBounds fi nv) t (0, 0)) ∧ Gr [Cb] w7 (w7.setCell ⟨Cb, fi, none⟩ nv) ∧ Rd (w7.setCell ⟨Cb, fi, none⟩ nv) R bs q ∧ Gr [R, Cb] w1 (w7.setCell ⟨Cb, fi, none⟩ nv) := by
  have hgs : Gr [Cb] w7 (w7.setCell ⟨Cb, fi, none⟩ nv) := Gr.cell1 _ _ _ _ (by simp)
  have ha : Gr [] w6 (w6.alloc o) := (Gr.refl _ _).alloc _
  have hb7 : w7.heap[Cb]? = some (.cells cs t (0, 0)) := (hbl.block _ hC).trans (ha.obj hb6 (by simp))
  refine ⟨cells_set hb7 _ _, hgs, ?_, ?_⟩
  · exact ((hrd.gr ha).low hbl (by omega)).grS hgs (by simp; omega)
  · exact (((hL.trans (h6.sub (by intro k _ h; simp at h ⊢; exact .inl h))).alloc o).low hbl (Nat.le_refl _)).trans (hgs.sub (by intro k _ h; simp at h ⊢; exact .inr h))
theorem sizeM : (Tryz.prog.info? 27).map (·.size) = some 2 := by kernel_rfl
theorem one2 (x1 x2 : Option Addr) (n1 n2 c1 c2 : Nat) : (#[Value.slice x1 n1 c1, .slice x2 n2 c2]).all (·.oneCell') = true := by simp [Value.oneCell']

set_option maxRecDepth 100000 in
set_option maxHeartbeats 4000000 in
theorem randomModel_c (R : Nat) (bs : List Int) (q : Nat) (w : World) (hr : Rd w R bs q) (hq : q ≤ 1000000) :
    Calls Tryz.prog 18 #[.pointer (some ⟨R, 0, none⟩)] w (ModPost TinyV w.heap.size R bs (q + 1000) w) := by
  have hRw := hr.lt
  have hg0 : Gr [] w ((w.alloc (.cells #[.slice none 0 0, .slice none 0 0] 27)).alloc (.cells #[.slice none 0 0, .slice none 0 0] 27)) := ((Gr.refl _ _).alloc _).alloc _
  have hr0 : ((w.alloc (.cells #[.slice none 0 0, .slice none 0 0] 27)).alloc (.cells #[.slice none 0 0, .slice none 0 0] 27)).heap[w.heap.size]? = some (.cells #[.slice none 0 0, .slice none 0 0] 27 (0, 0)) := (heap_alloc_old _ _ (by simp)).trans (heap_alloc_new _ _)
  have hb0 : ((w.alloc (.cells #[.slice none 0 0, .slice none 0 0] 27)).alloc (.cells #[.slice none 0 0, .slice none 0 0] 27)).heap[w.heap.size + 1]? = some (.cells #[.slice none 0 0, .slice none 0 0] 27 (0, 0)) := by
    have := heap_alloc_new (w.alloc (.cells #[.slice none 0 0, .slice none 0 0] 27)) (.cells #[.slice none 0 0, .slice none 0 0] 27)
    rwa [World.size_alloc] at this
  have Hg0 := hid hg0; have Hb0 := hid hb0; have Hr0 := hid hr0; have Hr := hid hr
  clear hg0 hb0 hr0 hr
  go_enter Tryz.func18, Tryz.ntmps18
  go_wp2_with fail
  have hcall := pick_c R bs q 4 _ (Hr.out.gr Hg0.out) (by omega) (by omega)
  (with_reducible refine hcall.mono ?_)
  clear hcall
  rintro e w1 ⟨⟨r1, rfl, hr10, hr1n⟩, hrd1, hg1⟩
  obtain ⟨r1, rfl⟩ := Int.eq_ofNat_of_zero_le hr10
  have hr14 : r1 < 4 := by omega
  have hb1 := hg1.obj Hb0.out (by simp; omega)
  have hr1 := hg1.obj Hr0.out (by simp; omega)
  have HG1 : Hid (Gr [R] w w1) := hid (Hg0.out.any.trans hg1)
  have hlt1 := lt_of_block hb1
  have Hb1 := hid hb1; have Hrd1 := hid hrd1
  have HRB : Hid (∀ W, Gr [R, w.heap.size + 1] w1 W → W.heap[w.heap.size]? = some (.cells #[.slice none 0 0, .slice none 0 0] 27 (0, 0))) := hid fun W h => h.obj hr1 (by simp; omega)
  have HK : Hid (((1 : Int) + (r1 : Int)) = ((1 + r1 : Nat) : Int)) := hid (by omega)
  clear hb1 hr1 hg1 hrd1 hr1n hr10
  go_wp2_with fail
  go_loopw [4] (fun i wr => ∃ (k : Nat) (ds : List Int) (dv : Value), k ≤ 4 ∧ i = .int .i64 k ∧ ds.length + k = 1 + r1 ∧ wr.heap[w.heap.size + 1]? = some (.cells #[dv, .slice none 0 0] 27 (0, 0)) ∧ Own w1.heap.size wr 3 dv ds ∧ Rd wr R bs (q + 1 + 3 * ds.length) ∧ Gr [R, w.heap.size + 1] w1 wr) (fun i _ => (intOf i).toNat)
  case atStart => exact ⟨1 + r1, [], _, by omega, by rw [HK.out], by simp, Hb1.out, Own.nil _ _ _, Hrd1.out, Gr.refl _ _⟩
  case round =>
    obtain ⟨k, ds, dv, hk, rfl, hal, hb, hown, hrd, hL⟩ := hrel
    have flr := fld hb
    have ffr := fldF hb
    have hltr := lt_of_block hb
    have hsr := hL.size
    obtain ⟨xo, xc, rfl⟩ := hown.c.form
    have Hal := hid hal; have Hb := hid hb; have Hown := hid hown; have Hrd := hid hrd; have HL := hid hL
    have hds4 : ds.length ≤ 4 := by omega
    clear hal hb hown hrd hL
    by_cases hlt : 0 < k
    · go_wp2_with fail
      go_region_law (first
        | (go_simp; go_at_call 48; refine (randomDomain_c R bs (q + 1 + 3 * ds.length) _ (Hrd.out.drew) (by omega)).mono ?_; rintro e w6 ⟨⟨r6, rfl, hr6⟩, hrd6, hg6⟩; have HS6 := hid (Gr.trans (a := wr) ((Gr.refl [R] _).drew) hg6); have HSC6 : Hid (Gr [R] wr w6) := HS6; have Hrd6 := hid hrd6; have Hb6 := hid (HSC6.out.obj Hb.out (by simp <;> omega)); have fl6 := fld Hb6.out; have ff6 := fldF Hb6.out; have hlt6 := lt_of_block Hb6.out; have hs6 := HSC6.out.size; clear hrd6 hg6 hr6)
        | (refine step_app1 rfl _ _ 24 rfl w1.heap.size 3 infoInt Tryz.underlying24 (.slice xo ds.length xc) ds rfl ((Hown.out.gr HSC6.out (by simp <;> omega)).alloc _) w6.heap.size 1 r6 rfl (cell_new _ _ _) (by omega) (by simp <;> omega) ?_; intro g7 c7 w7 hown7 hbl7; have HA7 := hid (And.intro hown7 hbl7); have fl7 := fld ((hbl7.block (w.heap.size + 1) (by omega)).trans ((((Gr.refl [] w6).alloc (.cells #[.int .i64 r6] 3)).obj Hb6.out (by simp)))); have ff7 := fldF ((hbl7.block (w.heap.size + 1) (by omega)).trans ((((Gr.refl [] w6).alloc (.cells #[.int .i64 r6] 3)).obj Hb6.out (by simp)))); clear hown7 hbl7))
      all_goals
        go_wp2_with fail
        obtain ⟨e1, e2, e3, e4⟩ := app_end2 (fi := 0) (nv := .slice (some ⟨g7, 0, none⟩) (ds.length + 1) c7) HL.out HSC6.out HA7.out.2 (by omega) (by omega) Hb6.out Hrd6.out
        exact ⟨⟨k - 1, ds ++ [r6], _, by omega, by go_num, by rw [List.length_append, List.length_singleton]; have := Hal.out; omega, e1, HA7.out.1.gr e2 (by simp; omega), e3.le (by rw [List.length_append, List.length_singleton]; omega), e4⟩, by simp [intOf]; omega⟩
    · have hk0 : k = 0 := by omega
      subst hk0
      have hal := Hal.out
      rw [Nat.add_zero] at hal
      have hds1 : 1 ≤ ds.length := by omega
      clear Hal hal
      obtain ⟨wD, hwD⟩ : ∃ wD : World, wD = wr := ⟨_, rfl⟩
      rw [← hwD] at Hb Hown Hrd HL hltr hsr flr ffr ⊢
      clear hwD
      go_wp2_with fail
      have hcall := pick_c R bs (q + 1 + 3 * ds.length) 5 _ Hrd.out (by omega) (by omega)
      (with_reducible refine hcall.mono ?_)
      clear hcall
      rintro e w2 ⟨⟨r2, rfl, hr20, hr2n⟩, hrd2, hg2⟩
      obtain ⟨r2, rfl⟩ := Int.eq_ofNat_of_zero_le hr20
      have hr25 : r2 < 5 := by omega
      have HL2 : Hid (Gr [R, w.heap.size + 1] w1 w2) := hid (HL.out.trans (hg2.sub (by intro k _ h; simp at h ⊢; exact .inl h)))
      have Hb2 := hid (hg2.obj Hb.out (by simp; omega))
      have Hown2 := hid (Hown.out.gr hg2 (by simp; omega))
      have Hrd2 := hid hrd2
      have hs2 := HL2.out.size
      clear hg2 hrd2 hr20 hr2n Hb Hown Hrd HL flr ffr hltr hsr
      go_wp2_with fail
      go_loopw [5] (fun i wr => ∃ (k : Nat) (cs : List Con) (cv : Value), k ≤ 4 ∧ i = .int .i64 k ∧ cs.length + k = r2 ∧ wr.heap[w.heap.size + 1]? = some (.cells #[.slice xo ds.length xc, cv] 27 (0, 0)) ∧ OwnG 5 elCon w2.heap.size wr 49 cv cs ∧ (∀ c ∈ cs, TinyV c) ∧ Rd wr R bs (q + 1 + 3 * ds.length + 1 + 200 * cs.length) ∧ Gr [R, w.heap.size + 1] w2 wr) (fun i _ => (intOf i).toNat)
      case atStart => exact ⟨r2, [], _, by omega, rfl, by simp, Hb2.out, OwnG.nil _ _ _, by simp, Hrd2.out, Gr.refl _ _⟩
      case round =>
        obtain ⟨k, cs, cv, hk, rfl, hal2, hb, hown, htv, hrd, hL⟩ := hrel
        have flr := fld hb
        have ffr := fldF hb
        have hltr := lt_of_block hb
        have hsr := hL.size
        obtain ⟨co, cc, rfl, _, _, _⟩ := hown.slice
        have Hb := hid hb; have Hown := hid hown; have Hrd := hid hrd; have HL := hid hL; have Htv := hid htv; have Hal2 := hid hal2
        have hcs4 : cs.length ≤ 4 := by omega
        clear hb hown hrd hL htv hal2
        by_cases hlt : 0 < k
        · go_wp2_with fail
          go_region_law (first
            | (go_simp; go_at_call 49; refine (randomConstraint_c R bs (q + 1 + 3 * ds.length + 1 + 200 * cs.length) ds.length _ (Hrd.out.drew) (by omega) (by omega) (by omega)).mono ?_; rintro e w6 ⟨c6, vo6, vc6, xo6, xc6, ro6, rc6, rfl, hc6, ht6, hv6, hrd6, hg6⟩; have HS6 := hid (Gr.trans (a := wr) ((Gr.refl [R] _).drew) hg6); have HSC6 : Hid (Gr [R] wr w6) := HS6; have Hrd6 := hid hrd6; have Hc6 := hid hc6; have Ht6 : Hid (TinyV c6) := hid ⟨ht6, hv6⟩; have Hb6 := hid (HSC6.out.obj Hb.out (by simp <;> omega)); have fl6 := fld Hb6.out; have ff6 := fldF Hb6.out; have hlt6 := lt_of_block Hb6.out; have hs6 := HSC6.out.size; clear hrd6 hg6 hc6 ht6 hv6)
            | (refine step_appG rfl _ _ 25 rfl 5 elCon elCon_ok w2.heap.size 49 (.agg #[.int .i64 0, .slice none 0 0, .slice none 0 0, .int .i64 0, .slice none 0 0]) 88 infoC rfl (by omega) (by omega) Tryz.underlying25 (.slice co cs.length cc) cs rfl ((Hown.out.gr elCon_ok HSC6.out (by simp <;> omega)).gr elCon_ok ((Gr.refl [] _).alloc _) (by simp)) w6.heap.size 1 c6 [.int .i64 c6.kind, .slice vo6 c6.vars.length vc6, .slice xo6 c6.args.length xc6, .int .i64 c6.bound, .slice ro6 c6.rows.length rc6] rfl rfl (by simp [Value.oneCell']) (fun j u hj => by rw [fld (heap_alloc_new w6 (.cells #[.int .i64 c6.kind, .slice vo6 c6.vars.length vc6, .slice xo6 c6.args.length xc6, .int .i64 c6.bound, .slice ro6 c6.rows.length rc6] 49))]; simpa using hj) (fun S hS => ⟨_, _, _, _, _, _, rfl, (Hc6.out S (fun b hb => by rcases hS b hb with h | h | h; exact .inl (by simp; omega); exact .inr (by simp at h; omega); exact .inl (by have := (Hown.out.ownB h).2; simp; omega))).gr ((Gr.refl _ _).alloc _)⟩) (by omega) (by simp <;> omega) ?_; intro g7 c7 w7 hown7 hg7; have hbl7 := OwnG.below ((Hown.out.gr elCon_ok HSC6.out (by simp <;> omega)).gr elCon_ok ((Gr.refl [] _).alloc _) (by simp)) hg7 (by simp <;> omega); have HA7 := hid (And.intro hown7 hbl7); have fl7 := fld ((hbl7.block (w.heap.size + 1) (by omega)).trans ((((Gr.refl [] w6).alloc (.cells #[.int .i64 c6.kind, .slice vo6 c6.vars.length vc6, .slice xo6 c6.args.length xc6, .int .i64 c6.bound, .slice ro6 c6.rows.length rc6] 49)).obj Hb6.out (by simp)))); have ff7 := fldF ((hbl7.block (w.heap.size + 1) (by omega)).trans ((((Gr.refl [] w6).alloc (.cells #[.int .i64 c6.kind, .slice vo6 c6.vars.length vc6, .slice xo6 c6.args.length xc6, .int .i64 c6.bound, .slice ro6 c6.rows.length rc6] 49)).obj Hb6.out (by simp)))); clear hown7 hbl7 hg7))
          all_goals
            go_wp2_with fail
            obtain ⟨e1, e2, e3, e4⟩ := app_end2 (fi := 1) (nv := .slice (some ⟨g7, 0, none⟩) (cs.length + 1) c7) HL.out HSC6.out HA7.out.2 (by omega) (by omega) Hb6.out Hrd6.out
            refine ⟨⟨k - 1, cs ++ [c6], _, by omega, by go_num, by rw [List.length_append, List.length_singleton]; have := Hal2.out; omega, e1, HA7.out.1.gr elCon_ok e2 (by simp; omega), fun c hc => ?_, e3.le (by rw [List.length_append, List.length_singleton]; omega), e4⟩, by simp [intOf]; omega⟩
            rcases List.mem_append.1 hc with h | h
            · exact Htv.out c h
            · rw [List.mem_singleton.1 h]; exact Ht6.out
        · have hk0 : k = 0 := by omega
          subst hk0
          go_wp2_with ((with_reducible show wpList _ _ _ (⟨none, Op.store _ (Operand.tmp 2) (Operand.tmp 37), _, _, _, none⟩ :: _) _ _); refine wp_storeT 27 2 37 w.heap.size #[.slice xo ds.length xc, .slice co cs.length cc] 27 #[.slice none 0 0, .slice none 0 0] (HRB.out _ (HL2.out.step HL.out (by intro i hi; simp at hi ⊢; omega))) ⟨sizeM, rfl, rfl, rfl, one2 _ _ _ _ _ _⟩ ?_; intro wE hbE hgE)
          have flE := fld hbE
          refine bodyPost_ret (v := .agg #[.slice xo ds.length xc, .slice co cs.length cc]) ?_ rfl ?_
          · simp [results, Tryz.results18, go_sem, flE]
          · have hsE := hgE.size
            have hHL := HL.out.size
            refine ⟨⟨ds, cs⟩, w2.heap.size, xo, xc, co, cc, rfl, ?_, ?_, ⟨by omega, by omega⟩, Hown.out.gr elCon_ok hgE (by simp; omega), ⟨hds1, hds4⟩, hcs4, Htv.out, (Hrd.out.grS hgE (by simp; omega)).le (by omega), ?_⟩
            · exact (((Hown2.out.gr HL.out (by simp; omega)).gr hgE (by simp; omega)).le (by omega))
            · intro b hb
              exact (ownsRow_ownBlock Hown2.out hb).2
            · exact (HG1.out.step (HL2.out.step HL.out (by intro i hi; simp at hi ⊢; omega)) (fun i hi => by simp at hi; rcases hi with h | h; exact .inl (by simp [h]); exact .inr (by omega))).step hgE (fun i hi => .inr (by simp at hi; omega))
end Go.Proofs.YtmonhpoogfdpoaaGreatDoor

set_option linter.unusedVariables false
namespace Go.Proofs.YtmonhpoogfdpoaaGreatDoor
open Go.RowKit

def SmallV (c : Con) : Prop := c.Small ∧ 1 ≤ c.vars.length

set_option maxRecDepth 100000 in
set_option maxHeartbeats 4000000 in
theorem anyModel_c (R : Nat) (bs : List Int) (q : Nat) (w : World) (hr : Rd w R bs q) (hq : q ≤ 1000000) :
    Calls Tryz.prog 41 #[.pointer (some ⟨R, 0, none⟩)] w (ModPost SmallV w.heap.size R bs (q + 2000) w) := by
  have hRw := hr.lt
  have hg0 : Gr [] w (w.alloc (.cells #[.slice none 0 0, .slice none 0 0] 27)) := (Gr.refl _ _).alloc _
  have hr0 : (w.alloc (.cells #[.slice none 0 0, .slice none 0 0] 27)).heap[w.heap.size]? = some (.cells #[.slice none 0 0, .slice none 0 0] 27 (0, 0)) := heap_alloc_new _ _
  have Hg0 := hid hg0; have Hr0 := hid hr0; have Hr := hid hr
  clear hg0 hr0 hr
  go_enter Tryz.func41, Tryz.ntmps41
  go_wp2_with fail
  have hcall := randomModel_c R bs q _ (Hr.out.gr Hg0.out) (by omega)
  (with_reducible refine hcall.mono ?_)
  clear hcall
  rintro e w1 ⟨m, M, ao, dc, co, cc, rfl, hown, hdM, ⟨hM1, hM2⟩, hcs, ⟨hd1, hd4⟩, hc4, htv, hrd1, hg1⟩
  obtain ⟨gd, dc', e1, ⟨hgd1, hgd2⟩, _, _⟩ := hown.open (by omega)
  obtain ⟨rfl, rfl⟩ : ao = some ⟨gd, 0, none⟩ ∧ dc = dc' := by simpa using e1
  have hgdM : gd < M := hdM gd rfl
  have HdM := hid hdM
  have HcB : Hid (∀ b, (Value.slice co m.cons.length cc).ownBlock = some b → b < w1.heap.size) := hid fun b hb => (hcs.ownB hb).2
  clear e1 hdM
  simp only [World.size_alloc] at hgd1 hM1 hown
  have hrb1 := hg1.obj Hr0.out (by simp <;> omega)
  have hg01 := Hg0.out.any.trans hg1
  have ha2 : Gr [] w1 (w1.alloc (.cells #[.slice (some ⟨gd, 0, none⟩) m.doms.length dc, .slice co m.cons.length cc] 27)) := (Gr.refl _ _).alloc _
  have hb2 : (w1.alloc (.cells #[.slice (some ⟨gd, 0, none⟩) m.doms.length dc, .slice co m.cons.length cc] 27)).heap[w1.heap.size]? = some (.cells #[.slice (some ⟨gd, 0, none⟩) m.doms.length dc, .slice co m.cons.length cc] 27 (0, 0)) := heap_alloc_new _ _
  have Hown := hid hown; have Hcs := hid hcs; have Htv := hid htv; have Hrd1 := hid hrd1; have Hrb1 := hid hrb1; have Hg01 := hid hg01; have Ha2 := hid ha2; have Hb2 := hid hb2
  have hs1 := lt_of_block hrb1
  clear hown hcs htv hrd1 hrb1 hg01 ha2 hb2 hg1
  go_wp2_with fail
  have hcall := pick_c R bs (q + 1000) 16 _ (Hrd1.out.gr Ha2.out) (by omega) (by omega)
  (with_reducible refine hcall.mono ?_)
  clear hcall
  rintro e w3 ⟨⟨r3, rfl, hr30, hr3n⟩, hrd3, hg3⟩
  have HG3 : Hid (Gr [R] w w3) := hid ((Hg01.out.trans Ha2.out.any).trans hg3)
  have hg13 : Gr [R] w1 w3 := Ha2.out.any.trans hg3
  have hs3 := hg13.size
  have hb3 := hg3.obj Hb2.out (by simp <;> omega)
  have hlt3 := lt_of_block hb3
  have Hb3 := hid hb3
  have Hown3 := hid (Hown.out.gr hg13 (by simp <;> omega))
  have Hcs3 := hid (Hcs.out.gr elCon_ok hg13 (by simp <;> omega))
  have Hrd3 := hid hrd3
  have hrb3 := hg13.obj Hrb1.out (by simp <;> omega)
  have HRBR := hid hrb3
  have fl3 := fld hb3
  have ff3 := fldF hb3
  clear hg13 hg3 hrd3 hb3 hrb3 Hown Hcs Hrd1 Hrb1 Hg01 Ha2 Hb2
  have hM3 : M ≤ w3.heap.size := by omega
  cases h0 : (r3 == 0)
  · cases h1 : (r3 == 1)
    · have HRB : Hid (∀ W, Gr [R, w3.heap.size, w3.heap.size] w3 W → W.heap[w.heap.size]? = some (.cells #[.slice none 0 0, .slice none 0 0] 27 (0, 0))) := hid fun W h => h.obj HRBR.out (by simp <;> omega)
      go_wp2_with ((with_reducible show wpList _ _ _ (⟨none, Op.store _ (Operand.tmp 2) (Operand.tmp 44), _, _, _, none⟩ :: _) _ _); refine wp_storeT 27 2 44 w.heap.size #[.slice (some ⟨gd, 0, none⟩) m.doms.length dc, .slice co m.cons.length cc] 27 #[.slice none 0 0, .slice none 0 0] (HRB.out _ (Gr.refl [R, w3.heap.size, w3.heap.size] w3)) ⟨sizeM, rfl, rfl, rfl, one2 _ _ _ _ _ _⟩ ?_; intro wE hbE hgE)
      have flE := fld hbE
      refine bodyPost_ret (v := .agg #[.slice (some ⟨gd, 0, none⟩) m.doms.length dc, .slice co m.cons.length cc]) ?_ rfl ?_
      · simp [results, Tryz.results41, go_sem, flE]
      · have hsE := hgE.size
        have hsL := (Gr.refl [R, w3.heap.size, w3.heap.size] w3).size
        have hcE := OwnG.gr elCon_ok Hcs3.out hgE (by simp <;> omega)
        have hdE := Own.gr Hown3.out hgE (by simp <;> omega)
        refine ⟨m, M, _, _, _, _, rfl, hdE.le (by omega), ?_, ⟨by omega, by omega⟩, hcE, ⟨hd1, hd4⟩, hc4, (fun c hc => ⟨(Htv.out c hc).1.small, (Htv.out c hc).2⟩), (Hrd3.out.grS hgE (by simp <;> omega)).le (by omega), ?_⟩
        · exact HdM.out
        · exact (HG3.out.step (Gr.refl [R, w3.heap.size, w3.heap.size] w3) (fun i hi => by simp at hi; by_cases hiR : i = R; exact .inl (by simp [hiR]); exact .inr (by omega))).step hgE (fun i hi => .inr (by simp at hi; omega))
    · have h1' : r3 = 1 := by simpa using h1
      subst h1'
      by_cases hcp : 0 < m.cons.length
      · have hcz : 0 < m.cons.length := hcp
        go_wp2_with fail
        (refine (pick_c R bs (q + 1000 + 1) m.cons.length _ Hrd3.out (by omega) (by omega)).mono ?_)
        rintro e w5 ⟨⟨r5, rfl, hr50, hr5n⟩, hrd5, hg5⟩
        obtain ⟨r5, rfl⟩ := Int.eq_ofNat_of_zero_le hr50
        have hr5c : r5 < m.cons.length := by omega
        have HS5 : Hid (Gr [R] w3 w5) := hid hg5
        have Hrd5 := hid hrd5
        have hs5 := hg5.size
        have Hb5 := hid (hg5.obj Hb3.out (by simp <;> omega))
        have hlt5 := lt_of_block Hb5.out
        have fl5 := fld Hb5.out
        have ff5 := fldF Hb5.out
        have Hcs5 := hid (Hcs3.out.gr elCon_ok hg5 (by simp <;> omega))
        clear hr50 hr5n hrd5 hg5
        obtain ⟨c, hc⟩ := get_some hr5c
        obtain ⟨gc, cc', us, e2, hgc1, hgc2, hul, hcell, hfro, hel⟩ := Hcs5.out.cell hc
        obtain ⟨rfl, rfl⟩ : co = some ⟨gc, 0, none⟩ ∧ cc = cc' := by simpa using e2
        obtain ⟨vo, vc, xo, xc, ro, rc, rfl, _⟩ := hel [] (by simp)
        have hgcw := HcB.out gc rfl
        have c0 := hcell 0 _ rfl
        have c1 := hcell 1 _ rfl
        have c2 := hcell 2 _ rfl
        have c3 := hcell 3 _ rfl
        have c4 := hcell 4 _ rfl
        simp only [Nat.zero_add, Nat.add_zero] at c0 c1 c2 c3 c4
        have Hel : Hid (∀ S : List Nat, (∀ b ∈ S, (b < M ∨ b = gc) ∨ w5.heap.size ≤ b) → ConV S w5 (.agg #[.int .i64 c.kind, .slice vo c.vars.length vc, .slice xo c.args.length xc, .int .i64 c.bound, .slice ro c.rows.length rc]) c) := hid fun S hS => by
          obtain ⟨vo', vc', xo', xc', ro', rc', e3, h3⟩ := hel S (fun b hb => by rcases hS b hb with (h | h) | h; exact .inl h; exact .inr (.inr h); exact .inr (.inl h))
          simp only [List.cons.injEq] at e3
          obtain ⟨_, e4, e5, _, e6, _⟩ := e3
          rw [← e4, ← e5, ← e6] at h3
          exact h3
        have Ht := hid (Htv.out c (List.mem_of_getElem? hc))
        have HRB : Hid (∀ W, Gr [R, gc, gc] w3 W → W.heap[w.heap.size]? = some (.cells #[.slice none 0 0, .slice none 0 0] 27 (0, 0))) := hid fun W h => h.obj HRBR.out (by simp <;> omega)
        clear hc e2 hul hcell hel
        go_wp2_with fail
        go_region_law (first | (go_simp; go_at_call 79; refine (damage_c (fun b => b < M ∨ b = gc) R bs (q + 1000 + 1 + 1) c vo vc xo xc ro rc _ (Hrd5.out.drew) (by omega) (fun S hS => (Hel.out S hS).gr ((Gr.refl _ _).drew)) Ht.out.1 Ht.out.2 (.inl (by omega)) (fun b hb => by rcases hb with h | h; (simp; omega); (subst h; exact hgc2))).mono ?_; rintro e w6 ⟨c6, vo6, vc6, xo6, xc6, ro6, rc6, rfl, hc6, hsm6, hv6, hrd6, hg6⟩; have HS56 : Hid (Gr [R] w5 w6) := hid (Gr.trans ((Gr.refl [R] _).drew) hg6); have HS6 : Hid (Gr [R] w3 w6) := hid (HS5.out.trans HS56.out); have d0 := HS56.out.cell c0 (by simp <;> omega); have d1 := HS56.out.cell c1 (by simp <;> omega); have d2 := HS56.out.cell c2 (by simp <;> omega); have d3 := HS56.out.cell c3 (by simp <;> omega); have d4 := HS56.out.cell c4 (by simp <;> omega); have df : ∀ j, w6.frozen? ⟨gc, j, none⟩ = false := (fun j => (HS56.out.frozen hgc2 (by simp <;> omega)).trans (hfro j)); have hlt6 := lt_of_block (HS6.out.obj Hb3.out (by simp <;> omega)); have fl6 := fld (HS6.out.obj Hb3.out (by simp <;> omega)); have ff6 := fldF (HS6.out.obj Hb3.out (by simp <;> omega)); have hs6 := HS6.out.size; have Hrd6 := hid hrd6; have Hc6 := hid hc6; have HV6 : Hid (SmallV c6) := hid ⟨hsm6, hv6⟩; clear hrd6 hc6 hsm6 hv6 hg6))
        all_goals
          have HL : Hid (Gr [R, gc, gc] w3 (((((w6.setCell ⟨gc, r5 * 5, none⟩ (.int .i64 c6.kind)).setCell ⟨gc, r5 * 5 + 1, none⟩ (.slice vo6 c6.vars.length vc6)).setCell ⟨gc, r5 * 5 + 2, none⟩ (.slice xo6 c6.args.length xc6)).setCell ⟨gc, r5 * 5 + 3, none⟩ (.int .i64 c6.bound)).setCell ⟨gc, r5 * 5 + 4, none⟩ (.slice ro6 c6.rows.length rc6))) := hid ((((((HS6.out.sub (by intro k _ h; simp at h ⊢; exact .inl h)).setCell _ _ (.inl (by simp))).setCell _ _ (.inl (by simp))).setCell _ _ (.inl (by simp))).setCell _ _ (.inl (by simp))).setCell _ _ (.inl (by simp)))
          have HG7 : Hid (Gr [gc] w6 (((((w6.setCell ⟨gc, r5 * 5, none⟩ (.int .i64 c6.kind)).setCell ⟨gc, r5 * 5 + 1, none⟩ (.slice vo6 c6.vars.length vc6)).setCell ⟨gc, r5 * 5 + 2, none⟩ (.slice xo6 c6.args.length xc6)).setCell ⟨gc, r5 * 5 + 3, none⟩ (.int .i64 c6.bound)).setCell ⟨gc, r5 * 5 + 4, none⟩ (.slice ro6 c6.rows.length rc6))) := hid (((((Gr.cell1 [gc] _ _ _ (by simp)).setCell _ _ (.inl (by simp))).setCell _ _ (.inl (by simp))).setCell _ _ (.inl (by simp))).setCell _ _ (.inl (by simp)))
          have HD : Hid (Own (w.heap.size + 1) (((((w6.setCell ⟨gc, r5 * 5, none⟩ (.int .i64 c6.kind)).setCell ⟨gc, r5 * 5 + 1, none⟩ (.slice vo6 c6.vars.length vc6)).setCell ⟨gc, r5 * 5 + 2, none⟩ (.slice xo6 c6.args.length xc6)).setCell ⟨gc, r5 * 5 + 3, none⟩ (.int .i64 c6.bound)).setCell ⟨gc, r5 * 5 + 4, none⟩ (.slice ro6 c6.rows.length rc6)) 3 (.slice (some ⟨gd, 0, none⟩) m.doms.length dc) m.doms) := hid ((Hown3.out.gr HS6.out (by simp <;> omega)).keep HG7.out (by simp <;> omega))
          have HC : Hid (OwnG 5 elCon M (((((w6.setCell ⟨gc, r5 * 5, none⟩ (.int .i64 c6.kind)).setCell ⟨gc, r5 * 5 + 1, none⟩ (.slice vo6 c6.vars.length vc6)).setCell ⟨gc, r5 * 5 + 2, none⟩ (.slice xo6 c6.args.length xc6)).setCell ⟨gc, r5 * 5 + 3, none⟩ (.int .i64 c6.bound)).setCell ⟨gc, r5 * 5 + 4, none⟩ (.slice ro6 c6.rows.length rc6)) 49 (.slice (some ⟨gc, 0, none⟩) m.cons.length cc) (m.cons.set r5 c6)) := hid ((Hcs3.out.gr elCon_ok HS6.out (by simp <;> omega)).set5 elCon_ok hr5c _ _ _ _ _ (by simp [Value.oneCell']) c6 (fun S hS => ⟨_, _, _, _, _, _, rfl, ((Hc6.out (gc :: S) (fun b hb => by rcases List.mem_cons.1 hb with h | h; exact .inl (.inr h); (rcases hS b h with h | h | h; exact .inl (.inl h); exact .inr h; exact .inl (.inr h)))).gr (HG7.out.sub (fun k _ hk => by simp at hk ⊢; exact .inl hk))).sub (fun b _ hb => by simp [hb])⟩))
          have HR : Hid (Rd (((((w6.setCell ⟨gc, r5 * 5, none⟩ (.int .i64 c6.kind)).setCell ⟨gc, r5 * 5 + 1, none⟩ (.slice vo6 c6.vars.length vc6)).setCell ⟨gc, r5 * 5 + 2, none⟩ (.slice xo6 c6.args.length xc6)).setCell ⟨gc, r5 * 5 + 3, none⟩ (.int .i64 c6.bound)).setCell ⟨gc, r5 * 5 + 4, none⟩ (.slice ro6 c6.rows.length rc6)) R bs (q + 1000 + 1 + 1 + 2)) := hid (Hrd6.out.grS HG7.out (by simp <;> omega))
          have hb7 : (((((w6.setCell ⟨gc, r5 * 5, none⟩ (.int .i64 c6.kind)).setCell ⟨gc, r5 * 5 + 1, none⟩ (.slice vo6 c6.vars.length vc6)).setCell ⟨gc, r5 * 5 + 2, none⟩ (.slice xo6 c6.args.length xc6)).setCell ⟨gc, r5 * 5 + 3, none⟩ (.int .i64 c6.bound)).setCell ⟨gc, r5 * 5 + 4, none⟩ (.slice ro6 c6.rows.length rc6)).heap[w1.heap.size]? = some (.cells #[.slice (some ⟨gd, 0, none⟩) m.doms.length dc, .slice (some ⟨gc, 0, none⟩) m.cons.length cc] 27 (0, 0)) := HG7.out.obj (HS6.out.obj Hb3.out (by simp <;> omega)) (by simp <;> omega)
          obtain ⟨W7, hW7⟩ : ∃ W7 : World, W7 = (((((w6.setCell ⟨gc, r5 * 5, none⟩ (.int .i64 c6.kind)).setCell ⟨gc, r5 * 5 + 1, none⟩ (.slice vo6 c6.vars.length vc6)).setCell ⟨gc, r5 * 5 + 2, none⟩ (.slice xo6 c6.args.length xc6)).setCell ⟨gc, r5 * 5 + 3, none⟩ (.int .i64 c6.bound)).setCell ⟨gc, r5 * 5 + 4, none⟩ (.slice ro6 c6.rows.length rc6)) := ⟨_, rfl⟩
          rw [← hW7] at hb7 HL HD HC HR ⊢
          have fl7 := fld hb7
          clear fl6 fl5 fl3 ff6 ff5 ff3 d0 d1 d2 d3 d4 df c0 c1 c2 c3 c4 hfro HG7 hW7 hb7
          go_wp2_with ((with_reducible show wpList _ _ _ (⟨none, Op.store _ (Operand.tmp 2) (Operand.tmp 44), _, _, _, none⟩ :: _) _ _); refine wp_storeT 27 2 44 w.heap.size #[.slice (some ⟨gd, 0, none⟩) m.doms.length dc, .slice (some ⟨gc, 0, none⟩) m.cons.length cc] 27 #[.slice none 0 0, .slice none 0 0] (HRB.out _ (HL.out)) ⟨sizeM, rfl, rfl, rfl, one2 _ _ _ _ _ _⟩ ?_; intro wE hbE hgE)
          have flE := fld hbE
          refine bodyPost_ret (v := .agg #[.slice (some ⟨gd, 0, none⟩) m.doms.length dc, .slice (some ⟨gc, 0, none⟩) m.cons.length cc]) ?_ rfl ?_
          · simp [results, Tryz.results41, go_sem, flE]
          · have hsE := hgE.size
            have hsL := (HL.out).size
            have hcE := OwnG.gr elCon_ok HC.out hgE (by simp <;> omega)
            have hdE := Own.gr HD.out hgE (by simp <;> omega)
            have e : m.cons.length = (m.cons.set r5 c6).length := (by simp)
            rw [e] at hcE ⊢
            refine ⟨⟨m.doms, m.cons.set r5 c6⟩, M, _, _, _, _, rfl, hdE.le (by omega), ?_, ⟨by omega, by omega⟩, hcE, ⟨hd1, hd4⟩, (by simpa using hc4), (fun c hc => by rcases List.mem_or_eq_of_mem_set hc with h | h; exact ⟨(Htv.out c h).1.small, (Htv.out c h).2⟩; exact h ▸ HV6.out), (HR.out.grS hgE (by simp <;> omega)).le (by omega), ?_⟩
            · exact HdM.out
            · exact (HG3.out.step (HL.out) (fun i hi => by simp at hi; by_cases hiR : i = R; exact .inl (by simp [hiR]); exact .inr (by omega))).step hgE (fun i hi => .inr (by simp at hi; omega))
      · have HRB : Hid (∀ W, Gr [R, w3.heap.size, w3.heap.size] w3 W → W.heap[w.heap.size]? = some (.cells #[.slice none 0 0, .slice none 0 0] 27 (0, 0))) := hid fun W h => h.obj HRBR.out (by simp <;> omega)
        go_wp2_with ((with_reducible show wpList _ _ _ (⟨none, Op.store _ (Operand.tmp 2) (Operand.tmp 44), _, _, _, none⟩ :: _) _ _); refine wp_storeT 27 2 44 w.heap.size #[.slice (some ⟨gd, 0, none⟩) m.doms.length dc, .slice co m.cons.length cc] 27 #[.slice none 0 0, .slice none 0 0] (HRB.out _ (Gr.refl [R, w3.heap.size, w3.heap.size] w3)) ⟨sizeM, rfl, rfl, rfl, one2 _ _ _ _ _ _⟩ ?_; intro wE hbE hgE)
        have flE := fld hbE
        refine bodyPost_ret (v := .agg #[.slice (some ⟨gd, 0, none⟩) m.doms.length dc, .slice co m.cons.length cc]) ?_ rfl ?_
        · simp [results, Tryz.results41, go_sem, flE]
        · have hsE := hgE.size
          have hsL := (Gr.refl [R, w3.heap.size, w3.heap.size] w3).size
          have hcE := OwnG.gr elCon_ok Hcs3.out hgE (by simp <;> omega)
          have hdE := Own.gr Hown3.out hgE (by simp <;> omega)
          refine ⟨m, M, _, _, _, _, rfl, hdE.le (by omega), ?_, ⟨by omega, by omega⟩, hcE, ⟨hd1, hd4⟩, hc4, (fun c hc => ⟨(Htv.out c hc).1.small, (Htv.out c hc).2⟩), (Hrd3.out.grS hgE (by simp <;> omega)).le (by omega), ?_⟩
          · exact HdM.out
          · exact (HG3.out.step (Gr.refl [R, w3.heap.size, w3.heap.size] w3) (fun i hi => by simp at hi; by_cases hiR : i = R; exact .inl (by simp [hiR]); exact .inr (by omega))).step hgE (fun i hi => .inr (by simp at hi; omega))
  · have h0' : r3 = 0 := by simpa using h0
    subst h0'
    have HRB : Hid (∀ W, Gr [R, gd, gd] w3 W → W.heap[w.heap.size]? = some (.cells #[.slice none 0 0, .slice none 0 0] 27 (0, 0))) := hid fun W h => h.obj HRBR.out (by simp <;> omega)
    go_wp2_with fail
    go_region_law (first | (go_simp; go_at_call 19; refine (pick_c R bs (q + 1000 + 1) m.doms.length _ (Hrd3.out.gr ((Gr.refl [] _).drew)) (by omega) (by omega)).mono ?_; rintro e w5 ⟨⟨r5, rfl, hr50, hr5n⟩, hrd5, hg5⟩; obtain ⟨r5, rfl⟩ := Int.eq_ofNat_of_zero_le hr50; have hr5d : r5 < m.doms.length := (by omega); clear hr50 hr5n; have HS5 : Hid (Gr [R] w3 w5) := hid (Gr.trans (a := w3) (Gr.any ((Gr.refl [] _).drew)) hg5); have Hrd5 := hid hrd5; have hlt5 := lt_of_block (HS5.out.obj Hb3.out (by simp <;> omega)); have fl5 := fld (HS5.out.obj Hb3.out (by simp <;> omega)); have ff5 := fldF (HS5.out.obj Hb3.out (by simp <;> omega)); have hs5 := HS5.out.size; clear hrd5 hg5) | (go_simp; go_at_call 19; refine (pick_c R bs (q + 1000 + 1) m.doms.length _ (Hrd3.out.gr (((Gr.refl [] _).alloc _).drew)) (by omega) (by omega)).mono ?_; rintro e w5 ⟨⟨r5, rfl, hr50, hr5n⟩, hrd5, hg5⟩; obtain ⟨r5, rfl⟩ := Int.eq_ofNat_of_zero_le hr50; have hr5d : r5 < m.doms.length := (by omega); clear hr50 hr5n; have HS5 : Hid (Gr [R] w3 w5) := hid (Gr.trans (a := w3) (Gr.any (((Gr.refl [] _).alloc _).drew)) hg5); have HN5 := hid ((nums_new (S := [R]) w3 3 [-1, 64, 0] (by simp <;> omega)).gr (Gr.trans ((Gr.refl [R] _).drew) hg5)); have Hrd5 := hid hrd5; have hlt5 := lt_of_block (HS5.out.obj Hb3.out (by simp <;> omega)); have fl5 := fld (HS5.out.obj Hb3.out (by simp <;> omega)); have ff5 := fldF (HS5.out.obj Hb3.out (by simp <;> omega)); have hs5 := HS5.out.size; clear hrd5 hg5) | (go_simp; go_at_call 78; refine (one_c R bs (q + 1000 + 1 + 1) _ [-1, 64, 0] _ Hrd5.out HN5.out (by omega) (by simp) (by simp)).mono ?_; rintro e w6 ⟨⟨r6, rfl, hr6⟩, hrd6, hg6⟩; have HS6 : Hid (Gr [R] w3 w6) := hid (HS5.out.trans hg6); obtain ⟨y6, hy6⟩ := get_some (xs := m.doms) (k := r5) hr5d; obtain ⟨hc61, hc62⟩ := (Hown3.out.gr HS6.out (by simp <;> omega)).at hy6; have hlt6 := lt_of_block (HS6.out.obj Hb3.out (by simp <;> omega)); have fl6 := fld (HS6.out.obj Hb3.out (by simp <;> omega)); have ff6 := fldF (HS6.out.obj Hb3.out (by simp <;> omega)); have Hrd6 := hid hrd6; have hs6 := HS6.out.size; clear hy6 hrd6 hg6 hr6) | (go_simp; go_at_call 78; refine (one_c R bs (q + 1000 + 1 + 1) _ [-1, 64, 0] _ (Hrd5.out.gr ((Gr.refl [] _).alloc _)) (nums_new _ _ _ (by simp <;> omega)) (by omega) (by simp) (by simp)).mono ?_; rintro e w6 ⟨⟨r6, rfl, hr6⟩, hrd6, hg6⟩; have HS6 : Hid (Gr [R] w3 w6) := hid ((HS5.out.alloc _).trans hg6); obtain ⟨y6, hy6⟩ := get_some (xs := m.doms) (k := r5) hr5d; obtain ⟨hc61, hc62⟩ := (Hown3.out.gr HS6.out (by simp <;> omega)).at hy6; have hlt6 := lt_of_block (HS6.out.obj Hb3.out (by simp <;> omega)); have fl6 := fld (HS6.out.obj Hb3.out (by simp <;> omega)); have ff6 := fldF (HS6.out.obj Hb3.out (by simp <;> omega)); have Hrd6 := hid hrd6; have hs6 := HS6.out.size; clear hy6 hrd6 hg6 hr6))
    all_goals
      have HL : Hid (Gr [R, gd, gd] w3 (w6.setCell ⟨gd, r5, none⟩ (.int .i64 r6))) := hid ((HS6.out.sub (by intro k _ h; simp at h ⊢; exact .inl h)).setCell _ _ (.inl (by simp)))
      have HD : Hid (Own (w.heap.size + 1) (w6.setCell ⟨gd, r5, none⟩ (.int .i64 r6)) 3 (.slice (some ⟨gd, 0, none⟩) m.doms.length dc) (m.doms.set r5 r6)) := hid ((Hown3.out.gr HS6.out (by simp <;> omega)).set r5 r6 hr5d)
      have HC : Hid (OwnG 5 elCon M (w6.setCell ⟨gd, r5, none⟩ (.int .i64 r6)) 49 (.slice co m.cons.length cc) m.cons) := hid ((Hcs3.out.gr elCon_ok HS6.out (by simp <;> omega)).gr elCon_ok (Gr.cell1 [gd] _ _ _ (by simp)) (by simp <;> omega))
      have HR : Hid (Rd (w6.setCell ⟨gd, r5, none⟩ (.int .i64 r6)) R bs (q + 1000 + 1 + 1 + 1)) := hid (Hrd6.out.grS (Gr.cell1 [gd] _ _ _ (by simp)) (by simp <;> omega))
      go_wp2_with ((with_reducible show wpList _ _ _ (⟨none, Op.store _ (Operand.tmp 2) (Operand.tmp 44), _, _, _, none⟩ :: _) _ _); refine wp_storeT 27 2 44 w.heap.size #[.slice (some ⟨gd, 0, none⟩) m.doms.length dc, .slice co m.cons.length cc] 27 #[.slice none 0 0, .slice none 0 0] (HRB.out _ (HL.out)) ⟨sizeM, rfl, rfl, rfl, one2 _ _ _ _ _ _⟩ ?_; intro wE hbE hgE)
      have flE := fld hbE
      refine bodyPost_ret (v := .agg #[.slice (some ⟨gd, 0, none⟩) m.doms.length dc, .slice co m.cons.length cc]) ?_ rfl ?_
      · simp [results, Tryz.results41, go_sem, flE]
      · have hsE := hgE.size
        have hsL := (HL.out).size
        have hcE := OwnG.gr elCon_ok HC.out hgE (by simp <;> omega)
        have hdE := Own.gr HD.out hgE (by simp <;> omega)
        have e : m.doms.length = (m.doms.set r5 r6).length := by simp
        rw [e] at hdE ⊢
        rw [e] at HdM
        refine ⟨⟨m.doms.set r5 r6, m.cons⟩, M, _, _, _, _, rfl, hdE.le (by omega), ?_, ⟨by omega, by omega⟩, hcE, ⟨by simpa using hd1, by simpa using hd4⟩, hc4, (fun c hc => ⟨(Htv.out c hc).1.small, (Htv.out c hc).2⟩), (HR.out.grS hgE (by simp <;> omega)).le (by omega), ?_⟩
        · exact HdM.out
        · exact (HG3.out.step (HL.out) (fun i hi => by simp at hi; by_cases hiR : i = R; exact .inl (by simp [hiR]); exact .inr (by omega))).step hgE (fun i hi => .inr (by simp at hi; omega))
end Go.Proofs.YtmonhpoogfdpoaaGreatDoor

set_option linter.unusedVariables false
namespace Go.Proofs.YtmonhpoogfdpoaaGreatDoor
open Go.RowKit

/-- A model in memory. -/
def DrawPost (w : World) (e : Ending) (w' : World) : Prop := ∃ (m : Mod) (mv : Value), e = .returned mv ∧ ModV [] w' mv m ∧ m.Small ∧ Gr [] w w'
theorem ModPost.modv {S : List Nat} {B : Nat} {w' : World} {m : Mod} {M ac cc : Nat} {ao co : Option Addr} (hS : ∀ b ∈ S, b < B ∨ w'.heap.size ≤ b) (hBM : B ≤ M) (h1 : Own B w' 3 (.slice ao m.doms.length ac) m.doms) (h2 : OwnG 5 elCon M w' 49 (.slice co m.cons.length cc) m.cons) :
    ModV S w' (.agg #[.slice ao m.doms.length ac, .slice co m.cons.length cc]) m := ⟨_, _, rfl, h1.nums' hS, h2.cons fun b hb => (hS b hb).imp (by omega) id⟩
theorem mod_small {m : Mod} (h1 : m.doms.length ≤ 4) (h2 : m.cons.length ≤ 4) (h3 : ∀ c ∈ m.cons, SmallV c) : m.Small := ⟨by omega, by omega, fun c hc => (h3 c hc).1⟩

end Go.Proofs.YtmonhpoogfdpoaaGreatDoor
