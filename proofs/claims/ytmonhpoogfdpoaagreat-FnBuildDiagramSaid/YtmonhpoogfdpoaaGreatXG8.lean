/-
  Walks of generators: damaged constraints.
  Walk of the generator of valid models.
  Walk of the generator of models.
  Walks of the generators DrawPropagate and DrawIsConsistent.
-/
import Derived.Test.YtmonhpoogfdpoaaGreatXG4
import Derived.Test.YtmonhpoogfdpoaaGreatXM1
import Derived.Test.YtmonhpoogfdpoaaGreatXFP
import Derived.Test.YtmonhpoogfdpoaaGreatXM4M5
set_option linter.unusedVariables false
namespace Go.Proofs.YtmonhpoogfdpoaaGreat
open Go.RowKit

/-- A list that lies in none of the blocks X, below hi. -/
def FrX (X : Nat → Prop) (hi : Nat) (w : World) (v : Value) (xs : List Int) : Prop := ∀ S : List Nat, (∀ b ∈ S, X b ∨ hi ≤ b) → Nums S w .i64 v xs
def FrRX (X : Nat → Prop) (hi : Nat) (w : World) (v : Value) (rows : List (List Int)) : Prop := ∀ S : List Nat, (∀ b ∈ S, X b ∨ hi ≤ b) → RowsV S w v rows
theorem FrI.x {lo hi : Nat} {w : World} {v : Value} {xs : List Int} {X : Nat → Prop} (h : FrI lo hi w v xs) (hX : ∀ b, X b → b < lo) : FrX X hi w v xs := fun S hS => h S fun b hb => (hS b hb).imp (hX b) id
theorem FrX.gr {X : Nat → Prop} {hi : Nat} {S : List Nat} {w w' : World} {v : Value} {xs : List Int} (h : FrX X hi w v xs) (hg : Gr S w w') (hS : ∀ b ∈ S, X b ∨ hi ≤ b) : FrX X hi w' v xs := fun S0 h0 =>
  ((h (S ++ S0) (by intro b hb; rcases List.mem_append.1 hb with hb | hb; exact hS b hb; exact h0 b hb)).gr (hg.sub fun k _ hk => by simp [hk])).sub fun b _ hb => by simp [hb]
theorem FrRX.gr {X : Nat → Prop} {hi : Nat} {S : List Nat} {w w' : World} {v : Value} {xs : List (List Int)} (h : FrRX X hi w v xs) (hg : Gr S w w') (hS : ∀ b ∈ S, X b ∨ hi ≤ b) : FrRX X hi w' v xs := fun S0 h0 =>
  ((h (S ++ S0) (by intro b hb; rcases List.mem_append.1 hb with hb | hb; exact hS b hb; exact h0 b hb)).gr (hg.sub fun k _ hk => by simp [hk])).sub fun b _ hb => by simp [hb]
theorem FrX.grR {X : Nat → Prop} {hi R : Nat} {w w' : World} {v : Value} {xs : List Int} (h : FrX X hi w v xs) (hg : Gr [R] w w') (hR : X R) : FrX X hi w' v xs := h.gr hg fun b hb => .inl (by simp at hb; rw [hb]; exact hR)
theorem FrRX.grR {X : Nat → Prop} {hi R : Nat} {w w' : World} {v : Value} {xs : List (List Int)} (h : FrRX X hi w v xs) (hg : Gr [R] w w') (hR : X R) : FrRX X hi w' v xs := h.gr hg fun b hb => .inl (by simp at hb; rw [hb]; exact hR)
/-- What a generator of constraints leaves: a constraint in none of the blocks X, maybe a wrong one. -/
def ConPostX (X : Nat → Prop) (R : Nat) (bs : List Int) (q : Nat) (w : World) (e : Ending) (w' : World) : Prop :=
  ∃ (c : Con) (vo : Option Addr) (vc : Nat) (xo : Option Addr) (xc : Nat) (ro : Option Addr) (rc : Nat),
    e = .returned (.agg #[.int .i64 c.kind, .slice vo c.vars.length vc, .slice xo c.args.length xc, .int .i64 c.bound, .slice ro c.rows.length rc]) ∧
    (∀ S : List Nat, (∀ b ∈ S, X b ∨ w'.heap.size ≤ b) → ConV S w' (.agg #[.int .i64 c.kind, .slice vo c.vars.length vc, .slice xo c.args.length xc, .int .i64 c.bound, .slice ro c.rows.length rc]) c) ∧
    c.Small ∧ 1 ≤ c.vars.length ∧ Rd w' R bs q ∧ Gr [R] w w'
theorem conPostX_mk {X : Nat → Prop} {R : Nat} {bs : List Int} {q : Nat} {w w' : World} {k b : Int} {vars args : List Int} {rows : List (List Int)} {vo xo ro : Option Addr} {vc xc rc h1 h2 h3 : Nat}
    (f1 : FrX X h1 w' (.slice vo vars.length vc) vars) (f2 : FrX X h2 w' (.slice xo args.length xc) args) (f3 : FrRX X h3 w' (.slice ro rows.length rc) rows)
    (hh : h1 ≤ w'.heap.size ∧ h2 ≤ w'.heap.size ∧ h3 ≤ w'.heap.size) (ht : Con.Small ⟨k, vars, args, b, rows⟩) (hv : 1 ≤ vars.length) (hr : Rd w' R bs q) (hg : Gr [R] w w') :
    ConPostX X R bs q w (.returned (.agg #[.int .i64 k, .slice vo vars.length vc, .slice xo args.length xc, .int .i64 b, .slice ro rows.length rc])) w' :=
  ⟨⟨k, vars, args, b, rows⟩, vo, vc, xo, xc, ro, rc, rfl, fun S hS => ⟨_, _, _, rfl, f1 S fun b hb' => (hS b hb').imp id (by omega), f2 S fun b hb' => (hS b hb').imp id (by omega), f3 S fun b hb' => (hS b hb').imp id (by omega)⟩, ht, hv, hr, hg⟩
theorem fr_of_con {X : Nat → Prop} {w : World} {c : Con} {vv av rv : Value} (h : ∀ S : List Nat, (∀ b ∈ S, X b ∨ w.heap.size ≤ b) → ConV S w (.agg #[.int .i64 c.kind, vv, av, .int .i64 c.bound, rv]) c) :
    FrX X w.heap.size w vv c.vars ∧ FrX X w.heap.size w av c.args ∧ FrRX X w.heap.size w rv c.rows := by
  refine ⟨fun S hS => ?_, fun S hS => ?_, fun S hS => ?_⟩ <;>
  · obtain ⟨vv', av', rv', e, h1, h2, h3⟩ := h S hS
    simp only [Value.agg.injEq] at e
    have e3 := congrArg (fun a => a[1]?) e
    have e4 := congrArg (fun a => a[2]?) e
    have e5 := congrArg (fun a => a[4]?) e
    simp only [List.getElem?_toArray, List.getElem?_cons_succ, List.getElem?_cons_zero, Option.some.injEq] at e3 e4 e5
    subst e3 e4 e5
    assumption

set_option maxRecDepth 100000 in
set_option maxHeartbeats 2000000 in
theorem damage_c (X : Nat → Prop) (R : Nat) (bs : List Int) (q : Nat) (c : Con) (vo : Option Addr) (vc : Nat) (xo : Option Addr) (xc : Nat) (ro : Option Addr) (rc : Nat) (w : World) (hr : Rd w R bs q) (hq : q ≤ 100000000)
    (hc : ∀ S : List Nat, (∀ b ∈ S, X b ∨ w.heap.size ≤ b) → ConV S w (.agg #[.int .i64 c.kind, .slice vo c.vars.length vc, .slice xo c.args.length xc, .int .i64 c.bound, .slice ro c.rows.length rc]) c)
    (ht : Tiny c) (hv1 : 1 ≤ c.vars.length) (hRX : X R) (hX : ∀ b, X b → b < w.heap.size) :
    Calls Tryz.prog 69 #[.pointer (some ⟨R, 0, none⟩), .agg #[.int .i64 c.kind, .slice vo c.vars.length vc, .slice xo c.args.length xc, .int .i64 c.bound, .slice ro c.rows.length rc]] w (ConPostX X R bs (q + 2) w) := by
  obtain ⟨f1, f2, f3⟩ := fr_of_con hc
  have hg0 : Gr [] w ((w.alloc (.cells #[.int .i64 c.kind, .slice vo c.vars.length vc, .slice xo c.args.length xc, .int .i64 c.bound, .slice ro c.rows.length rc] 26)).alloc (.cells #[.int .i64 0, .slice none 0 0, .slice none 0 0, .int .i64 0, .slice none 0 0] 26)) := ((Gr.refl _ _).alloc _).alloc _
  have hb0 : ((w.alloc (.cells #[.int .i64 c.kind, .slice vo c.vars.length vc, .slice xo c.args.length xc, .int .i64 c.bound, .slice ro c.rows.length rc] 26)).alloc (.cells #[.int .i64 0, .slice none 0 0, .slice none 0 0, .int .i64 0, .slice none 0 0] 26)).heap[w.heap.size]? = some (.cells #[.int .i64 c.kind, .slice vo c.vars.length vc, .slice xo c.args.length xc, .int .i64 c.bound, .slice ro c.rows.length rc] 26 (0, 0)) := (heap_alloc_old _ _ (by simp)).trans (heap_alloc_new _ _)
  have hr0 : ((w.alloc (.cells #[.int .i64 c.kind, .slice vo c.vars.length vc, .slice xo c.args.length xc, .int .i64 c.bound, .slice ro c.rows.length rc] 26)).alloc (.cells #[.int .i64 0, .slice none 0 0, .slice none 0 0, .int .i64 0, .slice none 0 0] 26)).heap[w.heap.size + 1]? = some (.cells #[.int .i64 0, .slice none 0 0, .slice none 0 0, .int .i64 0, .slice none 0 0] 26 (0, 0)) := by
    have := heap_alloc_new (w.alloc (.cells #[.int .i64 c.kind, .slice vo c.vars.length vc, .slice xo c.args.length xc, .int .i64 c.bound, .slice ro c.rows.length rc] 26)) (.cells #[.int .i64 0, .slice none 0 0, .slice none 0 0, .int .i64 0, .slice none 0 0] 26)
    rwa [World.size_alloc] at this
  have Hg0 := hid hg0; have Hb0 := hid hb0; have Hr0 := hid hr0; have Hr := hid hr; have F1 := hid f1; have F2 := hid f2; have F3 := hid f3; have Ht := hid ht
  have hRw := hr.lt
  have hv100 := ht.vars; have ha100 := ht.args; have hr100 := ht.rows
  clear hg0 hb0 hr0 hr f1 f2 f3 hc ht
  go_enter Tryz.func69, Tryz.ntmps69
  go_wp2_with fail
  have hcall := pick_c R bs q 5 _ (Hr.out.gr Hg0.out) (by omega) (by omega)
  (with_reducible refine hcall.mono ?_)
  clear hcall
  rintro e w1 ⟨⟨r1, rfl, hr10, hr1n⟩, hrd1, hg1⟩
  have hb1 := hg1.obj Hb0.out (by simp; omega)
  have hr1 := hg1.obj Hr0.out (by simp; omega)
  have HG1 : Hid (Gr [R] w w1) := hid (Hg0.out.any.trans hg1)
  have hs1 := hg1.size
  simp at hs1
  have Hb1 := hid hb1; have Hr1 := hid hr1; have Hrd1 := hid hrd1
  have hlt1 := lt_of_block hb1
  have fl1 := fld hb1
  have ff1 := fldF hb1
  have F11 := hid (F1.out.grR HG1.out hRX); have F21 := hid (F2.out.grR HG1.out hRX); have F31 := hid (F3.out.grR HG1.out hRX)
  have HRB : Hid (∀ W, Gr [R, w.heap.size] w1 W → W.heap[w.heap.size + 1]? = some (.cells #[.int .i64 0, .slice none 0 0, .slice none 0 0, .int .i64 0, .slice none 0 0] 26 (0, 0))) := hid fun W h => h.obj Hr1.out (by simp; omega)
  clear hb1 hr1 hg1 hrd1
  have h5 : r1 = 0 ∨ r1 = 1 ∨ r1 = 2 ∨ r1 = 3 ∨ r1 = 4 := by omega
  rcases h5 with rfl | rfl | rfl | rfl | rfl
  · go_wp2_with fail
    (refine (one_c R bs (q + 1) _ [0, 10, 1, 5] _ (Hrd1.out.gr ((Gr.refl _ _).alloc _)) (nums_new _ _ _ (by simp <;> omega)) (by omega) (by simp) (by simp)).mono ?_)
    rintro e w6 ⟨⟨r6, rfl, hr6⟩, hrd6, hg6⟩
    have HS6 := hid (Gr.trans (a := w1) ((Gr.refl [R] _).alloc _) hg6)
    have HSC6 : Hid (Gr [R] w1 w6) := HS6
    have HL6 : Hid (Gr [R, w.heap.size] w1 w6) := hid (HSC6.out.sub (by intro k _ h; simp at h ⊢; exact .inl h))
    have Hb6 := hid (HSC6.out.obj Hb1.out (by simp; omega)); have fl6 := fld Hb6.out; have ff6 := fldF Hb6.out; have hlt6 := lt_of_block Hb6.out
    have Hrd6 := hid hrd6
    have hs6 := HSC6.out.size
    clear hr6 hrd6 hg6
    go_wp2_with ((with_reducible show wpList _ _ _ (⟨none, Op.store _ (Operand.tmp 4) (Operand.tmp 44), _, _, _, none⟩ :: _) _ _); refine wp_storeT 26 4 44 (w.heap.size + 1) #[.int .i64 r6, .slice vo c.vars.length vc, .slice xo c.args.length xc, .int .i64 c.bound, .slice ro c.rows.length rc] 26 #[.int .i64 0, .slice none 0 0, .slice none 0 0, .int .i64 0, .slice none 0 0] (HRB.out _ ?_) ⟨sizeC, rfl, rfl, rfl, one5 _ _ _ _ _ _ _ _ _ _ _⟩ ?_; (repeat (first | exact HL6.out | refine Gr.alloc ?_ _ | refine Gr.drew ?_ | refine Gr.setCell ?_ _ _ (.inl (by simp)))); intro wE hbE hgE)
    have flE := fld hbE
    refine bodyPost_ret (v := .agg #[.int .i64 r6, .slice vo c.vars.length vc, .slice xo c.args.length xc, .int .i64 c.bound, .slice ro c.rows.length rc]) ?_ rfl ?_
    · simp [results, Tryz.results69, go_sem, flE]
    · have hE : Gr [w.heap.size, w.heap.size + 1] w6 wE := Gr.trans (b := _) (by (repeat (first | exact (Gr.refl [w.heap.size, w.heap.size + 1] w6) | refine Gr.alloc ?_ _ | refine Gr.drew ?_ | refine Gr.setCell ?_ _ _ (.inl (by simp))))) (hgE.sub (by intro k _ h; simp at h ⊢; omega))
      have hsE := hE.size
      have hsL := (HL6.out).size
      have hrE := Rd.grS Hrd6.out hE (by simp; omega)
      have hgwE : Gr [R] w wE := (HG1.out.step (HL6.out) (fun i hi => by simp at hi; rcases hi with h | h; exact .inl (by simp [h]); exact .inr (by omega))).step hE (fun i hi => .inr (by simp at hi; omega))
      exact conPostX_mk (vars := c.vars) (args := c.args) (rows := c.rows) ((F11.out.grR HSC6.out hRX).gr hE (fun b hb => .inr (by simp at hb; omega))) ((F21.out.grR HSC6.out hRX).gr hE (fun b hb => .inr (by simp at hb; omega))) ((F31.out.grR HSC6.out hRX).gr hE (fun b hb => .inr (by simp at hb; omega))) (by omega) ⟨by simp <;> omega, by simp <;> omega, by simp <;> omega, fun r hr => by have := Ht.out.row r hr; omega⟩ hv1 (hrE.le (by omega)) hgwE
  · obtain ⟨x0, hx0⟩ := get_some (xs := c.vars) (k := 0) (by omega)
    obtain ⟨bv, ov, rfl, _, hcv⟩ := (F11.out [] (by simp)).at hx0
    rw [Nat.add_zero] at hcv
    have hv0 : 0 < c.vars.length := by omega
    have Hcv := hid hcv
    have hlv := World.block_lt_of_cell? _ _ hcv
    dsimp only at hlv
    clear hx0
    go_wp2_with fail
    go_region_law (first | (go_simp; go_at_call 79; refine (copyInts_c _ c.vars _ ((F11.out [] (by simp)).gr ((Gr.refl [] _).drew)) (by omega)).mono ?_; rintro e w6 ⟨v6, rfl, hown6, hg6⟩; have HS6 := hid (Gr.trans (a := w1) ((Gr.refl [] _).drew) hg6); have HG6 := hid hg6; have hcv6 := HS6.out.cell Hcv.out (by simp); have hlv6 := World.block_lt_of_cell? _ _ hcv6; dsimp only at hlv6; obtain ⟨xo6, xc6, rfl⟩ := hown6.c.form; have Hown6 := hid hown6; have Hb6 := hid (HS6.out.obj Hb1.out (by simp)); have fl6 := fld Hb6.out; have ff6 := fldF Hb6.out; have hlt6 := lt_of_block Hb6.out; have hs6 := HS6.out.size; clear hown6 hg6) | (go_simp; go_at_call 79; refine (copyInts_c _ c.vars _ ((F11.out [] (by simp)).gr (((Gr.refl [] _).drew).alloc _)) (by omega)).mono ?_; rintro e w6 ⟨v6, rfl, hown6, hg6⟩; have HS6 := hid (Gr.trans (a := w1) (((Gr.refl [] _).drew).alloc _) hg6); have HG6 := hid hg6; have hcv6 := HS6.out.cell Hcv.out (by simp); have hlv6 := World.block_lt_of_cell? _ _ hcv6; dsimp only at hlv6; obtain ⟨xo6, xc6, rfl⟩ := hown6.c.form; have Hown6 := hid hown6; have Hb6 := hid (HS6.out.obj Hb1.out (by simp)); have fl6 := fld Hb6.out; have ff6 := fldF Hb6.out; have hlt6 := lt_of_block Hb6.out; have hs6 := HS6.out.size; clear hown6 hg6) | (go_simp; go_at_call 79; refine (copyInts_c _ c.vars _ ((F11.out [] (by simp)).gr (((Gr.refl [] _).alloc _).drew)) (by omega)).mono ?_; rintro e w6 ⟨v6, rfl, hown6, hg6⟩; have HS6 := hid (Gr.trans (a := w1) (((Gr.refl [] _).alloc _).drew) hg6); have HG6 := hid hg6; have hcv6 := HS6.out.cell Hcv.out (by simp); have hlv6 := World.block_lt_of_cell? _ _ hcv6; dsimp only at hlv6; obtain ⟨xo6, xc6, rfl⟩ := hown6.c.form; have Hown6 := hid hown6; have Hb6 := hid (HS6.out.obj Hb1.out (by simp)); have fl6 := fld Hb6.out; have ff6 := fldF Hb6.out; have hlt6 := lt_of_block Hb6.out; have hs6 := HS6.out.size; clear hown6 hg6) | (refine step_app1 rfl _ _ 23 rfl w1.heap.size 3 infoInt Tryz.underlying23 (.slice xo6 c.vars.length xc6) c.vars rfl ((Hown6.out).alloc _) w6.heap.size 1 x0 rfl (cell_new _ _ _) (by omega) (by simp <;> omega) ?_; intro g7 c7 w7 hown7 hbl7; have HN7 : Hid (Gr [] w1 w7) := ((HS6.out.alloc _).low hbl7 (Nat.le_refl _)); have HO7 := hid (hown7.le (B' := w1.heap.size) (by first | exact Nat.le_refl _ | exact Nat.le_succ _)); have Hb7 := hid (HN7.out.obj Hb1.out (by simp)); have fl7 := fld Hb7.out; have ff7 := fldF Hb7.out; clear hown7 hbl7) | (refine step_app1 rfl _ _ 23 rfl (w1.heap.size + 1) 3 infoInt Tryz.underlying23 (.slice xo6 c.vars.length xc6) c.vars rfl (Hown6.out.le (by simp)) w1.heap.size 1 x0 rfl (HG6.out.cell (cell_new _ _ _) (by simp)) (by omega) (by have := HG6.out.size; simp at this; omega) ?_; intro g7 c7 w7 hown7 hbl7; have HN7 : Hid (Gr [] w1 w7) := (HS6.out.low hbl7 (Nat.le_succ _)); have HO7 := hid (hown7.le (B' := w1.heap.size) (by first | exact Nat.le_refl _ | exact Nat.le_succ _)); have Hb7 := hid (HN7.out.obj Hb1.out (by simp)); have fl7 := fld Hb7.out; have ff7 := fldF Hb7.out; clear hown7 hbl7))
    all_goals
      have HL7 : Hid (Gr [R, w.heap.size] w1 w7) := hid HN7.out.any
      have Hrd7 := hid (Hrd1.out.gr HN7.out)
      have hs7 := HN7.out.size
      go_wp2_with ((with_reducible show wpList _ _ _ (⟨none, Op.store _ (Operand.tmp 4) (Operand.tmp 44), _, _, _, none⟩ :: _) _ _); refine wp_storeT 26 4 44 (w.heap.size + 1) #[.int .i64 c.kind, .slice (some ⟨g7, 0, none⟩) (c.vars.length + 1) c7, .slice xo c.args.length xc, .int .i64 c.bound, .slice ro c.rows.length rc] 26 #[.int .i64 0, .slice none 0 0, .slice none 0 0, .int .i64 0, .slice none 0 0] (HRB.out _ ?_) ⟨sizeC, rfl, rfl, rfl, one5 _ _ _ _ _ _ _ _ _ _ _⟩ ?_; (repeat (first | exact HL7.out | refine Gr.alloc ?_ _ | refine Gr.drew ?_ | refine Gr.setCell ?_ _ _ (.inl (by simp)))); intro wE hbE hgE)
      have flE := fld hbE
      refine bodyPost_ret (v := .agg #[.int .i64 c.kind, .slice (some ⟨g7, 0, none⟩) (c.vars.length + 1) c7, .slice xo c.args.length xc, .int .i64 c.bound, .slice ro c.rows.length rc]) ?_ rfl ?_
      · simp [results, Tryz.results69, go_sem, flE]
      · have hE : Gr [w.heap.size, w.heap.size + 1] w7 wE := Gr.trans (b := _) (by (repeat (first | exact (Gr.refl [w.heap.size, w.heap.size + 1] w7) | refine Gr.alloc ?_ _ | refine Gr.drew ?_ | refine Gr.setCell ?_ _ _ (.inl (by simp))))) (hgE.sub (by intro k _ h; simp at h ⊢; omega))
        have hsE := hE.size
        have hsL := (HL7.out).size
        have hrE := Rd.grS Hrd7.out hE (by simp; omega)
        have hgwE : Gr [R] w wE := (HG1.out.step (HL7.out) (fun i hi => by simp at hi; rcases hi with h | h; exact .inl (by simp [h]); exact .inr (by omega))).step hE (fun i hi => .inr (by simp at hi; omega))
        have e : c.vars.length + 1 = (c.vars ++ [x0]).length := by simp
        rw [e]
        rw [e] at HO7
        exact conPostX_mk (vars := (c.vars ++ [x0])) (args := c.args) (rows := c.rows) (((HO7.out.c.fr).gr hE (by simp <;> omega)).x (fun b hb => by have := hX b hb; omega)) ((F21.out.gr HN7.out (by simp)).gr hE (fun b hb => .inr (by simp at hb; omega))) ((F31.out.gr HN7.out (by simp)).gr hE (fun b hb => .inr (by simp at hb; omega))) (by omega) ⟨by simp <;> omega, by simp <;> omega, by simp <;> omega, fun r hr => by have := Ht.out.row r hr; omega⟩ (by simp) (hrE.le (by omega)) hgwE
  · go_wp2_with fail
    (refine (copyInts_c _ c.args _ ((F21.out [] (by simp)).gr ((Gr.refl [] _))) (by omega)).mono ?_)
    rintro e w6 ⟨v6, rfl, hown6, hg6⟩
    have HS6 : Hid (Gr [] w1 w6) := hid hg6
    obtain ⟨xo6, xc6, rfl⟩ := hown6.c.form
    have Hown6 := hid hown6
    have Hb6 := hid (HS6.out.obj Hb1.out (by simp))
    have fl6 := fld Hb6.out
    have ff6 := fldF Hb6.out
    have hlt6 := lt_of_block Hb6.out
    have hs6 := HS6.out.size
    clear hown6 hg6
    go_wp2_with (first | (at_builtin; refine wp_app1 rfl _ _ 23 rfl w1.heap.size 3 infoInt Tryz.underlying23 (.slice xo6 c.args.length xc6) c.args rfl ((Hown6.out).alloc _) w6.heap.size 1 1 rfl (cell_new _ _ _) (by omega) (by simp <;> omega) ?_; intro v7 w7 hown7 hbl7; obtain ⟨xo7, xc7, rfl⟩ := hown7.c.form; rw [List.length_append, List.length_singleton]; have HN7 : Hid (Gr [] w1 w7) := ((HS6.out.alloc _).low hbl7 (Nat.le_refl _)); have HO7 := hid (hown7.le (B' := w1.heap.size) (by first | exact Nat.le_refl _ | exact Nat.le_succ _)); have Hb7 := hid (HN7.out.obj Hb1.out (by simp)); have fl7 := fld Hb7.out; have ff7 := fldF Hb7.out; clear hown7 hbl7) | ((with_reducible show wpList _ _ _ (⟨none, Op.store _ (Operand.tmp 4) (Operand.tmp 44), _, _, _, none⟩ :: _) _ _); refine wp_storeT 26 4 44 (w.heap.size + 1) #[.int .i64 c.kind, .slice vo c.vars.length vc, .slice xo7 (c.args.length + 1) xc7, .int .i64 c.bound, .slice ro c.rows.length rc] 26 #[.int .i64 0, .slice none 0 0, .slice none 0 0, .int .i64 0, .slice none 0 0] (HRB.out _ ?_) ⟨sizeC, rfl, rfl, rfl, one5 _ _ _ _ _ _ _ _ _ _ _⟩ ?_; (repeat (first | exact HN7.out.any | refine Gr.alloc ?_ _ | refine Gr.drew ?_ | refine Gr.setCell ?_ _ _ (.inl (by simp)))); intro wE hbE hgE))
    have HL7 : Hid (Gr [R, w.heap.size] w1 w7) := hid HN7.out.any
    have Hrd7 := hid (Hrd1.out.gr HN7.out)
    have hs7 := HN7.out.size
    have flE := fld hbE
    refine bodyPost_ret (v := .agg #[.int .i64 c.kind, .slice vo c.vars.length vc, .slice xo7 (c.args.length + 1) xc7, .int .i64 c.bound, .slice ro c.rows.length rc]) ?_ rfl ?_
    · simp [results, Tryz.results69, go_sem, flE]
    · have hE : Gr [w.heap.size, w.heap.size + 1] w7 wE := Gr.trans (b := _) (by (repeat (first | exact (Gr.refl [w.heap.size, w.heap.size + 1] w7) | refine Gr.alloc ?_ _ | refine Gr.drew ?_ | refine Gr.setCell ?_ _ _ (.inl (by simp))))) (hgE.sub (by intro k _ h; simp at h ⊢; omega))
      have hsE := hE.size
      have hsL := (HL7.out).size
      have hrE := Rd.grS Hrd7.out hE (by simp; omega)
      have hgwE : Gr [R] w wE := (HG1.out.step (HL7.out) (fun i hi => by simp at hi; rcases hi with h | h; exact .inl (by simp [h]); exact .inr (by omega))).step hE (fun i hi => .inr (by simp at hi; omega))
      have e : c.args.length + 1 = (c.args ++ [1]).length := by simp
      rw [e]
      exact conPostX_mk (vars := c.vars) (args := (c.args ++ [1])) (rows := c.rows) ((F11.out.gr HN7.out (by simp)).gr hE (fun b hb => .inr (by simp at hb; omega))) (((HO7.out.c.fr).gr hE (by simp <;> omega)).x (fun b hb => by have := hX b hb; omega)) ((F31.out.gr HN7.out (by simp)).gr hE (fun b hb => .inr (by simp at hb; omega))) (by omega) ⟨by simp <;> omega, by simp <;> omega, by simp <;> omega, fun r hr => by have := Ht.out.row r hr; omega⟩ hv1 (hrE.le (by omega)) hgwE
  · go_wp2_with fail
    (refine (one_c R bs (q + 1) _ [-1000, 1000, 5] _ (Hrd1.out.gr ((Gr.refl _ _).alloc _)) (nums_new _ _ _ (by simp <;> omega)) (by omega) (by simp) (by simp)).mono ?_)
    rintro e w6 ⟨⟨r6, rfl, hr6⟩, hrd6, hg6⟩
    have HS6 := hid (Gr.trans (a := w1) ((Gr.refl [R] _).alloc _) hg6)
    have HSC6 : Hid (Gr [R] w1 w6) := HS6
    have HL6 : Hid (Gr [R, w.heap.size] w1 w6) := hid (HSC6.out.sub (by intro k _ h; simp at h ⊢; exact .inl h))
    have Hb6 := hid (HSC6.out.obj Hb1.out (by simp; omega)); have fl6 := fld Hb6.out; have ff6 := fldF Hb6.out; have hlt6 := lt_of_block Hb6.out
    have Hrd6 := hid hrd6
    have hs6 := HSC6.out.size
    clear hr6 hrd6 hg6
    go_wp2_with ((with_reducible show wpList _ _ _ (⟨none, Op.store _ (Operand.tmp 4) (Operand.tmp 44), _, _, _, none⟩ :: _) _ _); refine wp_storeT 26 4 44 (w.heap.size + 1) #[.int .i64 c.kind, .slice vo c.vars.length vc, .slice xo c.args.length xc, .int .i64 r6, .slice ro c.rows.length rc] 26 #[.int .i64 0, .slice none 0 0, .slice none 0 0, .int .i64 0, .slice none 0 0] (HRB.out _ ?_) ⟨sizeC, rfl, rfl, rfl, one5 _ _ _ _ _ _ _ _ _ _ _⟩ ?_; (repeat (first | exact HL6.out | refine Gr.alloc ?_ _ | refine Gr.drew ?_ | refine Gr.setCell ?_ _ _ (.inl (by simp)))); intro wE hbE hgE)
    have flE := fld hbE
    refine bodyPost_ret (v := .agg #[.int .i64 c.kind, .slice vo c.vars.length vc, .slice xo c.args.length xc, .int .i64 r6, .slice ro c.rows.length rc]) ?_ rfl ?_
    · simp [results, Tryz.results69, go_sem, flE]
    · have hE : Gr [w.heap.size, w.heap.size + 1] w6 wE := Gr.trans (b := _) (by (repeat (first | exact (Gr.refl [w.heap.size, w.heap.size + 1] w6) | refine Gr.alloc ?_ _ | refine Gr.drew ?_ | refine Gr.setCell ?_ _ _ (.inl (by simp))))) (hgE.sub (by intro k _ h; simp at h ⊢; omega))
      have hsE := hE.size
      have hsL := (HL6.out).size
      have hrE := Rd.grS Hrd6.out hE (by simp; omega)
      have hgwE : Gr [R] w wE := (HG1.out.step (HL6.out) (fun i hi => by simp at hi; rcases hi with h | h; exact .inl (by simp [h]); exact .inr (by omega))).step hE (fun i hi => .inr (by simp at hi; omega))
      exact conPostX_mk (vars := c.vars) (args := c.args) (rows := c.rows) ((F11.out.grR HSC6.out hRX).gr hE (fun b hb => .inr (by simp at hb; omega))) ((F21.out.grR HSC6.out hRX).gr hE (fun b hb => .inr (by simp at hb; omega))) ((F31.out.grR HSC6.out hRX).gr hE (fun b hb => .inr (by simp at hb; omega))) (by omega) ⟨by simp <;> omega, by simp <;> omega, by simp <;> omega, fun r hr => by have := Ht.out.row r hr; omega⟩ hv1 (hrE.le (by omega)) hgwE
  · go_wp2_with fail
    (refine (one_c R bs (q + 1) _ [-1, 4] _ (Hrd1.out.gr ((Gr.refl _ _).alloc _)) (nums_new _ _ _ (by simp <;> omega)) (by omega) (by simp) (by simp)).mono ?_)
    rintro e w6 ⟨⟨r6, rfl, hr6⟩, hrd6, hg6⟩
    have HS6 := hid (Gr.trans (a := w1) ((Gr.refl [R] _).alloc _) hg6)
    have HSC6 : Hid (Gr [R] w1 w6) := HS6
    have HL6 : Hid (Gr [R, w.heap.size] w1 w6) := hid (HSC6.out.sub (by intro k _ h; simp at h ⊢; exact .inl h))
    have Hb6 := hid (HSC6.out.obj Hb1.out (by simp; omega)); have fl6 := fld Hb6.out; have ff6 := fldF Hb6.out; have hlt6 := lt_of_block Hb6.out
    have Hrd6 := hid hrd6
    have hs6 := HSC6.out.size
    clear hr6 hrd6 hg6
    go_wp2_with ((with_reducible show wpList _ _ _ (⟨none, Op.store _ (Operand.tmp 4) (Operand.tmp 44), _, _, _, none⟩ :: _) _ _); refine wp_storeT 26 4 44 (w.heap.size + 1) #[.int .i64 c.kind, .slice (some ⟨w6.heap.size, 0, none⟩) 1 1, .slice xo c.args.length xc, .int .i64 c.bound, .slice ro c.rows.length rc] 26 #[.int .i64 0, .slice none 0 0, .slice none 0 0, .int .i64 0, .slice none 0 0] (HRB.out _ ?_) ⟨sizeC, rfl, rfl, rfl, one5 _ _ _ _ _ _ _ _ _ _ _⟩ ?_; (repeat (first | exact HL6.out | refine Gr.alloc ?_ _ | refine Gr.drew ?_ | refine Gr.setCell ?_ _ _ (.inl (by simp)))); intro wE hbE hgE)
    have flE := fld hbE
    refine bodyPost_ret (v := .agg #[.int .i64 c.kind, .slice (some ⟨w6.heap.size, 0, none⟩) 1 1, .slice xo c.args.length xc, .int .i64 c.bound, .slice ro c.rows.length rc]) ?_ rfl ?_
    · simp [results, Tryz.results69, go_sem, flE]
    · have hE : Gr [w.heap.size, w.heap.size + 1] w6 wE := Gr.trans (b := _) (by (repeat (first | exact (Gr.refl [w.heap.size, w.heap.size + 1] w6) | refine Gr.alloc ?_ _ | refine Gr.drew ?_ | refine Gr.setCell ?_ _ _ (.inl (by simp))))) (hgE.sub (by intro k _ h; simp at h ⊢; omega))
      have hsE := hE.size
      have hsL := (HL6.out).size
      have hrE := Rd.grS Hrd6.out hE (by simp; omega)
      have hgwE : Gr [R] w wE := (HG1.out.step (HL6.out) (fun i hi => by simp at hi; rcases hi with h | h; exact .inl (by simp [h]); exact .inr (by omega))).step hE (fun i hi => .inr (by simp at hi; omega))
      have hA : wE.heap[w6.heap.size]? = some (.cells #[.int .i64 r6] 3 (0, 0)) := hgE.obj (alloc_at _ _ _ (by simp)) (by simp <;> omega)
      have hltE := lt_of_block hA
      exact conPostX_mk (vars := [r6]) (args := c.args) (rows := c.rows) ((frI_new (xs := [r6]) hA (by simp)).x (fun b hb => by have := hX b hb; omega)) ((F21.out.grR HSC6.out hRX).gr hE (fun b hb => .inr (by simp at hb; omega))) ((F31.out.grR HSC6.out hRX).gr hE (fun b hb => .inr (by simp at hb; omega))) (by omega) ⟨by simp <;> omega, by simp <;> omega, by simp <;> omega, fun r hr => by have := Ht.out.row r hr; omega⟩ (by simp) (hrE.le (by omega)) hgwE
--end damage
end Go.Proofs.YtmonhpoogfdpoaaGreat

set_option linter.unusedVariables false
namespace Go.Proofs.YtmonhpoogfdpoaaGreat
open Go.RowKit

end Go.Proofs.YtmonhpoogfdpoaaGreat

set_option linter.unusedVariables false
namespace Go.Proofs.YtmonhpoogfdpoaaGreat
open Go.RowKit

end Go.Proofs.YtmonhpoogfdpoaaGreat

set_option linter.unusedVariables false
namespace Go.Proofs.YtmonhpoogfdpoaaGreat
open Go.RowKit

end Go.Proofs.YtmonhpoogfdpoaaGreat
