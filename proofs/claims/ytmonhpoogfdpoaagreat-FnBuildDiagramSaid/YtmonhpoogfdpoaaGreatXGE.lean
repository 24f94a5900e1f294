/-
  Walks of the generators of a constraint and domains.
-/
import Derived.Test.YtmonhpoogfdpoaaGreatXG8
import Derived.Test.YtmonhpoogfdpoaaGreatXTu
set_option linter.unusedVariables false
set_option linter.unusedSimpArgs false
namespace Go.Proofs.YtmonhpoogfdpoaaGreat
open Go.RowKit


theorem anyDomain_c (R : Nat) (bs : List Int) (q : Nat) (w : World) (hr : Rd w R bs q) (hq : q ≤ 1000000) :
    Calls Tryz.prog 36 #[.pointer (some ⟨R, 0, none⟩)] w fun e w' => (∃ d : Int, e = .returned (.int .i64 d) ∧ (-1 ≤ d ∧ d ≤ 255)) ∧ Rd w' R bs (q + 4) ∧ Gr [R] w w' := by
  have Hr := hid hr
  have hRl := hr.lt
  clear hr
  go_enter Tryz.func36, Tryz.ntmps36
  go_wp2_with fail
  have hcall := pick_c R bs q 10 _ Hr.out (by omega) (by omega)
  (with_reducible refine hcall.mono ?_)
  clear hcall
  rintro e w1 ⟨⟨r, rfl, hr0, hrn⟩, hrd1, hg1⟩
  have Hrd1 := hid hrd1; have Hg1 := hid hg1
  have hs1 := hg1.size
  clear hrd1 hg1
  cases hz : (r == 0)
  · go_wp2_with fail
    have hcall := randomDomain_c R bs (q + 1) _ Hrd1.out (by omega)
    (with_reducible refine hcall.mono ?_)
    clear hcall
    rintro e w2 ⟨⟨d, rfl, hd⟩, hrd2, hg2⟩
    go_wp2_with fail
    go_ret
    exact ⟨⟨d, rfl, by omega⟩, hrd2.le (by omega), Hg1.out.trans hg2⟩
  · go_wp2_with fail
    refine (one_c R bs (q + 1) _ [0, -1, 64, 255] _ (Hrd1.out.gr ((Gr.refl _ _).alloc _)) (nums_new _ _ _ (by simp; omega)) (by omega) (by simp) (by simp)).mono ?_
    rintro e w2 ⟨⟨d, rfl, hd⟩, hrd2, hg2⟩
    have hd' : -1 ≤ d ∧ d ≤ 255 := by simp at hd; omega
    clear hd
    go_wp2_with fail
    go_ret
    exact ⟨⟨d, rfl, hd'⟩, hrd2.le (by omega), (Hg1.out.alloc _).trans hg2⟩

def AnyCon (R : Nat) (bs : List Int) (q : Nat) (w : World) (e : Ending) (w' : World) : Prop :=
  ∃ (c : Con) (vo : Option Addr) (vc : Nat) (xo : Option Addr) (xc : Nat) (ro : Option Addr) (rc : Nat),
    e = .returned (.agg #[.int .i64 c.kind, .slice vo c.vars.length vc, .slice xo c.args.length xc, .int .i64 c.bound, .slice ro c.rows.length rc]) ∧
    (∀ S : List Nat, (∀ b ∈ S, b < w.heap.size ∨ w'.heap.size ≤ b) → ConV S w' (.agg #[.int .i64 c.kind, .slice vo c.vars.length vc, .slice xo c.args.length xc, .int .i64 c.bound, .slice ro c.rows.length rc]) c) ∧
    c.Small ∧ 1 ≤ c.vars.length ∧ Rd w' R bs q ∧ Gr [R] w w'


set_option maxRecDepth 100000 in
set_option maxHeartbeats 1000000 in
theorem anyConstraint_c (R : Nat) (bs : List Int) (q n : Nat) (w : World) (hr : Rd w R bs q) (hq : q ≤ 1000000) (hn1 : 1 ≤ n) (hn4 : n ≤ 4) :
    Calls Tryz.prog 37 #[.pointer (some ⟨R, 0, none⟩), .int .i64 n] w (AnyCon R bs (q + 203) w) := by
  have Hr := hid hr
  have hRl := hr.lt
  have hg0 : Gr [] w (w.alloc (.cells #[.int .i64 0, .slice none 0 0, .slice none 0 0, .int .i64 0, .slice none 0 0] 26)) := (Gr.refl _ _).alloc _
  have hb0 : (w.alloc (.cells #[.int .i64 0, .slice none 0 0, .slice none 0 0, .int .i64 0, .slice none 0 0] 26)).heap[w.heap.size]? = some (.cells #[.int .i64 0, .slice none 0 0, .slice none 0 0, .int .i64 0, .slice none 0 0] 26 (0, 0)) := heap_alloc_new _ _
  have Hg0 := hid hg0; have Hb0 := hid hb0
  clear hr hg0 hb0
  go_enter Tryz.func37, Tryz.ntmps37
  go_wp2_with fail
  have hcall := randomConstraint_c R bs q n _ (Hr.out.gr Hg0.out) (by omega) hn1 hn4
  (with_reducible refine hcall.mono ?_)
  clear hcall
  rintro e w1 ⟨c, vo, vc, xo, xc, ro, rc, rfl, hcon, ht, hv1, hrd1, hg1⟩
  rw [World.size_alloc] at hcon
  have hb1 := hg1.obj Hb0.out (by simp; omega)
  have hg01 : Gr [R] w w1 := Hg0.out.any.trans hg1
  have hs1 := lt_of_block hb1
  have hX : (w1.alloc (.cells #[.int .i64 c.kind, .slice vo c.vars.length vc, .slice xo c.args.length xc, .int .i64 c.bound, .slice ro c.rows.length rc] 26)).heap[w1.heap.size]? = some (.cells #[.int .i64 c.kind, .slice vo c.vars.length vc, .slice xo c.args.length xc, .int .i64 c.bound, .slice ro c.rows.length rc] 26 (0, 0)) := heap_alloc_new _ _
  have ha2 : Gr [] w1 (w1.alloc (.cells #[.int .i64 c.kind, .slice vo c.vars.length vc, .slice xo c.args.length xc, .int .i64 c.bound, .slice ro c.rows.length rc] 26)) := (Gr.refl _ _).alloc _
  have hs2 : w1.heap.size < (w1.alloc (.cells #[.int .i64 c.kind, .slice vo c.vars.length vc, .slice xo c.args.length xc, .int .i64 c.bound, .slice ro c.rows.length rc] 26)).heap.size := by simp
  have Hcon := hid hcon; have Ht := hid ht; have Hv1 := hid hv1
  have HB2 := hid (ha2.obj hb1 (by simp)); have Hrd2 := hid (hrd1.gr ha2); have HG2 := hid (hg01.trans ha2.any); have HX2 := hid hX; have Ha2 := hid ha2
  clear hcon ht hv1 hrd1 hg1 hb1 hg01 hX ha2
  go_wp2_with fail
  generalize hW2 : w1.alloc (.cells #[.int .i64 c.kind, .slice vo c.vars.length vc, .slice xo c.args.length xc, .int .i64 c.bound, .slice ro c.rows.length rc] 26) = w2 at *
  clear hW2
  have hcall := pick_c R bs (q + 200) 10 _ Hrd2.out (by omega) (by omega)
  (with_reducible refine hcall.mono ?_)
  clear hcall
  rintro e w3 ⟨⟨r, rfl, hr0, hrn⟩, hrd3, hg3⟩
  have hs3 := hg3.size
  have hX3 := hg3.obj HX2.out (by simp; omega)
  have hB3 := hg3.obj HB2.out (by simp; omega)
  have fX := fld hX3
  have Hrd3 := hid hrd3; have HG3 := hid (HG2.out.trans hg3); have HB3 := hid hB3
  have HC3 : Hid (∀ S : List Nat, (∀ b ∈ S, b < w.heap.size + 1 ∨ w3.heap.size ≤ b) → ConV S w3 (.agg #[.int .i64 c.kind, .slice vo c.vars.length vc, .slice xo c.args.length xc, .int .i64 c.bound, .slice ro c.rows.length rc]) c) := hid fun S hS =>
    (((Hcon.out (R :: S) (by intro b hb; rcases List.mem_cons.1 hb with rfl | hb; exact .inl (by omega); exact (hS b hb).imp id (by omega))).gr Ha2.out.any).gr (hg3.sub fun k _ h => by simp at h; simp [h])).sub fun b _ hb => by simp [hb]
  clear hrd3 hg3 hX3 hB3 hrn
  cases hz : (r == 0)
  · have fB := fld HB3.out; have ffB := fldF HB3.out
    go_wp2_with fail
    have hbE := block_cells (cur' := #[]) (block_cells (cur' := #[]) (block_cells (cur' := #[]) (block_cells (cur' := #[]) (block_cells (cur' := #[]) HB3.out 0 (.int .i64 c.kind)) 1 (.slice vo c.vars.length vc)) 2 (.slice xo c.args.length xc)) 3 (.int .i64 c.bound)) 4 (.slice ro c.rows.length rc)
    have flE := fld hbE
    have hgE : Gr [w.heap.size] w3 (((((w3.setCell ⟨w.heap.size, 0, none⟩ (.int .i64 c.kind)).setCell ⟨w.heap.size, 1, none⟩ (.slice vo c.vars.length vc)).setCell ⟨w.heap.size, 2, none⟩ (.slice xo c.args.length xc)).setCell ⟨w.heap.size, 3, none⟩ (.int .i64 c.bound)).setCell ⟨w.heap.size, 4, none⟩ (.slice ro c.rows.length rc)) :=
      (((((Gr.refl _ _).setCell _ _ (.inl (by simp))).setCell _ _ (.inl (by simp))).setCell _ _ (.inl (by simp))).setCell _ _ (.inl (by simp))).setCell _ _ (.inl (by simp))
    refine bodyPost_ret (v := .agg #[.int .i64 c.kind, .slice vo c.vars.length vc, .slice xo c.args.length xc, .int .i64 c.bound, .slice ro c.rows.length rc]) ?_ rfl ?_
    · simp [results, Tryz.results37, go_sem, flE]
    · have hsE := hgE.size
      exact ⟨c, vo, vc, xo, xc, ro, rc, rfl, fun S hS => ((HC3.out (w.heap.size :: S) (by intro b hb; rcases List.mem_cons.1 hb with rfl | hb; exact .inl (by omega); exact (hS b hb).imp (by omega) (by omega))).gr (hgE.sub fun k _ h => by simp at h; simp [h])).sub fun b _ hb => by simp [hb],
        Ht.out.small, Hv1.out, (Hrd3.out.grS hgE (by simp; omega)).le (by omega), HG3.out.step hgE (fun i hi => .inr (by simp at hi; omega))⟩
  · go_wp2_with fail
    have hcall := damage_c (fun b => b < w.heap.size + 1) R bs (q + 200 + 1) c vo vc xo xc ro rc w3 Hrd3.out (by omega) HC3.out Ht.out Hv1.out (by omega) (fun b hb => by omega)
    (with_reducible refine hcall.mono ?_)
    clear hcall
    rintro e w4 ⟨c4, vo4, vc4, xo4, xc4, ro4, rc4, rfl, hcon4, ht4, hv4, hrd4, hg4⟩
    have hs4 := hg4.size
    have hB4 := hg4.obj HB3.out (by simp; omega)
    have Hcon4 := hid hcon4; have Ht4 := hid ht4; have Hv4 := hid hv4; have Hrd4 := hid hrd4; have HG4 := hid (HG3.out.trans hg4); have HB4 := hid hB4
    have fB := fld hB4; have ffB := fldF hB4
    clear hcon4 ht4 hv4 hrd4 hg4 hB4 fX
    go_wp2_with fail
    have hbE := block_cells (cur' := #[]) (block_cells (cur' := #[]) (block_cells (cur' := #[]) (block_cells (cur' := #[]) (block_cells (cur' := #[]) HB4.out 0 (.int .i64 c4.kind)) 1 (.slice vo4 c4.vars.length vc4)) 2 (.slice xo4 c4.args.length xc4)) 3 (.int .i64 c4.bound)) 4 (.slice ro4 c4.rows.length rc4)
    have flE := fld hbE
    have hgE : Gr [w.heap.size] w4 (((((w4.setCell ⟨w.heap.size, 0, none⟩ (.int .i64 c4.kind)).setCell ⟨w.heap.size, 1, none⟩ (.slice vo4 c4.vars.length vc4)).setCell ⟨w.heap.size, 2, none⟩ (.slice xo4 c4.args.length xc4)).setCell ⟨w.heap.size, 3, none⟩ (.int .i64 c4.bound)).setCell ⟨w.heap.size, 4, none⟩ (.slice ro4 c4.rows.length rc4)) :=
      (((((Gr.refl _ _).setCell _ _ (.inl (by simp))).setCell _ _ (.inl (by simp))).setCell _ _ (.inl (by simp))).setCell _ _ (.inl (by simp))).setCell _ _ (.inl (by simp))
    refine bodyPost_ret (v := .agg #[.int .i64 c4.kind, .slice vo4 c4.vars.length vc4, .slice xo4 c4.args.length xc4, .int .i64 c4.bound, .slice ro4 c4.rows.length rc4]) ?_ rfl ?_
    · simp [results, Tryz.results37, go_sem, flE]
    · have hsE := hgE.size
      exact ⟨c4, vo4, vc4, xo4, xc4, ro4, rc4, rfl, fun S hS => ((Hcon4.out (w.heap.size :: S) (by intro b hb; rcases List.mem_cons.1 hb with rfl | hb; exact .inl (by omega); exact (hS b hb).imp (by omega) (by omega))).gr (hgE.sub fun k _ h => by simp at h; simp [h])).sub fun b _ hb => by simp [hb],
        Ht4.out, Hv4.out, (Hrd4.out.grS hgE (by simp; omega)).le (by omega), HG4.out.step hgE (fun i hi => .inr (by simp at hi; omega))⟩

/-- A constraint and domains, the domains in a block of their own. -/
def ConDoms (R : Nat) (bs : List Int) (q : Nat) (w : World) (e : Ending) (w' : World) : Prop :=
  ∃ (c : Con) (vo : Option Addr) (vc : Nat) (xo : Option Addr) (xc : Nat) (ro : Option Addr) (rc : Nat) (ds : List Int) (g dc : Nat),
    e = .returned (.tuple #[.agg #[.int .i64 c.kind, .slice vo c.vars.length vc, .slice xo c.args.length xc, .int .i64 c.bound, .slice ro c.rows.length rc], .slice (some ⟨g, 0, none⟩) ds.length dc]) ∧
    (∀ S : List Nat, (∀ b ∈ S, b < w.heap.size ∨ b = g ∨ w'.heap.size ≤ b) → ConV S w' (.agg #[.int .i64 c.kind, .slice vo c.vars.length vc, .slice xo c.args.length xc, .int .i64 c.bound, .slice ro c.rows.length rc]) c) ∧
    Own w.heap.size w' 3 (.slice (some ⟨g, 0, none⟩) ds.length dc) ds ∧ (1 ≤ ds.length ∧ ds.length ≤ 4) ∧
    c.Small ∧ 1 ≤ c.vars.length ∧ Rd w' R bs q ∧ Gr [R] w w'


set_option maxRecDepth 100000 in
set_option maxHeartbeats 1000000 in
theorem constraintAndDomains_c (R : Nat) (bs : List Int) (q : Nat) (w : World) (hr : Rd w R bs q) (hq : q ≤ 100000) :
    Calls Tryz.prog 14 #[.pointer (some ⟨R, 0, none⟩)] w (ConDoms R bs (q + 300) w) := by
  have Hr := hid hr
  have hRl := hr.lt
  have hg0 : Gr [] w (w.alloc (.cells #[.int .i64 0, .slice none 0 0, .slice none 0 0, .int .i64 0, .slice none 0 0] 26)) := (Gr.refl _ _).alloc _
  have hb0 : (w.alloc (.cells #[.int .i64 0, .slice none 0 0, .slice none 0 0, .int .i64 0, .slice none 0 0] 26)).heap[w.heap.size]? = some (.cells #[.int .i64 0, .slice none 0 0, .slice none 0 0, .int .i64 0, .slice none 0 0] 26 (0, 0)) := heap_alloc_new _ _
  have Hg0 := hid hg0; have Hb0 := hid hb0
  clear hr hg0 hb0
  go_enter Tryz.func14, Tryz.ntmps14
  go_wp2_with fail
  have hcall := pick_c R bs q 4 _ (Hr.out.gr Hg0.out) (by omega) (by omega)
  (with_reducible refine hcall.mono ?_)
  clear hcall
  rintro e w1 ⟨⟨r, rfl, hr0, hrn⟩, hrd1, hg1⟩
  obtain ⟨r, rfl⟩ := Int.eq_ofNat_of_zero_le hr0
  have hr4 : r < 4 := by omega
  have hb1 := hg1.obj Hb0.out (by simp; omega)
  have hs1 := lt_of_block hb1
  have ha1 : Gr [] w1 (w1.alloc (.cells #[] 3)) := (Gr.refl _ _).alloc _
  have HO1 : Hid (Own w1.heap.size (w1.alloc (.cells #[] 3)) 3 (.slice (some ⟨w1.heap.size, 0, none⟩) 0 0) []) := hid (Own.empty _ _ (by omega))
  have HB1 := hid hb1; have HG1 := hid (Hg0.out.any.trans hg1); have Hrd1 := hid (hrd1.gr ha1); have HA1 := hid ha1
  clear hrd1 hg1 hb1 ha1
  go_wp2_with fail
  obtain ⟨N, hk1, hN1, hN4⟩ : ∃ N : Nat, ((1 : Int) + (r : Int)) = (N : Int) ∧ 1 ≤ N ∧ N ≤ 4 := ⟨1 + r, by omega, by omega, by omega⟩
  rw [hk1]
  clear hk1
  go_loopw [5, 6] (fun v i wr => ∃ (n : Nat) (ds : List Int), n ≤ N ∧ i = .int .i64 n ∧ ds.length = n ∧ Own w1.heap.size wr 3 v ds ∧ Rd wr R bs (q + 1 + 3 * n) ∧ Gr [R] w1 wr) (fun _ i _ => N - (intOf i).toNat)
  case atStart => exact ⟨0, [], by omega, rfl, rfl, HO1.out, Hrd1.out, HA1.out.any⟩
  case round =>
  obtain ⟨n, ds, hn, rfl, hdl, hown, hrd, hg⟩ := hrel
  have hsr := hg.size
  have Hdl := hid hdl; have Hown := hid hown; have Hrd := hid hrd; have Hg := hid hg
  clear hdl hown hrd hg
  by_cases hlt : n < N
  · go_wp2_with fail
    have hcall := randomDomain_c R bs (q + 1 + 3 * n) _ Hrd.out (by omega)
    (with_reducible refine hcall.mono ?_)
    clear hcall
    rintro e w3 ⟨⟨d, rfl, hd⟩, hrd3, hg3⟩
    have hs3 := hg3.size
    have hown3 := Hown.out.gr hg3 (by simp; omega)
    have Hown3 := hid hown3; have Hrd3 := hid hrd3; have Hg3 := hid (Hg.out.trans hg3)
    clear hown3 hrd3 hg3
    go_wp2_with (at_builtin; refine wp_app1 rfl _ _ 23 rfl w1.heap.size 3 infoInt Tryz.underlying23 _ ds rfl (Hown3.out.alloc _) _ 1 d rfl (cell_new _ _ _) (by have := Hdl.out; omega) (by simp; omega) ?_; intro v' w4 hown4 hb4)
    refine ⟨⟨n + 1, ds ++ [d], by omega, by go_num, by rw [List.length_append, Hdl.out]; rfl, hown4, ?_, ?_⟩, by simp [intOf]; omega⟩
    · exact ((Hrd3.out.gr ((Gr.refl _ _).alloc _)).low hb4 (by omega)).le (by omega)
    · exact (Hg3.out.alloc _).low hb4 (by omega)
  have hnr : n = N := by omega
  have Hnr := hid hnr
  clear hnr
  obtain ⟨g, dc, rfl, ⟨hgB, hgl⟩, -, -⟩ := Hown.out.open (by have := Hdl.out; have := Hnr.out; omega)
  have HBr := hid (Hg.out.obj HB1.out (by simp; omega))
  have hd4 : ds.length ≤ 4 := by have := Hdl.out; have := Hnr.out; omega
  have hd1 : 1 ≤ ds.length := by have := Hdl.out; have := Hnr.out; omega
  have HGr := hid (HG1.out.trans Hg.out)
  go_wp2_with fail
  have hcall := pick_c R bs (q + 1 + 3 * n) 14 _ Hrd.out (by omega) (by omega)
  (with_reducible refine hcall.mono ?_)
  clear hcall
  rintro e w5 ⟨⟨r5, rfl, hr50, hr5n⟩, hrd5, hg5⟩
  have hs5 := hg5.size
  have Hown5 := hid (Hown.out.gr hg5 (by simp; omega)); have Hrd5 := hid hrd5; have HG5 := hid (HGr.out.trans hg5); have HB5 := hid (hg5.obj HBr.out (by simp; omega))
  clear hrd5 hg5 hr50 hr5n
  cases hz : (r5 == 0)
  · go_wp2_with fail
    have hcall := anyConstraint_c R bs (q + 1 + 3 * n + 1) N _ Hrd5.out (by omega) (by omega) (by omega)
    (with_reducible refine hcall.mono ?_)
    clear hcall
    rintro e w6 ⟨c, vo, vc, xo, xc, ro, rc, rfl, hcon, hsm, hv1, hrd6, hg6⟩
    have hs6 := hg6.size
    have hB6 := hg6.obj HB5.out (by simp; omega)
    have Hcon := hid hcon; have Hsm := hid hsm; have Hv1 := hid hv1; have Hrd6 := hid hrd6; have HG6 := hid (HG5.out.trans hg6); have HB6 := hid hB6; have Hown6 := hid (Hown5.out.gr hg6 (by simp; omega))
    have fB := fld hB6; have ffB := fldF hB6
    clear hcon hsm hv1 hrd6 hg6 hB6
    go_wp2_with fail
    have hbE := block_cells (cur' := #[]) (block_cells (cur' := #[]) (block_cells (cur' := #[]) (block_cells (cur' := #[]) (block_cells (cur' := #[]) HB6.out 0 (.int .i64 c.kind)) 1 (.slice vo c.vars.length vc)) 2 (.slice xo c.args.length xc)) 3 (.int .i64 c.bound)) 4 (.slice ro c.rows.length rc)
    have flE := fld hbE
    have hgE : Gr [w.heap.size] w6 (((((w6.setCell ⟨w.heap.size, 0, none⟩ (.int .i64 c.kind)).setCell ⟨w.heap.size, 1, none⟩ (.slice vo c.vars.length vc)).setCell ⟨w.heap.size, 2, none⟩ (.slice xo c.args.length xc)).setCell ⟨w.heap.size, 3, none⟩ (.int .i64 c.bound)).setCell ⟨w.heap.size, 4, none⟩ (.slice ro c.rows.length rc)) :=
      (((((Gr.refl _ _).setCell _ _ (.inl (by simp))).setCell _ _ (.inl (by simp))).setCell _ _ (.inl (by simp))).setCell _ _ (.inl (by simp))).setCell _ _ (.inl (by simp))
    refine bodyPost_ret (v := .tuple #[.agg #[.int .i64 c.kind, .slice vo c.vars.length vc, .slice xo c.args.length xc, .int .i64 c.bound, .slice ro c.rows.length rc], .slice (some ⟨g, 0, none⟩) ds.length dc]) ?_ rfl ?_
    · simp [results, Tryz.results14, go_sem, flE]
    · have hsE := hgE.size
      refine ⟨c, vo, vc, xo, xc, ro, rc, ds, g, dc, rfl, fun S hS => ((Hcon.out (w.heap.size :: S) (by intro b hb; rcases List.mem_cons.1 hb with rfl | hb; exact .inl (by omega); rcases hS b hb with h | h | h; exact .inl (by omega); exact .inl (by omega); exact .inr (by omega))).gr (hgE.sub fun k _ h => by simp at h; simp [h])).sub fun b _ hb => by simp [hb],
        (Hown6.out.gr hgE (by simp; omega)).le (by omega), ⟨hd1, hd4⟩, Hsm.out, Hv1.out, (Hrd6.out.grS hgE (by simp; omega)).le (by omega), HG6.out.step hgE (fun i hi => .inr (by simp at hi; omega))⟩
  · go_wp2_with fail
    have hcall := anyDomain_c R bs (q + 1 + 3 * n + 1) _ Hrd5.out (by omega)
    (with_reducible refine hcall.mono ?_)
    clear hcall
    rintro e w7 ⟨⟨d0, rfl, hd0⟩, hrd7, hg7⟩
    have hs7 := hg7.size
    have hown7 := Hown5.out.gr hg7 (by simp; omega)
    obtain ⟨y, hy⟩ := get_some (xs := ds) (k := 0) (by omega)
    obtain ⟨hc1, hc2⟩ := hown7.at hy
    have hset := hown7.set 0 d0 (by omega)
    have Hset := hid hset; have Hrd7 := hid hrd7; have HG7 := hid (HG5.out.trans hg7); have HB7 := hid (hg7.obj HB5.out (by simp; omega))
    clear hrd7 hg7 hown7 hy hset hd0
    go_wp2_with fail
    have hgs : Gr [g] w7 (w7.setCell ⟨g, 0, none⟩ (.int .i64 d0)) := (Gr.refl _ _).setCell _ _ (.inl (by simp))
    have hrd8 := Hrd7.out.grS hgs (by simp; omega)
    have HB8 := hid (hgs.obj HB7.out (by simp; omega)); have HG8 := hid (HG7.out.step hgs (fun i hi => .inr (by simp at hi; omega)))
    have hs8 := hgs.size
    generalize hW8 : w7.setCell ⟨g, 0, none⟩ (.int .i64 d0) = w8 at *
    clear hW8
    have hcall := anyConstraint_c R bs (q + 1 + 3 * n + 1 + 4) N _ hrd8 (by omega) (by omega) (by omega)
    (with_reducible refine hcall.mono ?_)
    clear hcall
    rintro e w6 ⟨c, vo, vc, xo, xc, ro, rc, rfl, hcon, hsm, hv1, hrd6, hg6⟩
    have hs6 := hg6.size
    have hB6 := hg6.obj HB8.out (by simp; omega)
    have Hcon := hid hcon; have Hsm := hid hsm; have Hv1 := hid hv1; have Hrd6 := hid hrd6; have HG6 := hid (HG8.out.trans hg6); have HB6 := hid hB6; have Hown6 := hid (Hset.out.gr hg6 (by simp; omega))
    have fB := fld hB6; have ffB := fldF hB6
    clear hcon hsm hv1 hrd6 hg6 hB6 hc1 hc2 hrd8
    go_wp2_with fail
    have hbE := block_cells (cur' := #[]) (block_cells (cur' := #[]) (block_cells (cur' := #[]) (block_cells (cur' := #[]) (block_cells (cur' := #[]) HB6.out 0 (.int .i64 c.kind)) 1 (.slice vo c.vars.length vc)) 2 (.slice xo c.args.length xc)) 3 (.int .i64 c.bound)) 4 (.slice ro c.rows.length rc)
    have flE := fld hbE
    have hgE : Gr [w.heap.size] w6 (((((w6.setCell ⟨w.heap.size, 0, none⟩ (.int .i64 c.kind)).setCell ⟨w.heap.size, 1, none⟩ (.slice vo c.vars.length vc)).setCell ⟨w.heap.size, 2, none⟩ (.slice xo c.args.length xc)).setCell ⟨w.heap.size, 3, none⟩ (.int .i64 c.bound)).setCell ⟨w.heap.size, 4, none⟩ (.slice ro c.rows.length rc)) :=
      (((((Gr.refl _ _).setCell _ _ (.inl (by simp))).setCell _ _ (.inl (by simp))).setCell _ _ (.inl (by simp))).setCell _ _ (.inl (by simp))).setCell _ _ (.inl (by simp))
    refine bodyPost_ret (v := .tuple #[.agg #[.int .i64 c.kind, .slice vo c.vars.length vc, .slice xo c.args.length xc, .int .i64 c.bound, .slice ro c.rows.length rc], .slice (some ⟨g, 0, none⟩) ds.length dc]) ?_ rfl ?_
    · simp [results, Tryz.results14, go_sem, flE]
    · have hsE := hgE.size
      have el : (ds.set 0 d0).length = ds.length := by rw [List.length_set]
      refine ⟨c, vo, vc, xo, xc, ro, rc, ds.set 0 d0, g, dc, by rw [el], fun S hS => ((Hcon.out (w.heap.size :: S) (by intro b hb; rcases List.mem_cons.1 hb with rfl | hb; exact .inl (by omega); rcases hS b hb with h | h | h; exact .inl (by omega); exact .inl (by omega); exact .inr (by omega))).gr (hgE.sub fun k _ h => by simp at h; simp [h])).sub fun b _ hb => by simp [hb],
        by rw [el]; exact (Hown6.out.gr hgE (by simp; omega)).le (by omega), by rw [el]; exact ⟨hd1, hd4⟩, Hsm.out, Hv1.out, (Hrd6.out.grS hgE (by simp; omega)).le (by omega), HG6.out.step hgE (fun i hi => .inr (by simp at hi; omega))⟩

end Go.Proofs.YtmonhpoogfdpoaaGreat
