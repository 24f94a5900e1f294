/-
  Walk of the generator of FnIsEntailed's inputs.
-/
import Derived.Test.YtngpcoilgilmjaaGE
import Derived.Test.YtngpcoilgilmjaaEO
set_option linter.unusedVariables false
set_option linter.unusedSimpArgs false
namespace Go.Proofs.Ytngpcoilgilmjaa
open Go.RowKit


set_option maxRecDepth 100000 in
set_option maxHeartbeats 2000000 in
theorem DrawIsEntailed_c (v : Value) (bs : List Int) (w : World) (ao : Option Addr) (cap : Nat) (hv : v = .slice ao bs.length cap) (hlen : bs.length ≤ 9223372036854775807) (hcap : bs.length ≤ cap) (hc : Cells [] w .u8 ao bs) (hb : ∀ b ∈ bs, 0 ≤ b ∧ b ≤ 255) :
    Calls Try.prog 8 #[v] w fun e w' => ∃ (c : Con) (cv dv : Value) (ds : List Int), e = .returned (.tuple #[cv, dv]) ∧ ConV [] w' cv c ∧ Nums [] w' .i64 dv ds ∧ c.Small ∧ (1 ≤ ds.length ∧ ds.length ≤ 4) ∧ Gr [] w w' := by
  subst hv
  have Hc := hid hc; have Hb := hid hb; clear hc hb
  have hg0 : Gr [] w (w.alloc (.cells #[.int .i64 0, .slice none 0 0, .slice none 0 0, .int .i64 0, .slice none 0 0] 26)) := (Gr.refl _ _).alloc _
  have hb0 : (w.alloc (.cells #[.int .i64 0, .slice none 0 0, .slice none 0 0, .int .i64 0, .slice none 0 0] 26)).heap[w.heap.size]? = some (.cells #[.int .i64 0, .slice none 0 0, .slice none 0 0, .int .i64 0, .slice none 0 0] 26 (0, 0)) := heap_alloc_new _ _
  have Hg0 := hid hg0; have Hb0 := hid hb0
  clear hg0 hb0
  go_enter Try.func8, Try.ntmps8
  go_wp2_with fail
  have hcall := newReader_c _ bs _ ao cap rfl hlen hcap (Hc.out.gr Hg0.out) Hb.out
  (with_reducible refine hcall.mono ?_)
  clear hcall
  rintro e w1 ⟨⟨R, cs, rfl, hR, hrd1⟩, hg1⟩
  simp only [World.size_alloc] at hR
  have hRl1 := hrd1.lt
  go_wp2_with fail
  have hcall := constraintAndDomains_c R cs 0 _ hrd1 (by omega)
  (with_reducible refine hcall.mono ?_)
  clear hcall
  rintro e w2 ⟨c, vo, vc, xo, xc, ro, rc, ds, g, dc, rfl, hcon, hown, ⟨hd1, hd4⟩, hsm, hv1, hrd2, hg2⟩
  have hb2 := hg2.obj (hg1.obj Hb0.out (by simp)) (by simp; omega)
  have hs12 := hg2.size
  have hR2 := hrd2.lt
  obtain ⟨g', dc', e1, ⟨hgB, hgl⟩, -, -⟩ := hown.open (by omega)
  have e2 : g = g' := by simp at e1; exact e1.1
  subst e2
  clear e1
  have hwl : w.heap.size < w1.heap.size := lt_of_block (hg1.obj Hb0.out (by simp))
  have ha3 : Gr [] w2 (w2.alloc (.cells #[.int .i64 c.kind, .slice vo c.vars.length vc, .slice xo c.args.length xc, .int .i64 c.bound, .slice ro c.rows.length rc] 26)) := (Gr.refl _ _).alloc _
  have hx3 : (w2.alloc (.cells #[.int .i64 c.kind, .slice vo c.vars.length vc, .slice xo c.args.length xc, .int .i64 c.bound, .slice ro c.rows.length rc] 26)).heap[w2.heap.size]? = some (.cells #[.int .i64 c.kind, .slice vo c.vars.length vc, .slice xo c.args.length xc, .int .i64 c.bound, .slice ro c.rows.length rc] 26 (0, 0)) := heap_alloc_new _ _
  have hs3 : w2.heap.size < (w2.alloc (.cells #[.int .i64 c.kind, .slice vo c.vars.length vc, .slice xo c.args.length xc, .int .i64 c.bound, .slice ro c.rows.length rc] 26)).heap.size := by simp
  have Hsm := hid hsm
  have HC3 : Hid (∀ S : List Nat, (∀ b ∈ S, b = w.heap.size ∨ b = R ∨ b = g) → ConV S (w2.alloc (.cells #[.int .i64 c.kind, .slice vo c.vars.length vc, .slice xo c.args.length xc, .int .i64 c.bound, .slice ro c.rows.length rc] 26)) (.agg #[.int .i64 c.kind, .slice vo c.vars.length vc, .slice xo c.args.length xc, .int .i64 c.bound, .slice ro c.rows.length rc]) c) := hid fun S hS =>
    (hcon S (fun b hb => by rcases hS b hb with rfl | rfl | rfl; exact .inl (by omega); exact .inl (by omega); exact .inr (.inl rfl))).gr ha3.any
  have HB3 := hid (ha3.obj hb2 (by simp)); have HX3 := hid hx3; have Hrd3 := hid (hrd2.gr ha3); have Hown3 := hid (hown.gr ha3 (by simp))
  have HG3 := hid (((Hg0.out.trans hg1).step hg2 (fun i hi => .inr (by simp at hi; omega))).trans ha3)
  have fx3 := fld hx3
  clear hcon hsm hb2 hg1 hg2 hrd1 hrd2 hown ha3 hx3 hv1
  go_wp2_with fail
  generalize hW3 : w2.alloc (.cells #[.int .i64 c.kind, .slice vo c.vars.length vc, .slice xo c.args.length xc, .int .i64 c.bound, .slice ro c.rows.length rc] 26) = w3 at *
  clear hW3
  -- the end, from any world that has grown out of w3
  have Hend : Hid (∀ (W : World) (es : List Int), es.length = ds.length → Gr [R, g] w3 W → Own w1.heap.size W 3 (.slice (some ⟨g, 0, none⟩) ds.length dc) es →
      ConV [] (((((W.setCell ⟨w.heap.size, 0, none⟩ (.int .i64 c.kind)).setCell ⟨w.heap.size, 1, none⟩ (.slice vo c.vars.length vc)).setCell ⟨w.heap.size, 2, none⟩ (.slice xo c.args.length xc)).setCell ⟨w.heap.size, 3, none⟩ (.int .i64 c.bound)).setCell ⟨w.heap.size, 4, none⟩ (.slice ro c.rows.length rc)) (.agg #[.int .i64 c.kind, .slice vo c.vars.length vc, .slice xo c.args.length xc, .int .i64 c.bound, .slice ro c.rows.length rc]) c ∧
      Nums [] (((((W.setCell ⟨w.heap.size, 0, none⟩ (.int .i64 c.kind)).setCell ⟨w.heap.size, 1, none⟩ (.slice vo c.vars.length vc)).setCell ⟨w.heap.size, 2, none⟩ (.slice xo c.args.length xc)).setCell ⟨w.heap.size, 3, none⟩ (.int .i64 c.bound)).setCell ⟨w.heap.size, 4, none⟩ (.slice ro c.rows.length rc)) .i64 (.slice (some ⟨g, 0, none⟩) ds.length dc) es ∧
      Gr [] w (((((W.setCell ⟨w.heap.size, 0, none⟩ (.int .i64 c.kind)).setCell ⟨w.heap.size, 1, none⟩ (.slice vo c.vars.length vc)).setCell ⟨w.heap.size, 2, none⟩ (.slice xo c.args.length xc)).setCell ⟨w.heap.size, 3, none⟩ (.int .i64 c.bound)).setCell ⟨w.heap.size, 4, none⟩ (.slice ro c.rows.length rc))) := hid fun W es hes hg hown => by
    have hgE : Gr [w.heap.size] W (((((W.setCell ⟨w.heap.size, 0, none⟩ (.int .i64 c.kind)).setCell ⟨w.heap.size, 1, none⟩ (.slice vo c.vars.length vc)).setCell ⟨w.heap.size, 2, none⟩ (.slice xo c.args.length xc)).setCell ⟨w.heap.size, 3, none⟩ (.int .i64 c.bound)).setCell ⟨w.heap.size, 4, none⟩ (.slice ro c.rows.length rc)) :=
      (((((Gr.refl _ _).setCell _ _ (.inl (by simp))).setCell _ _ (.inl (by simp))).setCell _ _ (.inl (by simp))).setCell _ _ (.inl (by simp))).setCell _ _ (.inl (by simp))
    have hgA : Gr [w.heap.size, R, g] w3 _ := (hg.sub (S' := [w.heap.size, R, g]) (fun k _ h => by simp at h ⊢; exact .inr h)).trans (hgE.sub (S' := [w.heap.size, R, g]) (fun k _ h => by simp at h ⊢; exact .inl h))
    exact ⟨((HC3.out [w.heap.size, R, g] (by simp)).gr hgA).sub (by simp), (hown.gr hgE (by simp; omega)).nums (by simp), HG3.out.step hgA (fun i hi => .inr (by simp at hi; omega))⟩
  have hcall := validDomains_c ds _ _ (Hown3.out.nums (S := []) (by simp))
  (with_reducible refine hcall.mono ?_)
  clear hcall
  rintro e w4 ⟨rfl, hg4⟩
  have HG34 := hid hg4
  have fx4 := fld (hg4.obj HX3.out (by simp)); have hB4 := hg4.obj HB3.out (by simp)
  have HB4 := hid hB4
  clear fx3 hg4 hB4
  cases hdk : domsOk ds
  · have fB := fld HB4.out; have ffB := fldF HB4.out
    go_wp2_with fail
    have hbE := block_cells (cur' := #[]) (block_cells (cur' := #[]) (block_cells (cur' := #[]) (block_cells (cur' := #[]) (block_cells (cur' := #[]) HB4.out 0 (.int .i64 c.kind)) 1 (.slice vo c.vars.length vc)) 2 (.slice xo c.args.length xc)) 3 (.int .i64 c.bound)) 4 (.slice ro c.rows.length rc)
    have flE := fld hbE
    refine bodyPost_ret (v := .tuple #[.agg #[.int .i64 c.kind, .slice vo c.vars.length vc, .slice xo c.args.length xc, .int .i64 c.bound, .slice ro c.rows.length rc], .slice (some ⟨g, 0, none⟩) ds.length dc]) ?_ rfl ?_
    · simp [results, Try.results8, go_sem, flE]
    · obtain ⟨h1, h2, h3⟩ := Hend.out w4 ds rfl HG34.out.any (Hown3.out.gr HG34.out (by simp))
      exact ⟨c, _, _, ds, rfl, h1, h2, Hsm.out, ⟨hd1, hd4⟩, h3⟩
  have hdo := hdk
  unfold domsOk at hdo
  rw [Bool.and_eq_true] at hdo
  obtain ⟨D, hDi, hD64⟩ := ints_below (allB_iff.1 hdo.2)
  have hDl : ds.length = D.length := by rw [hDi, ints_len]
  have HDi := hid hDi; have HD64 := hid hD64; have HDl := hid hDl
  clear hdo hDi hD64 hDl
  go_wp2_with fail
  have hcall := specValidConstraint_c c (ds.length : Int) _ _ ((HC3.out [] (by simp)).gr HG34.out) Hsm.out.vars (by omega)
  (with_reducible refine hcall.mono ?_)
  clear hcall
  have e2 : validConS c (ds.length : Int) = validCon c (ds.length : Int) := by unfold validCon; rw [inB_iff.2 (by omega)]; rfl
  rw [e2]
  clear e2
  rintro e w5 ⟨rfl, hg5⟩
  have HG35 := hid (HG34.out.trans hg5)
  have fx5 := fld (HG35.out.obj HX3.out (by simp)); have HB5 := hid (HG35.out.obj HB3.out (by simp))
  clear fx4 hg5
  cases hvc : validCon c (ds.length : Int)
  · have fB := fld HB5.out; have ffB := fldF HB5.out
    go_wp2_with fail
    have hbE := block_cells (cur' := #[]) (block_cells (cur' := #[]) (block_cells (cur' := #[]) (block_cells (cur' := #[]) (block_cells (cur' := #[]) HB5.out 0 (.int .i64 c.kind)) 1 (.slice vo c.vars.length vc)) 2 (.slice xo c.args.length xc)) 3 (.int .i64 c.bound)) 4 (.slice ro c.rows.length rc)
    have flE := fld hbE
    refine bodyPost_ret (v := .tuple #[.agg #[.int .i64 c.kind, .slice vo c.vars.length vc, .slice xo c.args.length xc, .int .i64 c.bound, .slice ro c.rows.length rc], .slice (some ⟨g, 0, none⟩) ds.length dc]) ?_ rfl ?_
    · simp [results, Try.results8, go_sem, flE]
    · obtain ⟨h1, h2, h3⟩ := Hend.out w5 ds rfl HG35.out.any (Hown3.out.gr HG35.out (by simp))
      exact ⟨c, _, _, ds, rfl, h1, h2, Hsm.out, ⟨hd1, hd4⟩, h3⟩
  have HVC : Hid (VC c D.length) := hid (validCon_iff.1 (by rw [← HDl.out]; exact hvc))
  go_wp2_with fail
  have hcall := pick_c R cs (0 + 300) 2 _ (Hrd3.out.gr HG35.out) (by omega) (by omega)
  (with_reducible refine hcall.mono ?_)
  clear hcall
  rintro e w6 ⟨⟨r6, rfl, hr60, hr6n⟩, hrd6, hg6⟩
  have HG36 : Hid (Gr [R] w3 w6) := hid (HG35.out.any.trans hg6)
  have hRw : w.heap.size ≠ R := by omega
  have hgRn : g ≠ R := by omega
  have fx6 := fld (HG36.out.obj HX3.out (by simp; omega)); have HB6 := hid (HG36.out.obj HB3.out (by simp; omega)); have Hrd6 := hid hrd6
  have Hown6 := hid (Hown3.out.gr HG36.out (by simp; omega))
  have HC6 := hid (((HC3.out [R] (by simp)).gr HG36.out).sub (S' := []) (by simp))
  clear fx5 hg6 hrd6
  cases hz : (r6 == 0)
  · have fB := fld HB6.out; have ffB := fldF HB6.out
    go_wp2_with fail
    have hbE := block_cells (cur' := #[]) (block_cells (cur' := #[]) (block_cells (cur' := #[]) (block_cells (cur' := #[]) (block_cells (cur' := #[]) HB6.out 0 (.int .i64 c.kind)) 1 (.slice vo c.vars.length vc)) 2 (.slice xo c.args.length xc)) 3 (.int .i64 c.bound)) 4 (.slice ro c.rows.length rc)
    have flE := fld hbE
    refine bodyPost_ret (v := .tuple #[.agg #[.int .i64 c.kind, .slice vo c.vars.length vc, .slice xo c.args.length xc, .int .i64 c.bound, .slice ro c.rows.length rc], .slice (some ⟨g, 0, none⟩) ds.length dc]) ?_ rfl ?_
    · simp [results, Try.results8, go_sem, flE]
    · obtain ⟨h1, h2, h3⟩ := Hend.out w6 ds rfl (HG36.out.sub (fun k _ h => by simp at h ⊢; exact .inl h)) Hown6.out
      exact ⟨c, _, _, ds, rfl, h1, h2, Hsm.out, ⟨hd1, hd4⟩, h3⟩
  have HN6 : Hid (Nums [] w6 .i64 (.slice (some ⟨g, 0, none⟩) ds.length dc) (ints D)) := hid (by rw [← HDi.out]; exact Hown6.out.nums (by simp))
  go_wp2_with fail
  have hcall := specTuples_c c D _ _ _ HC6.out HN6.out HVC.out HD64.out
  (with_reducible refine hcall.mono ?_)
  clear hcall
  rintro e w7 ⟨v7, rfl, hF7, hg7⟩
  obtain ⟨rows, hrows⟩ : ∃ rows, rows = (tups (wordN c.vars D)).filter (satB c) := ⟨_, rfl⟩
  rw [← hrows] at hF7
  have Hrows : Hid (∀ x ∈ rows, x.length = c.vars.length ∧ ∀ y ∈ x, 0 ≤ y ∧ y ≤ 5) := hid fun x hx => by
    rw [hrows] at hx
    have := (List.mem_filter.1 hx).1
    exact ⟨by rw [tups_len this, wordN_len], tups_val this⟩
  have hrl : rows.length ≤ 1000000 := by
    have h1 : rows.length ≤ (tups (wordN c.vars D)).length := by rw [hrows]; exact List.length_filter_le _ _
    have h2 := tups_length (wordN c.vars D)
    have h3 : 6 ^ (wordN c.vars D).length ≤ 6 ^ 4 := Nat.pow_le_pow_right (by omega) (by rw [wordN_len]; have := HVC.out.k; have := HVC.out.n4; omega)
    omega
  obtain ⟨fo, fc, rfl, hfc1, hfc2, _⟩ := hF7.slice
  have HG37 : Hid (Gr [R] w3 w7) := hid (HG36.out.trans hg7.any)
  have fx7 := fld (HG37.out.obj HX3.out (by simp; omega)); have HB7 := hid (HG37.out.obj HB3.out (by simp; omega)); have Hrd7 := hid (Hrd6.out.gr hg7)
  have Hown7 := hid (Hown6.out.gr hg7 (by simp)); have HF7 := hid hF7
  have HV7 := hid ((HC6.out.gr hg7))
  have hs7 := hg7.size
  have hs6 := HG36.out.size
  clear fx6 hg7 hF7 hrows
  by_cases hz7 : 0 < rows.length
  · go_wp2_with fail
    have hcall := pick_c R cs (0 + 300 + 1) (rows.length : Int) _ Hrd7.out (by omega) (by omega)
    (with_reducible refine hcall.mono ?_)
    clear hcall
    rintro e w8 ⟨⟨r8, rfl, hr80, hr8n⟩, hrd8, hg8⟩
    obtain ⟨r8, rfl⟩ := Int.eq_ofNat_of_zero_le hr80
    have hr8 : r8 < rows.length := by
      by_cases h1 : (rows.length : Int) < 1
      · omega
      · omega
    obtain ⟨x, hx⟩ := get_some hr8
    have HG38 : Hid (Gr [R] w3 w8) := hid (HG37.out.trans hg8)
    have hF8 := HF7.out.gr elRow_ok hg8 (by simp; omega)
    obtain ⟨b8, o8, u8, e8, hc8, hn8⟩ := (hF8.rows (S := []) (by simp)).at0 hx
    subst e8
    have Hx := hid (Hrows.out x (List.mem_of_getElem? hx))
    have Hn8 := hid hn8
    obtain ⟨xo8, xc8, rfl, ⟨hx81, hx82, -⟩, -⟩ := hn8
    have hxl := Hx.out.1
    have hxl4 : x.length ≤ 4 := by have := HVC.out.k; have := HVC.out.n4; omega
    have Hc8 := hid hc8
    have fx8 := fld (HG38.out.obj HX3.out (by simp; omega))
    have hg8s := hg8.size
    have Hown8 := hid (Hown7.out.gr hg8 (by simp; omega))
    -- what the loop reads lies apart from the domains' block
    have hap : ∀ S : List Nat, (∀ b ∈ S, b = g) → Nums S w8 .i64 (.slice xo8 x.length xc8) x := fun S hS => by
      have h9 := (hF8.rows (S := S) (fun b hb => .inl (by have := hS b hb; omega)))
      obtain ⟨b9, o9, u9, e9, hc9, hn9⟩ := h9.at0 hx
      cases e9
      rw [hc8] at hc9; cases hc9
      exact hn9
    have HAp := hid (hap [g] (by simp))
    have HV8 := hid (((HC3.out [R, g] (by simp)).gr (HG38.out.sub (fun k _ h => by simp at h ⊢; exact .inl h))).sub (S' := [g]) (fun b _ hb => by simp at hb ⊢; exact .inr hb))
    have HX8 := hid (HG38.out.obj HX3.out (by simp; omega)); have HB8 := hid (HG38.out.obj HB3.out (by simp; omega))
    clear fx7 hg8 hrd8 hF8 hx hap hr80 hr8n
    go_wp2_with fail
    go_loopw [9] (fun i wr => ∃ (n : Nat) (es : List Int), n ≤ x.length ∧ i = .int .i64 n ∧ es.length = ds.length ∧ Own w1.heap.size wr 3 (.slice (some ⟨g, 0, none⟩) ds.length dc) es ∧ Gr [g] w8 wr) (fun i _ => x.length - (intOf i).toNat)
    case atStart => exact ⟨0, ds, Nat.zero_le _, rfl, rfl, Hown8.out, Gr.refl _ _⟩
    case round =>
    obtain ⟨n, es, hn, rfl, hel, hown, hg⟩ := hrel
    have Hel := hid hel
    by_cases hlt : n < x.length
    · obtain ⟨y, hy⟩ := get_some hlt
      have hy5 := Hx.out.2 y (List.mem_of_getElem? hy)
      obtain ⟨y, rfl⟩ := Int.eq_ofNat_of_zero_le hy5.1
      obtain ⟨bx, ox, ex, _, hcx⟩ := (HAp.out.gr hg).at hy
      subst ex
      obtain ⟨vv', a2', r2', e1, hvars, _⟩ := HV8.out.gr hg
      cases e1
      obtain ⟨vv, hvv⟩ := get_some (xs := c.vars) (k := n) (by omega)
      have hvr := HVC.out.rng vv (List.mem_of_getElem? hvv)
      obtain ⟨vv, rfl⟩ := Int.eq_ofNat_of_zero_le hvr.1
      obtain ⟨bv, ov, ev, _, hcv⟩ := hvars.at hvv
      subst ev
      have hvd : vv < ds.length := by have := HDl.out; omega
      obtain ⟨z, hz9⟩ := get_some (xs := es) (k := vv) (by omega)
      obtain ⟨hc1, hc2⟩ := hown.at hz9
      have fxr := fld (hg.obj HX8.out (by simp; omega))
      have hy6 : y ≤ 5 := by omega
      have hncv : n < c.vars.length := by omega
      have Hg := hid hg; have Hown := hid hown
      clear hy hvv hvars hz9 hg hown hvr hy5 hel
      go_wp2_with fail
      go_region
      all_goals
        go_wp2_with fail
        exact ⟨⟨n + 1, _, by omega, by go_num, by rw [List.length_set]; exact Hel.out, ((Hown.out.gr ((Gr.refl [] _).drew) (by simp)).set vv _ (by have := Hel.out; omega)), (Hg.out.drew).setCell _ _ (.inl (by simp))⟩, by simp [intOf]; omega⟩
    · have fB := fld (hg.obj HB8.out (by simp; omega)); have ffB := fldF (hg.obj HB8.out (by simp; omega)); have hBr := hg.obj HB8.out (by simp; omega)
      have fxr := fld (hg.obj HX8.out (by simp; omega))
      have HBr := hid hBr; have Hg := hid hg; have Hown := hid hown
      clear hBr hg hown hel
      go_wp2_with fail
      have hbE := block_cells (cur' := #[]) (block_cells (cur' := #[]) (block_cells (cur' := #[]) (block_cells (cur' := #[]) (block_cells (cur' := #[]) HBr.out 0 (.int .i64 c.kind)) 1 (.slice vo c.vars.length vc)) 2 (.slice xo c.args.length xc)) 3 (.int .i64 c.bound)) 4 (.slice ro c.rows.length rc)
      have flE := fld hbE
      refine bodyPost_ret (v := .tuple #[.agg #[.int .i64 c.kind, .slice vo c.vars.length vc, .slice xo c.args.length xc, .int .i64 c.bound, .slice ro c.rows.length rc], .slice (some ⟨g, 0, none⟩) ds.length dc]) ?_ rfl ?_
      · simp [results, Try.results8, go_sem, flE]
      · obtain ⟨h1, h2, h3⟩ := Hend.out wr es Hel.out ((HG38.out.sub (fun k _ h => by simp at h ⊢; exact .inl h)).trans (Hg.out.sub (fun k _ h => by simp at h ⊢; exact .inr h))) Hown.out
        exact ⟨c, _, _, es, rfl, h1, h2, Hsm.out, by have := Hel.out; omega, h3⟩
  · have hz7' : decide ((0 : Int) < (rows.length : Int)) = false := decide_eq_false (by omega)
    have fB := fld HB7.out; have ffB := fldF HB7.out
    go_wp2_with fail
    have hbE := block_cells (cur' := #[]) (block_cells (cur' := #[]) (block_cells (cur' := #[]) (block_cells (cur' := #[]) (block_cells (cur' := #[]) HB7.out 0 (.int .i64 c.kind)) 1 (.slice vo c.vars.length vc)) 2 (.slice xo c.args.length xc)) 3 (.int .i64 c.bound)) 4 (.slice ro c.rows.length rc)
    have flE := fld hbE
    refine bodyPost_ret (v := .tuple #[.agg #[.int .i64 c.kind, .slice vo c.vars.length vc, .slice xo c.args.length xc, .int .i64 c.bound, .slice ro c.rows.length rc], .slice (some ⟨g, 0, none⟩) ds.length dc]) ?_ rfl ?_
    · simp [results, Try.results8, go_sem, flE]
    · obtain ⟨h1, h2, h3⟩ := Hend.out w7 ds rfl (HG37.out.sub (fun k _ h => by simp at h ⊢; exact .inl h)) Hown7.out
      exact ⟨c, _, _, ds, rfl, h1, h2, Hsm.out, ⟨hd1, hd4⟩, h3⟩

end Go.Proofs.Ytngpcoilgilmjaa
