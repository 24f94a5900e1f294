/-
  Walks of the conversions: a constraint, a model.
-/
import Derived.Test.YtjmjjdgbkibdaaaGreatED
set_option linter.unusedVariables false
namespace Go.Proofs.YtjmjjdgbkibdaaaGreat
open Go.RowKit

theorem ConV.open {S : List Nat} {w : World} {v : Value} {c : Con} (h : ConV S w v c) :
    ∃ vo vc ao ac ro rc, v = .agg #[.int .i64 c.kind, .slice vo c.vars.length vc, .slice ao c.args.length ac, .int .i64 c.bound, .slice ro c.rows.length rc] ∧
      Nums S w .i64 (.slice vo c.vars.length vc) c.vars ∧ Nums S w .i64 (.slice ao c.args.length ac) c.args ∧ RowsV S w (.slice ro c.rows.length rc) c.rows := by
  obtain ⟨vv, av, rv, rfl, h1, h2, h3⟩ := h
  obtain ⟨vo, vc, rfl, k1⟩ := h1
  obtain ⟨ao, ac, rfl, k2⟩ := h2
  obtain ⟨ro, rc, rfl, k3⟩ := h3
  exact ⟨vo, vc, ao, ac, ro, rc, rfl, ⟨vo, vc, rfl, k1⟩, ⟨ao, ac, rfl, k2⟩, ⟨ro, rc, rfl, k3⟩⟩

set_option maxRecDepth 100000 in
theorem toConstraint_c (c : Con) (v : Value) (w : World) (hv : ConV [] w v c) (hs : c.Small) :
    Calls Tryz.prog 150 #[v] w fun e w' => ∃ v', e = .returned v' ∧ ConM (New w.heap.size w') w' v' c ∧ Gr [] w w' := by
  obtain ⟨vo, vc, ao, ac, ro, rc, rfl, n1, n2, n3⟩ := hv.open
  have H1 := hid n1; have H2 := hid n2; have H3 := hid n3; have Hs := hid hs
  clear n1 n2 n3 hv hs
  go_enter Tryz.func150, Tryz.ntmps150
  go_wp2_with fail
  generalize hW0 : World.alloc (World.alloc (World.alloc _ _) _) _ = W0
  have h30 := heap3 w (.cells #[.int .i64 c.kind, .slice vo c.vars.length vc, .slice ao c.args.length ac, .int .i64 c.bound, .slice ro c.rows.length rc] 115) (.cells #[.int .i64 0, .slice none 0 0, .slice none 0 0, .int .i64 0, .slice none 0 0] 55) (.cells #[.int .i64 c.kind, .slice none 0 0, .slice none 0 0, .int .i64 0, .slice none 0 0] 55)
  rw [hW0] at h30
  have hg0 : Gr [] w W0 := by rw [← hW0]; exact (((Gr.refl [] w).alloc _).alloc _).alloc _
  have hs0 : W0.heap.size = w.heap.size + 3 := by rw [← hW0]; simp
  obtain ⟨hbB, hbR, hbO⟩ := h30
  have HB := hid hbB; have HR := hid hbR; have HO : Hid (W0.heap[w.heap.size + 1 + 1]? = some (.cells #[.int .i64 c.kind, .slice none 0 0, .slice none 0 0, .int .i64 0, .slice none 0 0] 55 (0, 0))) := hid hbO
  have Hg0 := hid hg0
  clear hW0 hbB hbR hbO hg0
  have hcall := toIntS_c c.vars _ W0 (H1.out.gr Hg0.out) Hs.out.vars
  (with_reducible refine hcall.mono ?_)
  clear hcall
  rintro e w2 ⟨v2, rfl, hown2, hg2⟩
  obtain ⟨vo2, vc2, rfl, -, -⟩ := hown2.nums (S := []) (by simp)
  have flB := fld (hg2.obj HB.out (by simp)); have flO := fld (hg2.obj HO.out (by simp)); have ffO := fldF (hg2.obj HO.out (by simp))
  have HB2 := hid (hg2.obj HB.out (by simp)); have HR2 := hid (hg2.obj HR.out (by simp)); have HO2 := hid (hg2.obj HO.out (by simp))
  have Hg2 := hid (Hg0.out.trans hg2); have Hn2 := hid (hown2.numsM); have hs2 := hg2.size
  clear hown2 hg2
  go_wp2_with fail
  have hgs3 : Gr [w.heap.size + 1 + 1] w2 (w2.setCell ⟨w.heap.size + 1 + 1, 1, none⟩ (.slice vo2 c.vars.length vc2)) := (Gr.refl _ _).setCell _ _ (.inl (by simp))
  have hbO3 := block_cells (cur' := #[]) HO2.out 1 (.slice vo2 c.vars.length vc2)
  generalize hW3 : w2.setCell ⟨w.heap.size + 1 + 1, 1, none⟩ (.slice vo2 c.vars.length vc2) = W3 at hgs3 hbO3 ⊢
  have hg3 : Gr [] w W3 := Hg2.out.step hgs3 (fun i hi => .inr (by simp at hi; omega))
  have hs3 := hgs3.size
  have HB3 := hid (hgs3.obj HB2.out (by simp; omega)); have HR3 := hid (hgs3.obj HR2.out (by simp)); have HO3 := hid hbO3
  have Hg3 := hid hg3
  have Hn3 := hid (Hn2.out.gr' (M' := New W0.heap.size W3) hgs3 (by intro b hb h; have := h.1; simp at hb; omega) (fun b hb h => h.le (Nat.le_refl _) hgs3.size))
  clear hW3 hgs3 hg3 hbO3 flB flO ffO
  have hcall := toIntS_c c.args _ W3 (H2.out.gr Hg3.out) Hs.out.args
  (with_reducible refine hcall.mono ?_)
  clear hcall
  rintro e w4 ⟨v4, rfl, hown4, hg4⟩
  obtain ⟨vo4, vc4, rfl, -, -⟩ := hown4.nums (S := []) (by simp)
  have flB := fld (hg4.obj HB3.out (by simp)); have flO := fld (hg4.obj HO3.out (by simp)); have ffO := fldF (hg4.obj HO3.out (by simp))
  have HB4 := hid (hg4.obj HB3.out (by simp)); have HR4 := hid (hg4.obj HR3.out (by simp)); have HO4 := hid (hg4.obj HO3.out (by simp))
  have Hg4 := hid (Hg3.out.trans hg4); have Ha4 := hid (hown4.numsM); have hs4 := hg4.size
  have Hn4 := hid (Hn3.out.gr' (M' := New W0.heap.size w4) hg4 (by simp) (fun b hb h => h.le (Nat.le_refl _) hg4.size))
  clear hown4 hg4
  go_wp2_with fail
  have hgs5 : Gr [w.heap.size + 1 + 1] w4 ((w4.setCell ⟨w.heap.size + 1 + 1, 2, none⟩ (.slice vo4 c.args.length vc4)).setCell ⟨w.heap.size + 1 + 1, 3, none⟩ (.int .i64 c.bound)) := ((Gr.refl _ _).setCell _ _ (.inl (by simp))).setCell _ _ (.inl (by simp))
  have hbO5 := block_cells (cur' := #[]) (block_cells (cur' := #[]) HO4.out 2 (.slice vo4 c.args.length vc4)) 3 (.int .i64 c.bound)
  generalize hW5 : (w4.setCell ⟨w.heap.size + 1 + 1, 2, none⟩ (.slice vo4 c.args.length vc4)).setCell ⟨w.heap.size + 1 + 1, 3, none⟩ (.int .i64 c.bound) = W5 at hgs5 hbO5 ⊢
  have hg5 : Gr [] w W5 := Hg4.out.step hgs5 (fun i hi => .inr (by simp at hi; omega))
  have hs5 := hgs5.size
  have HB5 := hid (hgs5.obj HB4.out (by simp; omega)); have HR5 := hid (hgs5.obj HR4.out (by simp)); have HO5 := hid hbO5
  have Hg5 := hid hg5
  have Hn5 := hid (Hn4.out.gr' (M' := New W0.heap.size W5) hgs5 (by intro b hb h; have := h.1; simp at hb; omega) (fun b hb h => h.le (Nat.le_refl _) hgs5.size))
  have Ha5 := hid (Ha4.out.gr' (M' := New W0.heap.size W5) hgs5 (by intro b hb h; have := h.1; simp at hb; omega) (fun b hb h => h.le (by omega) hgs5.size))
  clear hW5 hgs5 hg5 hbO5 flB flO ffO
  have hcall := toIntSS_c c.rows _ W5 (H3.out.gr Hg5.out) Hs.out.rows Hs.out.row
  (with_reducible refine hcall.mono ?_)
  clear hcall
  rintro e w6 ⟨v6, rfl, hown6, hg6⟩
  obtain ⟨vo6, vc6, rfl, -, -⟩ := hown6.rows (S := []) (by simp)
  have flO := fld (hg6.obj HO5.out (by simp)); have ffO := fldF (hg6.obj HO5.out (by simp))
  have flR := fld (hg6.obj HR5.out (by simp)); have ffR := fldF (hg6.obj HR5.out (by simp))
  have HR6 := hid (hg6.obj HR5.out (by simp)); have HO6 := hid (hg6.obj HO5.out (by simp))
  have Hg6 := hid (Hg5.out.trans hg6); have Hr6 := hid hown6; have hs6 := hg6.size
  have Hn6 := hid (Hn5.out.gr' (M' := New W0.heap.size w6) hg6 (by simp) (fun b hb h => h.le (Nat.le_refl _) hg6.size))
  have Ha6 := hid (Ha5.out.gr' (M' := New W0.heap.size w6) hg6 (by simp) (fun b hb h => h.le (Nat.le_refl _) hg6.size))
  clear hown6 hg6
  go_wp2_with fail
  have hgE : Gr [w.heap.size + 1 + 1, w.heap.size + 1] w6 ((((((w6.setCell ⟨w.heap.size + 1 + 1, 4, none⟩ (.slice vo6 c.rows.length vc6)).setCell ⟨w.heap.size + 1, 0, none⟩ (.int .i64 c.kind)).setCell ⟨w.heap.size + 1, 1, none⟩ (.slice vo2 c.vars.length vc2)).setCell ⟨w.heap.size + 1, 2, none⟩ (.slice vo4 c.args.length vc4)).setCell ⟨w.heap.size + 1, 3, none⟩ (.int .i64 c.bound)).setCell ⟨w.heap.size + 1, 4, none⟩ (.slice vo6 c.rows.length vc6)) :=
    ((((((Gr.refl _ _).setCell _ _ (.inl (by simp))).setCell _ _ (.inl (by simp))).setCell _ _ (.inl (by simp))).setCell _ _ (.inl (by simp))).setCell _ _ (.inl (by simp))).setCell _ _ (.inl (by simp))
  have hbE := block_cells (cur' := #[]) (block_cells (cur' := #[]) (block_cells (cur' := #[]) (block_cells (cur' := #[]) (block_cells (cur' := #[]) (((Gr.refl [w.heap.size + 1 + 1] w6).setCell ⟨w.heap.size + 1 + 1, 4, none⟩ (.slice vo6 c.rows.length vc6) (.inl (by simp))).obj HR6.out (by simp)) 0 (.int .i64 c.kind)) 1 (.slice vo2 c.vars.length vc2)) 2 (.slice vo4 c.args.length vc4)) 3 (.int .i64 c.bound)) 4 (.slice vo6 c.rows.length vc6)
  generalize hWE : ((((((w6.setCell ⟨w.heap.size + 1 + 1, 4, none⟩ (.slice vo6 c.rows.length vc6)).setCell ⟨w.heap.size + 1, 0, none⟩ (.int .i64 c.kind)).setCell ⟨w.heap.size + 1, 1, none⟩ (.slice vo2 c.vars.length vc2)).setCell ⟨w.heap.size + 1, 2, none⟩ (.slice vo4 c.args.length vc4)).setCell ⟨w.heap.size + 1, 3, none⟩ (.int .i64 c.bound)).setCell ⟨w.heap.size + 1, 4, none⟩ (.slice vo6 c.rows.length vc6)) = WE at hgE hbE ⊢
  have flE := fld hbE
  have hsE := hgE.size
  refine bodyPost_ret (v := .agg #[.int .i64 c.kind, .slice vo2 c.vars.length vc2, .slice vo4 c.args.length vc4, .int .i64 c.bound, .slice vo6 c.rows.length vc6]) ?_ rfl ?_
  · simp [results, Tryz.results150, go_sem, flE]
  · refine ⟨_, rfl, ⟨_, _, _, rfl, ?_, ?_, ?_⟩, Hg6.out.step hgE (fun i hi => .inr (by simp at hi; omega))⟩
    · exact Hn6.out.gr' hgE (by intro b hb h; have := h.1; simp at hb; omega) (fun b hb h => h.le (by omega) hsE)
    · exact Ha6.out.gr' hgE (by intro b hb h; have := h.1; simp at hb; omega) (fun b hb h => h.le (by omega) hsE)
    · exact Hr6.out.gr' hgE (by intro b hb h; have := h.1; simp at hb; omega) (fun b hb h => h.le (by omega) hsE)

theorem ConM.open {M : Nat → Prop} {w : World} {v : Value} {c : Con} (h : ConM M w v c) :
    ∃ vo vc ao ac ro rc, v = .agg #[.int .i64 c.kind, .slice vo c.vars.length vc, .slice ao c.args.length ac, .int .i64 c.bound, .slice ro c.rows.length rc] ∧
      NumsM M w (.slice vo c.vars.length vc) c.vars ∧ NumsM M w (.slice ao c.args.length ac) c.args ∧ RowsM M w (.slice ro c.rows.length rc) c.rows := by
  obtain ⟨vv, av, rv, rfl, h1, h2, h3⟩ := h
  obtain ⟨vo, vc, rfl, k1⟩ := h1
  obtain ⟨ao, ac, rfl, k2⟩ := h2
  obtain ⟨ro, rc, rfl, k3⟩ := h3
  exact ⟨vo, vc, ao, ac, ro, rc, rfl, ⟨vo, vc, rfl, k1⟩, ⟨ao, ac, rfl, k2⟩, ⟨ro, rc, rfl, k3⟩⟩

set_option maxRecDepth 100000 in
theorem toConstraintS_c (cs : List Con) (v : Value) (w : World) (hv : ConsV [] w v cs) (hl : cs.length ≤ 2000000) (hr : ∀ c ∈ cs, c.Small) :
    Calls Tryz.prog 77 #[v] w fun e w' => ∃ v', e = .returned v' ∧ ConsM (New w.heap.size w') w' v' cs ∧ Gr [] w w' := by
  have Hr := hid hr
  obtain ⟨ao, cap, rfl, ⟨h1, h2⟩, hcc⟩ := hv.open
  have Hc := hid hcc
  clear hr hv hcc
  go_enter Tryz.func77, Tryz.ntmps77
  go_wp2_with (at_make; refine wp_mkG rfl _ _ 29 rfl 55 (.agg #[.int .i64 0, .slice none 0 0, .slice none 0 0, .int .i64 0, .slice none 0 0]) 5 88 infoC (by omega) Tryz.underlying29 cs.length rfl rfl (by omega) ?_; intro w1 hown1 hg1; have HO1 := hid (consM_made hown1 (by omega)); have HG1 := hid hg1; clear hown1 hg1)
  go_loopw [4] (fun i wr => ∃ n : Nat, n ≤ cs.length ∧ i = .int .i64 n ∧ ConsM (New w.heap.size wr) wr (.slice (some ⟨w.heap.size, 0, none⟩) cs.length cs.length) (cs.take n ++ List.replicate (cs.length - n) (⟨0, [], [], 0, []⟩ : Con)) ∧ Gr [] w wr) (fun i _ => cs.length - (intOf i).toNat)
  case atStart => exact ⟨0, Nat.zero_le _, rfl, by simpa using HO1.out, HG1.out⟩
  case round =>
    obtain ⟨n, hn, rfl, hown, hg⟩ := hrel
    by_cases hlt : n < cs.length
    · obtain ⟨x, hx⟩ := get_some hlt
      obtain ⟨b, o, vo, vc, xo, xc, ro, rc, rfl, _, ⟨c0, c1, c2, c3, c4⟩, hcon⟩ := (Hc.out.gr hg).at2 hx
      have hxs := Hr.out x (List.mem_of_getElem? hx)
      have Hn0 := hid hcon; have Hown := hid hown; have Hg := hid hg; have Hx := hid hx; have Hxs := hid hxs
      clear hcon hown hg hx hxs
      go_wp2_with fail
      have hcall := toConstraint_c x _ wr Hn0.out Hxs.out
      (with_reducible refine hcall.mono ?_)
      clear hcall
      rintro e w2 ⟨v2, rfl, hown2, hg2⟩
      have hR2 := Hown.out.gr' (M' := New w.heap.size w2) hg2 (by simp) (fun b hb h => h.le (Nat.le_refl _) hg2.size)
      obtain ⟨z, hz⟩ := get_some (xs := cs.take n ++ List.replicate (cs.length - n) (⟨0, [], [], 0, []⟩ : Con)) (k := n) (by simp; omega)
      have hwr : w.heap.size < wr.heap.size := by
        obtain ⟨b9, o9, _, _, _, e10, hM9, _⟩ := Hown.out.at hz
        have e11 : b9 = w.heap.size := (by simp at e10; exact e10.1.symm)
        have := hM9.2; omega
      have hbut : ∀ b, b < w2.heap.size → New wr.heap.size w2 b → but (New w.heap.size w2) w.heap.size b := fun b hb h => ⟨h.le Hg.out.size (Nat.le_refl _), by have := h.1; omega⟩
      obtain ⟨vo2, vc2, xo2, xc2, ro2, rc2, rfl, m1, m2, m3⟩ := hown2.open
      obtain ⟨k0, k1, k2, k3, k4, hf⟩ : (∃ u, w2.cell? ⟨w.heap.size, n * 5, none⟩ = some u) ∧ (∃ u, w2.cell? ⟨w.heap.size, n * 5 + 1, none⟩ = some u) ∧ (∃ u, w2.cell? ⟨w.heap.size, n * 5 + 2, none⟩ = some u) ∧ (∃ u, w2.cell? ⟨w.heap.size, n * 5 + 3, none⟩ = some u) ∧ (∃ u, w2.cell? ⟨w.heap.size, n * 5 + 4, none⟩ = some u) ∧ ∀ j, w2.frozen? ⟨w.heap.size, j, none⟩ = false := by
        obtain ⟨b9, o9, _, _, _, e10, _, ⟨j0, j1, j2, j3, j4⟩, hf, _⟩ := hR2.at hz
        simp only [Option.some.injEq, Addr.mk.injEq] at e10
        obtain ⟨rfl, rfl, _⟩ := e10
        rw [Nat.zero_add] at j0 j1 j2 j3 j4
        exact ⟨⟨_, j0⟩, ⟨_, j1⟩, ⟨_, j2⟩, ⟨_, j3⟩, ⟨_, j4⟩, hf⟩
      obtain ⟨u0, k0⟩ := k0; obtain ⟨u1, k1⟩ := k1; obtain ⟨u2, k2⟩ := k2; obtain ⟨u3, k3⟩ := k3; obtain ⟨u4, k4⟩ := k4
      have hset := hR2.set5 (k := n) (by simp; omega) (m1.gr' (Gr.refl [] w2) (by simp) hbut) (m2.gr' (Gr.refl [] w2) (by simp) hbut) (m3.gr' (Gr.refl [] w2) (by simp) hbut)
      have e1 : (cs.take n ++ List.replicate (cs.length - n) (⟨0, [], [], 0, []⟩ : Con)).set n x = cs.take (n + 1) ++ List.replicate (cs.length - (n + 1)) (⟨0, [], [], 0, []⟩ : Con) := by
        have hl : (cs.take n).length = n := by rw [List.length_take]; omega
        rw [List.set_append_right _ _ (by omega), hl, Nat.sub_self, List.take_add_one, Hx.out]
        obtain ⟨k, hk⟩ : ∃ k, cs.length - n = k + 1 := ⟨cs.length - n - 1, by omega⟩
        rw [hk, List.replicate_succ, List.set_cons_zero, show cs.length - (n + 1) = k by omega]; simp
      rw [e1] at hset
      have hne : Gr [] w (((((w2.setCell ⟨w.heap.size, n * 5, none⟩ (.int .i64 x.kind)).setCell ⟨w.heap.size, n * 5 + 1, none⟩ (.slice vo2 x.vars.length vc2)).setCell ⟨w.heap.size, n * 5 + 2, none⟩ (.slice xo2 x.args.length xc2)).setCell ⟨w.heap.size, n * 5 + 3, none⟩ (.int .i64 x.bound)).setCell ⟨w.heap.size, n * 5 + 4, none⟩ (.slice ro2 x.rows.length rc2)) :=
        (((((Hg.out.trans hg2).setCell _ _ (.inr (Nat.le_refl _))).setCell _ _ (.inr (Nat.le_refl _))).setCell _ _ (.inr (Nat.le_refl _))).setCell _ _ (.inr (Nat.le_refl _))).setCell _ _ (.inr (Nat.le_refl _))
      have Hset := hid hset; have Hne := hid hne
      clear hset hne e1 hz hown2 hg2 hR2 m1 m2 m3 hbut
      go_wp2_with fail
      refine ⟨⟨n + 1, by omega, by go_num, Hset.out.gr' (Gr.refl [] _) (by simp) (fun b hb h => ⟨h.1, hb⟩), Hne.out⟩, by simp [intOf]; omega⟩
    · have e1 : cs.take n ++ List.replicate (cs.length - n) (⟨0, [], [], 0, []⟩ : Con) = cs := by rw [List.take_of_length_le (by omega), show cs.length - n = 0 by omega]; simp
      rw [e1] at hown
      have Hown := hid hown
      clear e1 hown
      go_wp2_with fail
      go_ret
      exact ⟨_, rfl, Hown.out, hg⟩

set_option maxRecDepth 100000 in
theorem toModel_c (m : Mod) (v : Value) (w : World) (hv : ModV [] w v m) (hs : m.Small) :
    Calls Tryz.prog 19 #[v] w fun e w' => ∃ v', e = .returned v' ∧ ModM (New w.heap.size w') w' v' m ∧ Gr [] w w' := by
  obtain ⟨dv, cv, rfl, hd, hc⟩ := hv
  have H1 := hid hd; have H2 := hid hc; have Hs := hid hs
  obtain ⟨xo, xc, rfl, -, -⟩ := hd
  obtain ⟨co, cc, rfl, -, -⟩ := hc
  clear hs
  go_enter Tryz.func19, Tryz.ntmps19
  go_wp2_with fail
  generalize hW0 : World.alloc (World.alloc (World.alloc _ _) _) _ = W0
  have h30 := heap3 w (.cells #[.slice xo m.doms.length xc, .slice co m.cons.length cc] 25) (.cells #[.slice none 0 0, .slice none 0 0] 31) (.cells #[.slice none 0 0, .slice none 0 0] 31)
  rw [hW0] at h30
  have hg0 : Gr [] w W0 := by rw [← hW0]; exact (((Gr.refl [] w).alloc _).alloc _).alloc _
  have hs0 : W0.heap.size = w.heap.size + 3 := by rw [← hW0]; simp
  obtain ⟨hbB, hbR, hbO⟩ := h30
  have HB := hid hbB; have HR := hid hbR; have HO : Hid (W0.heap[w.heap.size + 1 + 1]? = some (.cells #[.slice none 0 0, .slice none 0 0] 31 (0, 0))) := hid hbO
  have Hg0 := hid hg0
  clear hW0 hbB hbR hbO hg0
  have hcall := toIntS_c m.doms _ W0 (H1.out.gr Hg0.out) Hs.out.doms
  (with_reducible refine hcall.mono ?_)
  clear hcall
  rintro e w2 ⟨v2, rfl, hown2, hg2⟩
  obtain ⟨vo2, vc2, rfl, -, -⟩ := hown2.nums (S := []) (by simp)
  have flB := fld (hg2.obj HB.out (by simp)); have flO := fld (hg2.obj HO.out (by simp)); have ffO := fldF (hg2.obj HO.out (by simp))
  have HB2 := hid (hg2.obj HB.out (by simp)); have HR2 := hid (hg2.obj HR.out (by simp)); have HO2 := hid (hg2.obj HO.out (by simp))
  have Hg2 := hid (Hg0.out.trans hg2); have Hn2 := hid (hown2.numsM); have hs2 := hg2.size
  clear hown2 hg2
  go_wp2_with fail
  have hgs3 : Gr [w.heap.size + 1 + 1] w2 (w2.setCell ⟨w.heap.size + 1 + 1, 0, none⟩ (.slice vo2 m.doms.length vc2)) := (Gr.refl _ _).setCell _ _ (.inl (by simp))
  have hbO3 := block_cells (cur' := #[]) HO2.out 0 (.slice vo2 m.doms.length vc2)
  generalize hW3 : w2.setCell ⟨w.heap.size + 1 + 1, 0, none⟩ (.slice vo2 m.doms.length vc2) = W3 at hgs3 hbO3 ⊢
  have hg3 : Gr [] w W3 := Hg2.out.step hgs3 (fun i hi => .inr (by simp at hi; omega))
  have hs3 := hgs3.size
  have HR3 := hid (hgs3.obj HR2.out (by simp)); have HO3 := hid hbO3
  have Hg3 := hid hg3
  have Hn3 := hid (Hn2.out.gr' (M' := New W0.heap.size W3) hgs3 (by intro b hb h; have := h.1; simp at hb; omega) (fun b hb h => h.le (Nat.le_refl _) hgs3.size))
  clear hW3 hgs3 hg3 hbO3 flB flO ffO
  have hcall := toConstraintS_c m.cons _ W3 (H2.out.gr Hg3.out) Hs.out.cons Hs.out.con
  (with_reducible refine hcall.mono ?_)
  clear hcall
  rintro e w6 ⟨v6, rfl, hown6, hg6⟩
  obtain ⟨vo6, vc6, rfl, -, -⟩ := hown6.cons (S := []) (by simp)
  have flO := fld (hg6.obj HO3.out (by simp)); have ffO := fldF (hg6.obj HO3.out (by simp))
  have flR := fld (hg6.obj HR3.out (by simp)); have ffR := fldF (hg6.obj HR3.out (by simp))
  have HR6 := hid (hg6.obj HR3.out (by simp)); have HO6 := hid (hg6.obj HO3.out (by simp))
  have Hg6 := hid (Hg3.out.trans hg6); have Hr6 := hid hown6; have hs6 := hg6.size
  have Hn6 := hid (Hn3.out.gr' (M' := New W0.heap.size w6) hg6 (by simp) (fun b hb h => h.le (Nat.le_refl _) hg6.size))
  clear hown6 hg6
  go_wp2_with fail
  have hgE : Gr [w.heap.size + 1 + 1, w.heap.size + 1] w6 (((w6.setCell ⟨w.heap.size + 1 + 1, 1, none⟩ (.slice vo6 m.cons.length vc6)).setCell ⟨w.heap.size + 1, 0, none⟩ (.slice vo2 m.doms.length vc2)).setCell ⟨w.heap.size + 1, 1, none⟩ (.slice vo6 m.cons.length vc6)) :=
    (((Gr.refl _ _).setCell _ _ (.inl (by simp))).setCell _ _ (.inl (by simp))).setCell _ _ (.inl (by simp))
  have hbE := block_cells (cur' := #[]) (block_cells (cur' := #[]) (((Gr.refl [w.heap.size + 1 + 1] w6).setCell ⟨w.heap.size + 1 + 1, 1, none⟩ (.slice vo6 m.cons.length vc6) (.inl (by simp))).obj HR6.out (by simp)) 0 (.slice vo2 m.doms.length vc2)) 1 (.slice vo6 m.cons.length vc6)
  generalize hWE : (((w6.setCell ⟨w.heap.size + 1 + 1, 1, none⟩ (.slice vo6 m.cons.length vc6)).setCell ⟨w.heap.size + 1, 0, none⟩ (.slice vo2 m.doms.length vc2)).setCell ⟨w.heap.size + 1, 1, none⟩ (.slice vo6 m.cons.length vc6)) = WE at hgE hbE ⊢
  have flE := fld hbE
  have hsE := hgE.size
  refine bodyPost_ret (v := .agg #[.slice vo2 m.doms.length vc2, .slice vo6 m.cons.length vc6]) ?_ rfl ?_
  · simp [results, Tryz.results19, go_sem, flE]
  · refine ⟨_, rfl, ⟨_, _, rfl, ?_, ?_⟩, Hg6.out.step hgE (fun i hi => .inr (by simp at hi; omega))⟩
    · exact Hn6.out.gr' hgE (by intro b hb h; have := h.1; simp at hb; omega) (fun b hb h => h.le (by omega) hsE)
    · exact Hr6.out.gr' hgE (by intro b hb h; have := h.1; simp at hb; omega) (fun b hb h => h.le (by omega) hsE)
end Go.Proofs.YtjmjjdgbkibdaaaGreat
