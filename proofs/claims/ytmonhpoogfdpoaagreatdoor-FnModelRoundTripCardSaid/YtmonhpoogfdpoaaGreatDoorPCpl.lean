/-
  Walk of the program's deep copy of a constraint: the cells of whole numbers that the copy leads to are all different.
-/
import Derived.Test.YtmonhpoogfdpoaaGreatDoorPEl
set_option linter.unusedVariables false
set_option linter.unusedSimpArgs false
namespace Go.Proofs.YtmonhpoogfdpoaaGreatDoor
open Go.RowKit

set_option maxRecDepth 100000 in
set_option maxHeartbeats 2000000 in
theorem conCopied_l (c : Con) (v : Value) (w : World) (hv : ConV [] w v c) (hs : c.Small) :
    Calls Tryz.prog 58 #[v] w fun e w' => ∃ vo vc xo xc ro rc, e = .returned (.agg #[.int .i64 c.kind, .slice vo c.vars.length vc, .slice xo c.args.length xc, .int .i64 c.bound, .slice ro c.rows.length rc]) ∧
      ConM (New w.heap.size w') w' (.agg #[.int .i64 c.kind, .slice vo c.vars.length vc, .slice xo c.args.length xc, .int .i64 c.bound, .slice ro c.rows.length rc]) c ∧
      (leavesN (.slice vo c.vars.length vc) ++ leavesN (.slice xo c.args.length xc) ++ leavesR w' (.slice ro c.rows.length rc)).Nodup ∧ Gr [] w w' := by
  obtain ⟨vo, vc, ao, ac, ro, rc, rfl, n1, n2, n3⟩ := hv.open
  have H1 := hid n1; have H2 := hid n2; have H3 := hid n3; have Hs := hid hs
  have hrl := hs.rows
  obtain ⟨hr1, hr2⟩ : c.rows.length ≤ rc ∧ rc ≤ 9223372036854775807 := by
    obtain ⟨_, _, e, ⟨h1, h2, -⟩, -⟩ := id n3
    simp only [Value.slice.injEq] at e
    omega
  have h20 := heap2 w (.cells #[.int .i64 c.kind, .slice vo c.vars.length vc, .slice ao c.args.length ac, .int .i64 c.bound, .slice ro c.rows.length rc] 49) (.cells #[.int .i64 0, .slice none 0 0, .slice none 0 0, .int .i64 0, .slice none 0 0] 49)
  have hg0 : Gr [] w ((w.alloc (.cells #[.int .i64 c.kind, .slice vo c.vars.length vc, .slice ao c.args.length ac, .int .i64 c.bound, .slice ro c.rows.length rc] 49)).alloc (.cells #[.int .i64 0, .slice none 0 0, .slice none 0 0, .int .i64 0, .slice none 0 0] 49)) := ((Gr.refl [] w).alloc _).alloc _
  have fb0 := fld h20.1; have fr0 := fld h20.2
  have Hb0 := hid h20.1; have Hr0 := hid h20.2; have Hg0 := hid hg0
  clear n1 n2 n3 hv hs h20 hg0
  go_enter Tryz.func58, Tryz.ntmps58
  go_wp2_with (at_make; refine wp_mk0G rfl _ _ 47 rfl 1 elRowL (w.heap.size + 2) 24 (.slice none 0 0) 24 infoR (by omega) Tryz.underlying47 c.rows.length rfl rfl (by omega) (by simp) ?_; intro w1 hown1 hg1; have HO1 : Hid (OwnG 1 elRowL (w.heap.size + 2) w1 24 _ ([] : List (List Int × List Addr))) := hid hown1; have Hb1 := hid (hg1.obj Hb0.out (by simp)); have Hr1 := hid (hg1.obj Hr0.out (by simp)); have HG1 := hid (Hg0.out.trans hg1); have fb1 := fld Hb1.out; clear hown1 hg1)
  clear fb0 fr0 Hb0 Hr0 Hg0
  go_loopw [3, 13] (fun o i wr => ∃ (n : Nat) (ov : Value) (xs : List (List Int × List Addr)), n ≤ c.rows.length ∧ i = .int .i64 n ∧ ov = o ∧ xs.map Prod.fst = c.rows.take n ∧ (xs.flatMap Prod.snd).Nodup ∧ (∀ a ∈ xs.flatMap Prod.snd, a.block < wr.heap.size) ∧ OwnG 1 elRowL (w.heap.size + 2) wr 24 ov xs ∧ wr.heap[w.heap.size]? = some (.cells #[.int .i64 c.kind, .slice vo c.vars.length vc, .slice ao c.args.length ac, .int .i64 c.bound, .slice ro c.rows.length rc] 49 (0, 0)) ∧
      wr.heap[w.heap.size + 1]? = some (.cells #[.int .i64 0, .slice none 0 0, .slice none 0 0, .int .i64 0, .slice none 0 0] 49 (0, 0)) ∧ Gr [] w wr) (fun _ i _ => c.rows.length - (intOf i).toNat)
  case atStart => exact ⟨0, _, [], Nat.zero_le _, rfl, rfl, by rw [List.take_zero]; rfl, by simp, by simp, by simpa using HO1.out, Hb1.out, Hr1.out, HG1.out⟩
  case round =>
    obtain ⟨n, ov, xs, hn, rfl, rfl, hx1, hx2, hx3, hown, hb, hr, hg⟩ := hrel
    have hsz := lt_of_block hr
    have fbr := fld hb
    have Hown := hid hown; have Hb := hid hb; have Hr := hid hr; have Hg := hid hg
    have hoc : xs.length = n := by have := congrArg List.length hx1; simp at this; omega
    have Hx1 := hid hx1; have Hx2 := hid hx2; have Hx3 := hid hx3; have Hoc := hid hoc
    clear hx1 hx2 hx3 hoc
    clear hown hb hr hg fb1
    by_cases hlt : n < c.rows.length
    · obtain ⟨r, hx⟩ := get_some hlt
      have hrm := List.mem_of_getElem? hx
      have hrs := Hs.out.row r hrm
      obtain ⟨b, oz, u, e1, hc0, hn0⟩ := ((H3.out.gr Hg.out).at0 hx)
      subst e1
      obtain ⟨xo', xc', rfl, ⟨hx1, hx2, -⟩, -⟩ := id hn0
      have Hx := hid hx; have Hn0 := hid hn0
      have hi' : n ≤ 2000000 := by omega
      clear hx hn0
      go_wp2_with fail
      have hcall := copied_c _ r wr Hn0.out hrs
      (with_reducible refine hcall.mono ?_)
      clear hcall
      rintro e w5 ⟨v5, rfl, ho5, hg5⟩
      obtain ⟨uo, uc, rfl, -, -⟩ := ho5.nums' (S := []) (by simp)
      have Ho5 := hid (OwnC.numsM ho5); have Hg5 := hid hg5
      have hs5 := hg5.size
      have HO5 := hid (Hown.out.gr elRowL_ok hg5 (by simp))
      have Hb5 := hid (hg5.obj Hb.out (by simp)); have Hr5 := hid (hg5.obj Hr.out (by simp))
      have Hown' := hid (fun b hb => Hown.out.own (b := b) hb)
      clear ho5 hg5 fbr hc0
      go_wp2_with (at_builtin; go_loud (refine wp_appH rfl _ _ 47 rfl 1 elRowL elRowL_ok (w.heap.size + 2) 24 (.slice none 0 0) 24 infoR rfl (by omega) (by omega) Tryz.underlying47 ov xs rfl (HO5.out.gr elRowL_ok ((Gr.refl [] w5).alloc _) (by simp)) w5.heap.size 1 (r, leavesN (.slice uo r.length uc)) [.slice uo r.length uc] rfl rfl (by simp [Value.oneCell']) (fun j q hj => by match j, hj with | 0, hj => (simp at hj; subst hj; exact cell_one _ _ _) | j + 1, hj => simp at hj) (fun S hS => ⟨_, rfl, Ho5.out.gr' ((Gr.refl [] w5).alloc _) (by simp) (fun b hlt hb hm => by rcases hS b hm with h | h | h; (have := hb.1; omega); (simp at h; omega); (have := (Hown'.out b h).2; have := hb.1; omega)), rfl⟩) (by rw [Hoc.out]; omega) (by simp; omega) ?_; intro v7 w7 hown7 hg7; have HO7 := hid hown7; have HG7 := hid hg7; clear hown7 hg7))
      have hown7' : ∀ b ∈ ov.ownBlock.toList, w.heap.size + 2 ≤ b := fun b hb => (Hown'.out b (by simpa using hb)).1
      have Hown7' := hid hown7'
      clear hown7'
      refine ⟨⟨n + 1, _, xs ++ [(r, leavesN (.slice uo r.length uc))], by omega, by go_num, rfl, ?_, ?_, ?_, HO7.out, ?_, ?_, ?_⟩, by simp [intOf]; omega⟩
      · rw [List.take_add_one, Hx.out, List.map_append, Hx1.out]; rfl
      · rw [List.flatMap_append]
        refine List.nodup_append.2 ⟨Hx2.out, by simpa using leavesN_nodup _, fun a ha b hb e => ?_⟩
        subst e
        simp only [List.flatMap_cons, List.flatMap_nil, List.append_nil] at hb
        have h1 := Hx3.out a ha
        have h2 := (Ho5.out.leaf a hb).1
        omega
      · intro a ha
        have hs7 := HG7.out.size
        simp only [World.size_alloc] at hs7
        rw [List.flatMap_append] at ha
        rcases List.mem_append.1 ha with ha | ha
        · have := Hx3.out a ha; omega
        · simp only [List.flatMap_cons, List.flatMap_nil, List.append_nil] at ha
          have := (Ho5.out.leaf a ha).2; omega
      · exact HG7.out.obj (((Gr.refl [] w5).alloc _).obj Hb5.out (by simp)) (fun hm => by have := Hown7'.out _ hm; omega)
      · exact HG7.out.obj (((Gr.refl [] w5).alloc _).obj Hr5.out (by simp)) (fun hm => by have := Hown7'.out _ hm; omega)
      · exact ((Hg.out.trans Hg5.out).alloc _).step HG7.out (fun i hi => .inr (by have := Hown7'.out _ hi; omega))
    · have e1 : n = c.rows.length := by omega
      subst e1
      obtain ⟨oo, oc, rfl, ho1, ho2, -⟩ := Hown.out.slice
      have hrows := Hown.out.rowsL
      rw [Hx1.out, List.take_length, Hoc.out] at hrows
      have Hrows := hid hrows
      have HLR : Hid (leavesR wr (.slice oo c.rows.length oc) = xs.flatMap Prod.snd) := hid (by have := Hown.out.leavesR; rw [Hoc.out] at this; exact this)
      rw [Hoc.out] at Hown ho1 ⊢
      clear hrows
      have HS : Hid (∀ w', Gr [w.heap.size + 1] wr w' → (w'.cell? ⟨w.heap.size, 0, none⟩ = some (.int .i64 c.kind) ∧ w'.cell? ⟨w.heap.size, 1, none⟩ = some (.slice vo c.vars.length vc) ∧ w'.cell? ⟨w.heap.size, 2, none⟩ = some (.slice ao c.args.length ac) ∧ w'.cell? ⟨w.heap.size, 3, none⟩ = some (.int .i64 c.bound)) ∧ Gr [w.heap.size + 1] wr w') :=
        hid fun w' h => ⟨⟨fld (h.obj Hb.out (by simp)) 0, fld (h.obj Hb.out (by simp)) 1, fld (h.obj Hb.out (by simp)) 2, fld (h.obj Hb.out (by simp)) 3⟩, h⟩
      clear fbr
      go_wp2_with fail
      go_region_held3 (fun w' => (w'.cell? ⟨w.heap.size, 0, none⟩ = some (.int .i64 c.kind) ∧ w'.cell? ⟨w.heap.size, 1, none⟩ = some (.slice vo c.vars.length vc) ∧ w'.cell? ⟨w.heap.size, 2, none⟩ = some (.slice ao c.args.length ac) ∧ w'.cell? ⟨w.heap.size, 3, none⟩ = some (.int .i64 c.bound)) ∧ Gr [w.heap.size + 1] wr w')
        (first | exact HS.out _ ((Gr.refl _ _).drew) | (go_split_ands; exact HS.out _ (Gr.trans (by assumption) (Gr.any hg7))) | (go_split_ands; exact HS.out _ (Gr.trans (by assumption) (Gr.any hg6))) | (go_split_ands; refine HS.out _ (Gr.setCell (Gr.setCell (Gr.setCell (Gr.setCell (Gr.setCell ?_ _ _ (.inl (by simp))) _ _ (.inl (by simp))) _ _ (.inl (by simp))) _ _ (.inl (by simp))) _ _ (.inl (by simp))); assumption))
        (first
          | (go_at_call 57; go_split_ands; refine (copied_c _ c.vars _ (H1.out.gr (Hg.out.step (by assumption) (fun i hi => .inr (by simp at hi; omega)))) Hs.out.vars).mono ?_; rintro e w6 ⟨v6, rfl, ho6, hg6⟩; obtain ⟨uo, uc, rfl, -, -⟩ := ho6.nums' (S := []) (by simp); have Ho6 := hid ((OwnC.numsM ho6).gr' (M' := New wr.heap.size w6) (Gr.refl [] _) (by simp) (fun b hb h => h.le (Gr.size (S := [w.heap.size + 1]) (by assumption)) (Nat.le_refl _))); clear ho6)
          | (go_at_call 57; go_split_ands; refine (copied_c _ c.args _ (H2.out.gr (Hg.out.step (by assumption) (fun i hi => .inr (by simp at hi; omega)))) Hs.out.args).mono ?_; rintro e w7 ⟨v7, rfl, ho7, hg7⟩; obtain ⟨po, pc, rfl, -, -⟩ := ho7.nums' (S := []) (by simp); have Ho7 := hid ((OwnC.numsM ho7).gr' (M' := New wr.heap.size w7) (Gr.refl [] _) (by simp) (fun b hb h => h.le (Gr.size (S := [w.heap.size + 1]) (by assumption)) (Nat.le_refl _))); have Hq7b : Hid (NumsM (New w6.heap.size w7) w7 _ c.args) := hid (OwnC.numsM ho7); have Hg67 : Hid (Gr [] w6 w7) := hid hg7; have hq7 : Gr [w.heap.size + 1] wr w7 := Gr.trans (by assumption) (Gr.any hg7); have hr7 : w7.heap[w.heap.size + 1]? = some (.cells #[.int .i64 0, .slice none 0 0, .slice none 0 0, .int .i64 0, .slice none 0 0] 49 (0, 0)) := hg7.obj (hg6.obj (by first | exact Hr.out | (show World.heap (World.drew _) _ = _; exact Hr.out)) (by simp)) (by simp); have fr7 := fld hr7; have ffr7 := fldF hr7; have Hq7 := hid hq7; have Hr7 := hid hr7; clear ho7 hq7 hr7))
      all_goals
        go_wp2_with fail
        have hgE : Gr [w.heap.size + 1] w7 (((((w7.setCell ⟨w.heap.size + 1, 0, none⟩ (.int .i64 c.kind)).setCell ⟨w.heap.size + 1, 1, none⟩ (.slice uo c.vars.length uc)).setCell ⟨w.heap.size + 1, 2, none⟩ (.slice po c.args.length pc)).setCell ⟨w.heap.size + 1, 3, none⟩ (.int .i64 c.bound)).setCell ⟨w.heap.size + 1, 4, none⟩ (.slice oo c.rows.length oc)) :=
          (((((Gr.refl _ _).setCell _ _ (.inl (by simp))).setCell _ _ (.inl (by simp))).setCell _ _ (.inl (by simp))).setCell _ _ (.inl (by simp))).setCell _ _ (.inl (by simp))
        have hbE := block_cells (cur' := #[]) (block_cells (cur' := #[]) (block_cells (cur' := #[]) (block_cells (cur' := #[]) (block_cells (cur' := #[]) Hr7.out 0 (.int .i64 c.kind)) 1 (.slice uo c.vars.length uc)) 2 (.slice po c.args.length pc)) 3 (.int .i64 c.bound)) 4 (.slice oo c.rows.length oc)
        generalize hWE : (((((w7.setCell ⟨w.heap.size + 1, 0, none⟩ (.int .i64 c.kind)).setCell ⟨w.heap.size + 1, 1, none⟩ (.slice uo c.vars.length uc)).setCell ⟨w.heap.size + 1, 2, none⟩ (.slice po c.args.length pc)).setCell ⟨w.heap.size + 1, 3, none⟩ (.int .i64 c.bound)).setCell ⟨w.heap.size + 1, 4, none⟩ (.slice oo c.rows.length oc)) = WE at hgE hbE ⊢
        have flE := fld hbE
        have hsE := hgE.size
        have hs7 := Hq7.out.size
        have hs67 := Hg67.out.size
        refine bodyPost_ret (v := .agg #[.int .i64 c.kind, .slice uo c.vars.length uc, .slice po c.args.length pc, .int .i64 c.bound, .slice oo c.rows.length oc]) ?_ rfl ?_
        · simp [results, Tryz.results58, go_sem, flE]
        · refine ⟨_, _, _, _, _, _, rfl, ⟨_, _, _, rfl, ?_, ?_, ?_⟩, ?_, (Hg.out.step Hq7.out (fun i hi => .inr (by simp at hi; omega))).step hgE (fun i hi => .inr (by simp at hi; omega))⟩
          · exact (Ho6.out.gr' (M' := New wr.heap.size w7) Hg67.out (by simp) (fun b hb h => h.le (Nat.le_refl _) hs67)).gr' hgE (by intro b hb h; have := h.1; simp at hb; omega) (fun b hb h => h.le (by omega) hsE)
          · exact Ho7.out.gr' hgE (by intro b hb h; have := h.1; simp at hb; omega) (fun b hb h => h.le (by omega) hsE)
          · exact (Hrows.out.gr' (M' := New (w.heap.size + 2) w7) Hq7.out (by intro b hb h; have := h.1; simp at hb; omega) (fun b hb h => h.le (Nat.le_refl _) hs7)).gr' hgE (by intro b hb h; have := h.1; simp at hb; omega) (fun b hb h => h.le (by omega) hsE)
          · have e1 : leavesR WE (.slice oo c.rows.length oc) = xs.flatMap Prod.snd := by
              rw [← HLR.out, Hrows.out.leaves_gr (Hq7.out.trans hgE) (by intro b hb h; have := h.1; simp at hb; omega)]
            rw [e1]
            refine List.nodup_append.2 ⟨List.nodup_append.2 ⟨leavesN_nodup _, leavesN_nodup _, fun a ha b hb e => ?_⟩, Hx2.out, fun a ha b hb e => ?_⟩
            · subst e
              have h1 := (Ho6.out.leaf a ha).2
              have h2 := (Hq7b.out.leaf a hb).1
              omega
            · subst e
              have h3 := Hx3.out a hb
              rcases List.mem_append.1 ha with h | h
              · have h1 := (Ho6.out.leaf a h).1
                omega
              · have h1 := (Ho7.out.leaf a h).1
                omega
end Go.Proofs.YtmonhpoogfdpoaaGreatDoor
