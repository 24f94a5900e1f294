/-
  Walk of the reference's list of the soft constraints that nothing satisfies.
-/
import Derived.Test.YtngpcoilgilmjaaGreatSs
set_option linter.unusedVariables false
set_option linter.unusedSimpArgs false
namespace Go.Proofs.YtngpcoilgilmjaaGreat
open Go.RowKit

/-- 'append(out, n)': where the list lies then. -/
theorem wp_app1w {P : Program} {w : World} {ops : Array Oper} {rest : List Oper} {o : Oper} {a : Act} {Q : Exit → Act → World → Prop} (hgd : o.guard = none) (s x : Operand) (t : TypeId)
    (ho : o.op = .call { callee := .builtin .append, args := #[s, x], argTypes := #[t, t] }) (B : Nat) (e : TypeId) (hinfo : (P.info? e).map (fun i => (i.zero, i.size, i.bytes)) = some (some (.int .i64 0), 1, 8))
    (ht : P.underlying t = some (.slice e)) (v : Value) (xs : List Int) (hs : a.eval s = v) (hown : Own B w e v xs) (g c : Nat) (n : Int) (hx : a.eval x = .slice (some ⟨g, 0, none⟩) 1 c) (hn : w.cell? ⟨g, 0, none⟩ = some (.int .i64 n))
    (hlen : xs.length ≤ 1000000000000) (hB : B ≤ w.heap.size)
    (h : ∀ v' w', Own B w' e v' (xs ++ [n]) → Gr v.ownBlock.toList w w' → (∀ b, v'.ownBlock = some b → v.ownBlock = some b ∨ w.heap.size ≤ b) → wpList P ops Q rest (a.put o.dst v') w') : wpList P ops Q (o :: rest) a w := by
  obtain ⟨i0, hi, hz0, hz1, hz2⟩ := info_parts hinfo
  refine wpList_append_lies w hgd s x t ho B e i0 (.int .i64 0) 1 8 ht hi hz0 hz1 hz2 rfl (by decide) v xs.length _ hs hown ⟨g, 0, none⟩ 1 c [.int .i64 n] hx rfl ?_ (by simp [Value.oneCell']) (by omega) (by simp only [maxLen]; omega) (by omega) hB w.heap.size rfl ?_
  · intro j u hj
    match j, hj with
    | 0, hj => simp at hj; subst hj; simpa [Addr.add] using hn
    | j + 1, hj => simp at hj
  · intro g' cap' w' hown' hgrow hwhere hlt
    refine h _ _ (by simpa [Own] using hown') ⟨hgrow.os, hgrow.tape, hgrow.output, hgrow.size, fun k hk hs => hgrow.block k hk (fun e => hs (by rw [← e]; simp))⟩ (fun b hb => ?_)
    simp [Value.ownBlock] at hb
    subst hb
    exact hwhere.imp id (fun e => by omega)

theorem Own.own_lt {B : Nat} {w : World} {e : TypeId} {v : Value} {xs : List Int} (h : Own B w e v xs) : ∀ b, v.ownBlock = some b → B ≤ b ∧ b < w.heap.size := fun b hb => World.ownsRow.lt h b hb

set_option maxRecDepth 100000 in
set_option maxHeartbeats 4000000 in
theorem specHardest_c (m : Mod) (ss : List Sft) (mv sv : Value) (w : World) (hv : ModV [] w mv m) (hs : m.Small) (hsv : SftsV [] w sv ss) (hss : SftsSmall ss) (D : List Nat) (hD : validM m = true → VM m D) :
    Calls Tryz.prog 12 #[mv, sv] w fun e w' => ∃ v', e = .returned v' ∧ Nums [] w' .i64 v' (hardO m D ss) ∧ Gr [] w w' := by
  have Hv := hid hv; have HD := hid hD; have Hs := hid hs; have Hsv := hid hsv; have Hss := hid hss
  obtain ⟨xo, xc, co, cc, rfl⟩ := hv.slices
  obtain ⟨so, sc, rfl, hs1, hs2⟩ := hsv.slice
  have hg00 : Gr [] w (w.alloc (.cells #[.slice xo m.doms.length xc, .slice co m.cons.length cc] 26)) := (Gr.refl _ _).alloc _
  have hg0 : Gr [] w ((w.alloc (.cells #[.slice xo m.doms.length xc, .slice co m.cons.length cc] 26)).alloc (.cells #[] 3)) := hg00.alloc _
  have hb0 : ((w.alloc (.cells #[.slice xo m.doms.length xc, .slice co m.cons.length cc] 26)).alloc (.cells #[] 3)).heap[w.heap.size]? = some (.cells #[.slice xo m.doms.length xc, .slice co m.cons.length cc] 26 (0, 0)) := ((Gr.refl [] _).alloc _).obj (heap_alloc_new _ _) (by simp)
  have ho0 : Own (w.heap.size + 1) ((w.alloc (.cells #[.slice xo m.doms.length xc, .slice co m.cons.length cc] 26)).alloc (.cells #[] 3)) 3 (.slice (some ⟨w.heap.size + 1, 0, none⟩) 0 0) [] := by
    have := Own.empty (B := w.heap.size + 1) (w.alloc (.cells #[.slice xo m.doms.length xc, .slice co m.cons.length cc] 26)) 3 (by simp)
    rwa [World.size_alloc] at this
  have hs0 : w.heap.size + 2 ≤ ((w.alloc (.cells #[.slice xo m.doms.length xc, .slice co m.cons.length cc] 26)).alloc (.cells #[] 3)).heap.size := by simp
  have fl0 := fld hb0
  have Hg0 := hid hg0; have Hb0 := hid hb0; have Ho0 := hid ho0
  clear hv hg0 hg00 hb0 ho0 hD hs hsv hss
  go_enter Tryz.func12, Tryz.ntmps12
  go_wp2_with fail
  generalize hW0 : (w.alloc (.cells #[.slice xo m.doms.length xc, .slice co m.cons.length cc] 26)).alloc (.cells #[] 3) = w0 at *
  clear hW0
  have hcall := specValidModel_c m _ w0 (Hv.out.gr Hg0.out) Hs.out
  (with_reducible refine hcall.mono ?_)
  clear hcall
  rintro e w1 ⟨rfl, hg1⟩
  have Hb1 := hid (hg1.obj Hb0.out (by simp)); have Ho1 := hid (Ho0.out.gr hg1 (by simp))
  have fl1 := fld Hb1.out
  have Hg1 := hid (Hg0.out.trans hg1)
  have hs1' := hg1.size
  clear fl0 hg1
  cases hvo : validM m
  · have Hno := hid (hardO_no (D := D) (ss := ss) (m := m) (by rw [hvo]; rfl)); clear hvo
    go_wp2_with fail
    go_ret
    rw [Hno.out]
    exact ⟨_, rfl, (Own.nil 0 _ 3).nums (by simp), Hg1.out⟩
  have HVM := hid (HD.out hvo); have Hval := hid hvo
  have HDL : Hid (m.doms.length = D.length) := hid (by rw [HVM.out.doms, ints_len])
  clear hvo
  go_wp2_with fail
  have hcall := validSoft_c ss m.doms.length _ w1 (Hsv.out.gr Hg1.out) Hss.out (by have := HVM.out.len; have := HDL.out; omega)
  (with_reducible refine hcall.mono ?_)
  clear hcall
  rintro e w2 ⟨rfl, hg2⟩
  have fl2 := fld (hg2.obj Hb1.out (by simp)); have Ho2 := hid (Ho1.out.gr hg2 (by simp))
  have Hg2 := hid (Hg1.out.trans hg2)
  have hs2' := hg2.size
  clear fl1 hg2
  cases hso : softB ss m.doms.length
  · have Hno := hid (hardO_no (D := D) (ss := ss) (m := m) (by rw [hso]; simp)); clear hso
    go_wp2_with fail
    go_ret
    rw [Hno.out]
    exact ⟨_, rfl, (Own.nil 0 _ 3).nums (by simp), Hg2.out⟩
  have Hyes := hid (hardO_yes (D := D) (ss := ss) (m := m) (by rw [Hval.out, hso]; rfl))
  have HSB := hid (softB_iff.1 hso)
  clear hso
  go_wp2_with fail
  have hcall := solve_c m D 4096 _ w2 (Hv.out.gr Hg2.out) HVM.out (by omega) (by omega)
  rw [show ((4096 : Nat) : Int) = 4096 from rfl] at hcall
  (with_reducible refine hcall.mono ?_)
  clear hcall
  rintro e w3 ⟨v3, nd, rfl, hown3, hg3⟩
  rw [all_sols m D HVM.out] at hown3
  obtain ⟨zs, hz⟩ : ∃ zs, zs = sols m.cons D := ⟨_, rfl⟩
  rw [← hz] at hown3
  have Hz := hid hz
  have Hl := hid (hown3.rows (S := [w.heap.size + 1]) (by intro b hb; simp at hb; left; omega))
  obtain ⟨ro, rc, rfl, hr1, hr2, -⟩ := hown3.slice
  have Hg3 := hid (Hg2.out.trans hg3); have Ho3 := hid (Ho2.out.gr hg3 (by simp))
  have hs3' := hg3.size
  have Hsz : Hid (∀ x ∈ zs, x.length = D.length ∧ ∀ y ∈ x, 0 ≤ y ∧ y ≤ 5) := hid (by rw [hz]; exact fun x hx => solv hx)
  have hss4 : ss.length ≤ 4 := HSB.out.1
  clear hown3 hz hg3 fl2
  go_wp2_with fail
  go_loopw [5, 8] (fun v i wr => ∃ (n : Nat) (ov : Value), ov = v ∧ n ≤ ss.length ∧ i = .int .i64 n ∧ Own (w.heap.size + 1) wr 3 v (hardL ss zs n) ∧ Gr [] w wr ∧ RowsV ov.ownBlock.toList wr (.slice ro zs.length rc) zs ∧ w.heap.size + 1 ≤ wr.heap.size) (fun _ i _ => ss.length - (intOf i).toNat)
  case atStart => exact ⟨0, _, rfl, Nat.zero_le _, rfl, Ho3.out, Hg3.out, by simpa [Value.ownBlock] using Hl.out, by omega⟩
  case round =>
    obtain ⟨n, ov, rfl, hn, rfl, hown, hg, hrows, hsz⟩ := hrel
    have Hown := hid hown; have Hg := hid hg; have Hrows := hid hrows
    clear hown hg hrows
    obtain ⟨w5, rfl⟩ : ∃ w5, w5 = wr := ⟨_, rfl⟩
    by_cases hlt : n < ss.length
    · obtain ⟨s, hs⟩ := get_some hlt
      obtain ⟨b, o, vo, vc, xo', xc', ro', rc', rfl, -, ⟨h0, h1, h2, h3, h4, h5⟩, hcon⟩ := (Hsv.out.gr Hg.out).at hs
      have HVC := hid (HSB.out.2 s (List.mem_of_getElem? hs)).2
      have HS := hid (hardL_succ (zs := zs) hs)
      have Hcon := hid hcon
      have HT : Hid (∀ w', Gr [] w5 w' → (w'.cell? ⟨b, o + n * 6, none⟩ = some (.int .i64 s.con.kind) ∧ w'.cell? ⟨b, o + n * 6 + 1, none⟩ = some (.slice vo s.con.vars.length vc) ∧ w'.cell? ⟨b, o + n * 6 + 2, none⟩ = some (.slice xo' s.con.args.length xc') ∧ w'.cell? ⟨b, o + n * 6 + 3, none⟩ = some (.int .i64 s.con.bound) ∧ w'.cell? ⟨b, o + n * 6 + 4, none⟩ = some (.slice ro' s.con.rows.length rc'))) :=
        hid fun w' h => ⟨h.cell h0 (by simp), h.cell h1 (by simp), h.cell h2 (by simp), h.cell h3 (by simp), h.cell h4 (by simp)⟩
      clear hs hcon h0 h1 h2 h3 h4 h5
      go_wp2_with fail
      go_loopw [9, 10] (fun mt k wt => ∃ t : Nat, t ≤ zs.length ∧ k = .int .i64 t ∧ mt = .bool (metAny s (zs.take t)) ∧ Gr [] w5 wt) (fun _ k _ => zs.length - (intOf k).toNat)
      case atStart => exact ⟨0, Nat.zero_le _, rfl, rfl, Gr.refl _ _⟩
      case round =>
        obtain ⟨t, ht, rfl, rfl, hgt⟩ := hrel
        have Hgt := hid hgt
        clear hgt
        obtain ⟨w6, rfl⟩ : ∃ w6, w6 = wr := ⟨_, rfl⟩
        by_cases hlt2 : t < zs.length
        · obtain ⟨x, hx⟩ := get_some hlt2
          obtain ⟨b1, o1, u1, e1, hc1, hn1⟩ := (Hrows.out.gr (Gr.any Hgt.out)).at0 hx
          cases e1
          have HX := hid (Hsz.out x (List.mem_of_getElem? hx))
          have HMS : Hid (metAny s (zs.take (t + 1)) = (metAny s (zs.take t) || metB s x)) := hid (by unfold metAny; rw [List.take_add_one, hx, List.any_append]; simp)
          have Hn1 := hid (hn1.sub (S' := []) (by simp))
          have HVX : Hid (VC s.con x.length) := hid (by rw [HX.out.1, ← HDL.out]; exact HVC.out)
          clear hx hn1
          cases hm : metAny s (zs.take t)
          · have Hm := hid hm
            clear hm
            have HU : Hid (∀ w', Gr [] w6 w' → ((w'.cell? ⟨b, o + n * 6, none⟩ = some (.int .i64 s.con.kind) ∧ w'.cell? ⟨b, o + n * 6 + 1, none⟩ = some (.slice vo s.con.vars.length vc) ∧ w'.cell? ⟨b, o + n * 6 + 2, none⟩ = some (.slice xo' s.con.args.length xc') ∧ w'.cell? ⟨b, o + n * 6 + 3, none⟩ = some (.int .i64 s.con.bound) ∧ w'.cell? ⟨b, o + n * 6 + 4, none⟩ = some (.slice ro' s.con.rows.length rc')) ∧ w'.cell? ⟨b1, o1 + t, none⟩ = some u1) ∧ Gr [] w6 w') :=
              hid fun w' h => ⟨⟨HT.out w' (Hgt.out.trans h), h.cell hc1 (by simp)⟩, h⟩
            clear hc1
            go_wp2_with fail
            go_region_held3 (fun w' => ((w'.cell? ⟨b, o + n * 6, none⟩ = some (.int .i64 s.con.kind) ∧ w'.cell? ⟨b, o + n * 6 + 1, none⟩ = some (.slice vo s.con.vars.length vc) ∧ w'.cell? ⟨b, o + n * 6 + 2, none⟩ = some (.slice xo' s.con.args.length xc') ∧ w'.cell? ⟨b, o + n * 6 + 3, none⟩ = some (.int .i64 s.con.bound) ∧ w'.cell? ⟨b, o + n * 6 + 4, none⟩ = some (.slice ro' s.con.rows.length rc')) ∧ w'.cell? ⟨b1, o1 + t, none⟩ = some u1) ∧ Gr [] w6 w')
              (first | exact HU.out _ ((Gr.refl [] _).drew) | (go_split_ands; exact HU.out _ (Gr.trans (by assumption) hg3)) | (go_split_ands; exact HU.out _ (Gr.trans (by assumption) hg2)))
              (first
                | (go_at_call 55; go_split_ands; refine (project_c s.con x _ _ _ ((Hcon.out.gr Hgt.out).gr (by assumption)) (Hn1.out.gr (by assumption)) (by have := HVC.out.k; have := HVC.out.n4; omega) HVX.out.rng).mono ?_; rintro e w2 ⟨v2, rfl, hown2, hg2⟩)
                | (go_at_call 54; go_split_ands; refine (satisfies_c s.con (word s.con.vars x) _ _ _ ((Hcon.out.gr Hgt.out).gr (by assumption)) (hown2.nums (by simp)) (fit_word HVX.out HX.out.2)).mono ?_; rintro e w3 ⟨rfl, hg3⟩))
            all_goals
              have hg23 : Gr [] w6 w3 := ((Gr.refl [] w6).drew.trans hg2).trans hg3
              have Hg23 := hid (Hgt.out.trans hg23)
              rw [show satB s.con (word s.con.vars x) = metB s x from rfl]
              clear hg23
              go_wp2_with fail
              exact ⟨⟨t + 1, by omega, by go_num, by rw [HMS.out, Hm.out]; simp, Hg23.out⟩, by simp [intOf]; omega⟩
          · have Hm := hid hm
            clear hm
            go_wp2_with fail
            refine wp_region_gr [] _ (by kernel_rfl) (by kernel_rfl) (Gr.refl _ _) ?_
            repeat (go_big_quiet_step (fail))
            refine wpQuiet_nil ?_
            rintro w7 ⟨n7, hw7⟩
            have hg7 : Gr [] w6 w7 := hw7 ▸ n7.gr
            clear hw7 n7
            go_wp2_with fail
            exact ⟨⟨t + 1, by omega, by go_num, by rw [HMS.out, Hm.out]; simp, Hgt.out.trans hg7⟩, by simp [intOf]; omega⟩
        · rw [show zs.take t = zs from List.take_of_length_le (by omega)]
          have hown6 := Hown.out.gr Hgt.out (by simp)
          have hs6 := Hgt.out.size
          have hhl := hardL_len ss zs n
          cases hm : metAny s zs
          · have Hm := hid hm
            clear hm
            have Hown6 := hid hown6
            clear hown6
            go_wp2_with (at_builtin; go_loud (refine wp_app1w rfl _ _ 23 rfl (w.heap.size + 1) 3 infoI Tryz.underlying23 ov (hardL ss zs n) rfl (Hown6.out.alloc _) _ 1 (n : Int) rfl (cell_one _ _ _) (by omega) (by simp; omega) ?_; intro v' w7 hown7 hb7 hwh7))
            have hq7 : Gr _ w6 w7 := (Gr.any ((Gr.refl [] w6).alloc (.cells #[.int .i64 n] 3))).trans hb7
            have hs7 := hq7.size
            refine ⟨⟨n + 1, _, rfl, by omega, by go_num, by rw [HS.out, Hm.out]; exact hown7, ((Hg.out.trans Hgt.out).step hq7 (fun i hi => .inr ?_)), ?_, by omega⟩, by simp [intOf]; omega⟩
            · have := (Hown6.out.own_lt i (by simpa using hi)).1
              omega
            · refine (((Hrows.out.gr (Gr.any Hgt.out)).sub (S' := ov.ownBlock.toList ++ v'.ownBlock.toList) (fun b hb hm => ?_)).gr (hq7.sub (fun k _ hk => List.mem_append.2 (.inl hk)))).sub (fun b _ hm => List.mem_append.2 (.inr hm))
              rcases List.mem_append.1 hm with h | h
              · exact h
              · rcases hwh7 b (by simpa using h) with h' | h'
                · simpa using h'
                · simp at h'; omega
          · have Hm := hid hm
            clear hm
            have Hown6 := hid hown6
            clear hown6
            go_wp2_with fail
            exact ⟨⟨n + 1, _, rfl, by omega, by go_num, by rw [HS.out, Hm.out]; simpa using Hown6.out, Hg.out.trans Hgt.out, Hrows.out.gr (Gr.any Hgt.out), by omega⟩, by simp [intOf]; omega⟩
    · have hne : n = ss.length := by omega
      subst hne
      have Hnm := hid (Hown.out.nums (S := []) (by simp))
      obtain ⟨vo, vc, rfl, -, -⟩ := Hnm.out
      go_wp2_with fail
      go_ret
      rw [Hyes.out, ← Hz.out]
      exact ⟨_, rfl, Hnm.out, Hg.out⟩

end Go.Proofs.YtngpcoilgilmjaaGreat
