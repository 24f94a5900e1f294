/-
  Walks of the program's solving of soft constraints.
-/
import Derived.Test.YtngpcoilgilmjaaGreatSo
import Derived.Test.YtngpcoilgilmjaaGreatRe
import Derived.Test.YtngpcoilgilmjaaGreatCp
set_option linter.unusedVariables false
set_option linter.unusedSimpArgs false
namespace Go.Proofs.YtngpcoilgilmjaaGreat
open Go.RowKit


/-- slices.IndexFunc over rows, with a method's value. -/
theorem idxRowB_c (cs : List (List Int)) (p : List Int → Bool) (v : Value) (k : Nat) (bv : Value) (w : World) (hv : RowsV [] w v cs)
    (hk : ∀ args w, (callFunc k args).run Tryz.prog w = .ok (.enter k args) w)
    (hf : ∀ c cv w1, c ∈ cs → Gr [] w w1 → Nums [] w1 .i64 cv c → Calls Tryz.prog k #[bv, cv] w1 fun e w2 => e = .returned (.bool (p c)) ∧ Gr [] w1 w2) :
    Calls Tryz.prog 110 #[v, .func (.func k) #[bv] #[]] w fun e w' => (∃ i : Int, e = .returned (.int .i64 i) ∧ (0 ≤ i ↔ anyG p cs = true)) ∧ Gr [] w w' := by
  obtain ⟨ao, cap, rfl, ⟨hlc, hcm, _⟩, hc⟩ := hv
  have hlen : cs.length ≤ 9223372036854775807 := by omega
  have Hf := hid hf; clear hf
  have Hc := hid hc; clear hc
  go_enter Tryz.func110, Tryz.ntmps110
  go_wp2_with fail
  go_loopw [8] (fun i wr => ∃ n : Nat, n ≤ cs.length ∧ i = .int .i64 n ∧ (∀ (j : Nat) x, j < n → cs[j]? = some x → p x = false) ∧ Gr [] w wr) (fun i _ => cs.length - (intOf i).toNat)
  case atStart => exact ⟨0, Nat.zero_le _, rfl, by intro j x hj; omega, Gr.refl _ _⟩
  case round =>
    obtain ⟨n, hn, rfl, hp, hg⟩ := hrel
    have HP := hid hp; clear hp
    by_cases hlt : n < cs.length
    · obtain ⟨c, hx⟩ := get_some hlt
      obtain ⟨b, o, cv, rfl, hs, h0, hcv⟩ := (Hc.out.gr hg) n c hx
      have HX := hid hx; clear hx
      have Hcv := hid hcv; clear hcv
      go_wp2_with fail
      refine (Hf.out c _ _ (List.mem_of_getElem? HX.out) hg Hcv.out).mono ?_
      rintro e w2 ⟨rfl, hg2⟩
      cases hb : p c
      all_goals go_wp2_with fail
      · exact ⟨⟨n + 1, by omega, by go_num, below_snoc HP.out HX.out hb, hg.trans hg2⟩, by simp [intOf]; omega⟩
      · go_ret
        exact ⟨⟨n, rfl, ⟨fun _ => anyG_true HX.out hb, fun _ => by omega⟩⟩, hg.trans hg2⟩
    · go_wp2_with fail
      go_ret
      refine ⟨⟨-1, rfl, ⟨fun h => by omega, fun h => ?_⟩⟩, hg⟩
      rw [anyG_false (fun j x hj => HP.out j x (by omega))] at h; cases h

theorem containsRowB_c (cs : List (List Int)) (p : List Int → Bool) (v : Value) (k : Nat) (bv : Value) (w : World) (hv : RowsV [] w v cs)
    (hk : ∀ args w, (callFunc k args).run Tryz.prog w = .ok (.enter k args) w)
    (hf : ∀ c cv w1, c ∈ cs → Gr [] w w1 → Nums [] w1 .i64 cv c → Calls Tryz.prog k #[bv, cv] w1 fun e w2 => e = .returned (.bool (p c)) ∧ Gr [] w1 w2) :
    Calls Tryz.prog 49 #[v, .func (.func k) #[bv] #[]] w fun e w' => e = .returned (.bool (anyG p cs)) ∧ Gr [] w w' := by
  have Hf := hid hf; clear hf
  have Hk := hid hk; clear hk
  go_enter Tryz.func49, Tryz.ntmps49
  go_wp2_with fail
  refine (idxRowB_c cs p v k bv _ hv Hk.out Hf.out).mono ?_
  rintro e w' ⟨⟨i, rfl, hi⟩, hg⟩
  have Hi := hid hi; clear hi
  go_wp2_with fail
  go_ret
  exact ⟨ret_bool (by rw [Bool.eq_iff_iff, ← Hi.out]; simp), hg⟩



theorem solveSoftLit_c (ss : List Sft) (x : List Int) (q : Nat) (sv cv : Value) (W : World) (hv : SftsV [] W sv ss) (hq : W.cell? ⟨q, 0, none⟩ = some sv) (hx : Nums [] W .i64 cv x) (hw : ∀ s ∈ ss, (1 ≤ s.wt ∧ s.wt ≤ 9) ∧ VC s.con x.length) (hl : ss.length ≤ 4) (hr : ∀ y ∈ x, 0 ≤ y ∧ y ≤ 5) :
    Calls Tryz.prog 74 #[cv, .pointer (some ⟨q, 0, none⟩)] W fun e W' => e = .returned (.int .i64 (costN ss x)) ∧ Gr [] W W' := by
  have Hv := hid hv; have Hx := hid hx; have Hw := hid hw; have Hr := hid hr
  obtain ⟨so, sc, rfl, hs1, hs2⟩ := hv.slice
  obtain ⟨xo, xc, rfl, -, -⟩ := hx
  clear hv hw hr
  go_enter Tryz.func74, Tryz.ntmps74
  go_wp2_with fail
  have hcall := softCost_c ss x _ _ W Hv.out Hx.out Hw.out hl Hr.out
  (with_reducible refine hcall.mono ?_)
  clear hcall
  rintro e w1 ⟨rfl, hg1⟩
  go_wp2_with fail
  go_ret
  exact ⟨rfl, hg1⟩
set_option maxRecDepth 100000 in
set_option maxHeartbeats 1000000 in
theorem SolveSoft_c (m : Mod) (ss : List Sft) (mv sv : Value) (w : World) (hv : ModV [] w mv m) (hs : SftsV [] w sv ss) (D : List Nat) (hD : validM m = true → VM m D) :
    Calls Tryz.prog 29 #[mv, sv] w fun e w' => ∃ v', e = .returned (.tuple #[v', .bool (softO m D ss).isSome]) ∧ NumsM (New w.heap.size w') w' v' ((softO m D ss).getD []) ∧ Gr [] w w' := by
  have Hv := hid hv; have HD := hid hD; have Hs := hid hs
  obtain ⟨xo, xc, co, cc, rfl⟩ := hv.slices
  obtain ⟨so, sc, rfl, hs1, hs2⟩ := hs.slice
  have h20 := heap2 w (.cells #[.slice xo m.doms.length xc, .slice co m.cons.length cc] 26) (.cells #[.slice so ss.length sc] 27)
  have hg0 : Gr [] w ((w.alloc (.cells #[.slice xo m.doms.length xc, .slice co m.cons.length cc] 26)).alloc (.cells #[.slice so ss.length sc] 27)) := ((Gr.refl [] w).alloc _).alloc _
  have fl0 := fld h20.1; have fs0 := fld h20.2
  have Hb0 := hid h20.1; have Hc0 := hid h20.2; have Hg0 := hid hg0
  have hs0 : ((w.alloc (.cells #[.slice xo m.doms.length xc, .slice co m.cons.length cc] 26)).alloc (.cells #[.slice so ss.length sc] 27)).heap.size = w.heap.size + 2 := by simp
  clear hv hs h20 hg0 hD
  go_enter Tryz.func29, Tryz.ntmps29
  go_wp2_with fail
  generalize hW0 : (w.alloc (.cells #[.slice xo m.doms.length xc, .slice co m.cons.length cc] 26)).alloc (.cells #[.slice so ss.length sc] 27) = w0 at *
  clear hW0
  have hcall := ValidModel_c m _ w0 (Hv.out.gr Hg0.out)
  (with_reducible refine hcall.mono ?_)
  clear hcall
  rintro e w1 ⟨rfl, hg1⟩
  have Hb1 := hid (hg1.obj Hb0.out (by simp)); have Hc1 := hid (hg1.obj Hc0.out (by simp))
  have fl1 := fld Hb1.out; have fs1 := fld Hc1.out
  have Hg1 := hid (Hg0.out.trans hg1)
  have hs1' := hg1.size
  clear fl0 fs0 hg1
  cases hvm : validM m
  · have Hno := hid (softO_no (D := D) (ss := ss) (m := m) (by rw [hvm]; rfl)); clear hvm
    go_wp2_with fail
    go_ret2
    rw [Hno.out]
    exact ⟨_, rfl, NumsM.nil _ _, Hg1.out⟩
  have HVM := hid (HD.out hvm); have Hval := hid hvm
  have HDL : Hid (m.doms.length = D.length) := hid (by rw [HVM.out.doms, ints_len])
  clear hvm
  go_wp2_with fail
  have hcall := softOk_c ss m.doms.length _ w1 (Hs.out.gr Hg1.out)
  (with_reducible refine hcall.mono ?_)
  clear hcall
  rintro e w2 ⟨rfl, hg2⟩
  have Hb2 := hid (hg2.obj Hb1.out (by simp)); have Hc2 := hid (hg2.obj Hc1.out (by simp))
  have fl2 := fld Hb2.out; have fs2 := fld Hc2.out
  have Hg2 := hid (Hg1.out.trans hg2)
  have hs2' := hg2.size
  clear fl1 fs1 hg2
  cases hso : softB ss m.doms.length
  · have Hno := hid (softO_no (D := D) (ss := ss) (m := m) (by rw [hso]; simp)); clear hso
    go_wp2_with fail
    go_ret2
    rw [Hno.out]
    exact ⟨_, rfl, NumsM.nil _ _, Hg2.out⟩
  have Hyes := hid (softO_yes (D := D) (ss := ss) (m := m) (by rw [Hval.out, hso]; rfl))
  have HSB := hid (softB_iff.1 hso)
  clear hso
  go_wp2_with fail
  have hcall := solutionsD_c m D _ w2 (Hv.out.gr Hg2.out) HVM.out
  (with_reducible refine hcall.mono ?_)
  clear hcall
  rintro e w3 ⟨v3, rfl, ⟨_, hd3⟩, hg3⟩
  have Hd3 := hid (hd3.e.rows (S := []) (by simp))
  obtain ⟨ao, cap, rfl, -, -⟩ := hd3
  have Hg3 := hid (Hg2.out.trans hg3); have Hc3 := hid (hg3.obj Hc2.out (by simp))
  have fs3 := fld Hc3.out
  have hs3' := hg3.size
  clear hg3 fl2 fs2
  go_wp2_with fail
  have hcall := best_c (sols m.cons D) (costN ss) 74 #[.pointer (some ⟨w.heap.size + 1, 0, none⟩)] _ w3 Hd3.out (fun x hx => by have := (solv hx).1; have := HVM.out.len; omega) (fun _ _ => by kernel_rfl) (fun x cv W hx hg hn => solveSoftLit_c ss x _ _ _ W (Hs.out.gr (Hg3.out.trans hg)) (fld (hg.obj Hc3.out (by simp)) 0) hn (fun s hs => by rw [(solv hx).1, ← HDL.out]; exact HSB.out.2 s hs) HSB.out.1 (solv hx).2)
  (with_reducible refine hcall.mono ?_)
  clear hcall
  rintro e w4 ⟨v4, rfl, hn4, hg4⟩
  have Hn4 := hid hn4; have Hg4 := hid hg4
  clear hn4 hg4
  go_wp2_with fail
  go_ret2
  rw [Hyes.out]
  exact ⟨_, rfl, Hn4.out.gr' (Gr.refl [] _) (by simp) (fun b hb h => h.le (by omega) (Nat.le_refl _)), Hg3.out.trans Hg4.out⟩


set_option maxRecDepth 100000 in
set_option maxHeartbeats 2000000 in
theorem Hardest_c (m : Mod) (ss : List Sft) (mv sv : Value) (w : World) (hv : ModV [] w mv m) (hs : SftsV [] w sv ss) (D : List Nat) (hD : validM m = true → VM m D) :
    Calls Tryz.prog 10 #[mv, sv] w fun e w' => ∃ v', e = .returned v' ∧ NumsM (New w.heap.size w') w' v' (hardO m D ss) ∧ Gr [] w w' := by
  have Hv := hid hv; have HD := hid hD; have Hs := hid hs
  obtain ⟨xo, xc, co, cc, rfl⟩ := hv.slices
  obtain ⟨so, sc, rfl, hs1, hs2⟩ := hs.slice
  have hg0 : Gr [] w (w.alloc (.cells #[.slice xo m.doms.length xc, .slice co m.cons.length cc] 26)) := (Gr.refl _ _).alloc _
  have hb0 : (w.alloc (.cells #[.slice xo m.doms.length xc, .slice co m.cons.length cc] 26)).heap[w.heap.size]? = some (.cells #[.slice xo m.doms.length xc, .slice co m.cons.length cc] 26 (0, 0)) := heap_alloc_new _ _
  have fl0 := fld hb0
  have Hg0 := hid hg0; have Hb0 := hid hb0
  clear hv hs hg0 hb0 hD
  go_enter Tryz.func10, Tryz.ntmps10
  go_wp2_with fail
  have hcall := ValidModel_c m _ _ (Hv.out.gr Hg0.out)
  (with_reducible refine hcall.mono ?_)
  clear hcall
  rintro e w1 ⟨rfl, hg1⟩
  have Hb1 := hid (hg1.obj Hb0.out (by simp))
  have fl1 := fld Hb1.out
  have Hg1 := hid (Hg0.out.trans hg1)
  have hs1' := hg1.size
  rw [World.size_alloc] at hs1'
  clear fl0 hg1
  cases hvm : validM m
  · have Hno := hid (hardO_no (D := D) (ss := ss) (m := m) (by rw [hvm]; rfl)); clear hvm
    go_wp2_with fail
    go_ret
    rw [Hno.out]
    exact ⟨_, rfl, NumsM.nil _ _, Hg1.out⟩
  have HVM := hid (HD.out hvm); have Hval := hid hvm
  have HDL : Hid (m.doms.length = D.length) := hid (by rw [HVM.out.doms, ints_len])
  clear hvm
  go_wp2_with fail
  have hcall := softOk_c ss m.doms.length _ w1 (Hs.out.gr Hg1.out)
  (with_reducible refine hcall.mono ?_)
  clear hcall
  rintro e w2 ⟨rfl, hg2⟩
  have Hb2 := hid (hg2.obj Hb1.out (by simp))
  have fl2 := fld Hb2.out
  have Hg2 := hid (Hg1.out.trans hg2)
  have hs2' := hg2.size
  clear fl1 hg2
  cases hso : softB ss m.doms.length
  · have Hno := hid (hardO_no (D := D) (ss := ss) (m := m) (by rw [hso]; simp)); clear hso
    go_wp2_with fail
    go_ret
    rw [Hno.out]
    exact ⟨_, rfl, NumsM.nil _ _, Hg2.out⟩
  have Hyes := hid (hardO_yes (D := D) (ss := ss) (m := m) (by rw [Hval.out, hso]; rfl))
  have HSB := hid (softB_iff.1 hso)
  have hs4 : ss.length ≤ 4 := HSB.out.1
  clear hso
  go_wp2_with fail
  have hcall := solutionsD_c m D _ w2 (Hv.out.gr Hg2.out) HVM.out
  (with_reducible refine hcall.mono ?_)
  clear hcall
  rintro e w3 ⟨v3, rfl, ⟨_, hd3⟩, hg3⟩
  obtain ⟨zs, hz⟩ : ∃ zs, zs = sols m.cons D := ⟨_, rfl⟩
  rw [← hz] at hd3
  have Hz := hid hz
  have Hd3 := hid (hd3.e.rows (S := []) (by simp))
  obtain ⟨ao, cap, rfl, -, -⟩ := hd3
  have Hg3 := hid (Hg2.out.trans hg3)
  have hs3' := hg3.size
  clear hg3 fl2 hz
  have Hzl : Hid (∀ x ∈ zs, x.length = D.length ∧ ∀ z ∈ x, 0 ≤ z ∧ z ≤ 5) := hid (by rw [Hz.out]; exact fun x hx => solv hx)
  go_wp2_with (at_make; refine wp_mk0 rfl _ _ 23 rfl w3.heap.size 3 infoI Tryz.underlying23 ss.length rfl rfl (by omega) (Nat.le_refl _) ?_; intro w4 hown4 hg4; have HO4 := hid hown4; have HG4 := hid hg4; clear hown4 hg4)
  go_loopw [6, 27] (fun v i wr => ∃ n : Nat, n ≤ ss.length ∧ i = .int .i64 n ∧ Own w3.heap.size wr 3 v (hardL ss zs n) ∧ Gr [] w3 wr) (fun _ i _ => ss.length - (intOf i).toNat)
  case atStart => exact ⟨0, Nat.zero_le _, rfl, HO4.out, HG4.out⟩
  case round =>
    obtain ⟨n, hn, rfl, hown, hg⟩ := hrel
    have Hown := hid hown; have Hg := hid hg
    have hsr := hg.size
    clear hown
    by_cases hlt : n < ss.length
    · obtain ⟨s, hs⟩ := get_some hlt
      obtain ⟨b, o, vo, vc, xo', xc', ro, rc, rfl, -, ⟨h0, h1, h2, h3, h4, h5⟩, hcon⟩ := (Hs.out.gr (Hg3.out.trans hg)).at hs
      have HVC := hid (HSB.out.2 s (List.mem_of_getElem? hs)).2
      have HS := hid (hardL_succ (zs := zs) hs)
      have Hcon := hid hcon
      clear hs hcon hg
      have hga : Gr [] wr (wr.alloc (.cells #[.int .i64 s.con.kind, .slice vo s.con.vars.length vc, .slice xo' s.con.args.length xc', .int .i64 s.con.bound, .slice ro s.con.rows.length rc, .int .i64 s.wt] 39)) := (Gr.refl _ _).alloc _
      have hba := heap_alloc_new wr (.cells #[.int .i64 s.con.kind, .slice vo s.con.vars.length vc, .slice xo' s.con.args.length xc', .int .i64 s.con.bound, .slice ro s.con.rows.length rc, .int .i64 s.wt] 39)
      have fla := fld hba
      have Hga := hid hga
      clear hba hga
      go_wp2_with fail
      have hcall := containsRowB_c zs (metB s) _ 50 (.agg #[.int .i64 s.con.kind, .slice vo s.con.vars.length vc, .slice xo' s.con.args.length xc', .int .i64 s.con.bound, .slice ro s.con.rows.length rc]) _ (Hd3.out.gr (Hg.out.trans Hga.out)) (fun _ _ => by kernel_rfl) (fun x cv W hx hg hn => holds_c s.con x _ cv W (Hcon.out.gr (Hga.out.trans hg)) hn (by rw [(Hzl.out x hx).1, ← HDL.out]; exact HVC.out) (Hzl.out x hx).2)
      (with_reducible refine hcall.mono ?_)
      clear hcall
      rw [show anyG (metB s) zs = metAny s zs from rfl]
      rintro e w5 ⟨rfl, hg5⟩
      have Hg5 := hid (Hga.out.trans hg5)
      have hs5 := Hg5.out.size
      clear hg5 fla
      cases hm : metAny s zs
      · have Hm := hid hm
        clear hm
        have hown5 := Hown.out.gr Hg5.out (by simp)
        have hhl := hardL_len ss zs n
        go_wp2_with (at_builtin; go_loud (refine wp_app1 rfl _ _ 23 rfl w3.heap.size 3 infoI Tryz.underlying23 _ (hardL ss zs n) rfl (hown5.alloc _) _ 1 (n : Int) rfl (cell_one _ _ _) (by omega) (by simp; omega) ?_; intro v' w7 hown7 hb7))
        exact ⟨⟨n + 1, by omega, by go_num, by rw [HS.out, Hm.out]; exact hown7, ((Hg.out.trans Hg5.out).alloc _).low hb7 (Nat.le_refl _)⟩, by simp [intOf]; omega⟩
      · have Hm := hid hm
        clear hm
        go_wp2_with fail
        exact ⟨⟨n + 1, by omega, by go_num, by rw [HS.out, Hm.out]; simpa using Hown.out.gr Hg5.out (by simp), Hg.out.trans Hg5.out⟩, by simp [intOf]; omega⟩
    · have hne : n = ss.length := by omega
      subst hne
      have Hnm := hid (Own.numsM Hown.out)
      obtain ⟨vo, vc, rfl, hb⟩ := Hown.out.nums (S := []) (by simp)
      have hvb := hb.1
      clear hg hb
      go_wp2_with fail
      go_ret
      rw [Hyes.out, ← Hz.out]
      obtain ⟨ao', cap', e', ⟨h1, h2, h3⟩, h4⟩ := Hnm.out
      simp only [Value.slice.injEq] at e'
      obtain ⟨rfl, -, rfl⟩ := e'
      exact ⟨_, rfl, ⟨vo, (hardL ss zs ss.length).length, rfl, ⟨Nat.le_refl _, by omega, fun h => by have := h3 h; omega⟩, fun i x hi => by
        obtain ⟨b, o, e1, hm, hc, hf⟩ := h4 i x hi
        exact ⟨b, o, e1, hm.le (by omega) (Nat.le_refl _), hc, hf⟩⟩, Hg3.out.trans Hg.out⟩

end Go.Proofs.YtngpcoilgilmjaaGreat
