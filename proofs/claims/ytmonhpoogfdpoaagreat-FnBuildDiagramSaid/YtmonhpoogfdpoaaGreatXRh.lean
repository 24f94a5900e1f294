/-
  Walks of the law's helpers: equal lists of rows, equal diagrams, membership; the program's Filter; the generator of FnBuildDiagram.
-/
import Derived.Test.YtmonhpoogfdpoaaGreatXOw
import Derived.Test.YtmonhpoogfdpoaaGreatXQFil
import Derived.Test.YtmonhpoogfdpoaaGreatXGE
import Derived.Test.YtmonhpoogfdpoaaGreatXCF
import Derived.Test.YtmonhpoogfdpoaaGreatXHJ
import Derived.Test.YtmonhpoogfdpoaaGreatXG1
set_option linter.unusedVariables false
set_option linter.unusedSimpArgs false
namespace Go.Proofs.YtmonhpoogfdpoaaGreat
open Go.RowKit

theorem lawEqualIntsD_c (xs ys : List Int) (vx vy : Value) (w : World) (hx : Nums [] w .i64 vx xs) (hy : Nums [] w .i64 vy ys) :
    Calls Tryz.prog 47 #[vx, vy] w fun e w' => e = .returned (.bool (decide (xs = ys))) ∧ Gr [] w w' := by
  obtain ⟨xo, xc, rfl, ⟨hx1, hx2, _⟩, hxc⟩ := hx
  obtain ⟨yo, yc, rfl, ⟨hy1, hy2, _⟩, hyc⟩ := hy
  have Hxc := hid hxc; have Hyc := hid hyc; clear hxc hyc
  have hxl : xs.length ≤ 9223372036854775807 := by omega
  have hyl : ys.length ≤ 9223372036854775807 := by omega
  cases hl : ((xs.length : Int) != (ys.length : Int))
  rotate_left
  · have hne : xs ≠ ys := by rintro rfl; simp at hl
    have Hne := hid hne; clear hne
    go_enter Tryz.func47, Tryz.ntmps47
    go_wp2_with fail
    go_ret
    exact ⟨ret_bool (by simp [Hne.out]), Gr.refl _ _⟩
  have hle : xs.length ≤ ys.length := by simp at hl; omega
  have hge : ys.length ≤ xs.length := by simp at hl; omega
  go_enter Tryz.func47, Tryz.ntmps47
  go_wp2_with fail
  go_loopw [5] (fun i wr => ∃ n : Nat, n ≤ xs.length ∧ i = .int .i64 n ∧ (xs.drop n = ys.drop n ↔ xs = ys) ∧ Gr [] w wr) (fun i _ => xs.length - (intOf i).toNat)
  case atStart => exact ⟨0, Nat.zero_le _, rfl, by simp, Gr.refl _ _⟩
  case round =>
    obtain ⟨n, hn, rfl, hd, hg⟩ := hrel
    have Hd := hid hd; clear hd
    by_cases hlt : n < xs.length
    · obtain ⟨x, hx⟩ := get_some hlt
      obtain ⟨y, hy⟩ := get_some (show n < ys.length by omega)
      obtain ⟨b, o, rfl, _, h0⟩ := (Hxc.out.gr hg) n x hx
      obtain ⟨b', o', rfl, _, h1⟩ := (Hyc.out.gr hg) n y hy
      have HX := hid (drop_cons hx); have HY := hid (drop_cons hy); clear hx hy
      have hny : n < ys.length := by omega
      cases hb : (x != y)
      · go_wp2_with fail
        go_quiet (fail)
        go_wp2_with fail
        refine ⟨⟨n + 1, by omega, by go_num, ?_, hg.drewN _⟩, by simp [intOf]; omega⟩
        have := Hd.out
        rw [HX.out, HY.out] at this
        have e : x = y := by simpa using hb
        rw [← this, e]; simp
      · go_wp2_with fail
        go_quiet (fail)
        go_wp2_with fail
        go_ret
        refine ⟨ret_bool ?_, hg.drewN _⟩
        have := Hd.out
        rw [HX.out, HY.out] at this
        have e : x ≠ y := by simpa using hb
        symm
        rw [decide_eq_false_iff_not, ← this]; simp [e]
    · go_wp2_with fail
      go_ret
      refine ⟨ret_bool ?_, hg⟩
      symm
      rw [decide_eq_true_eq, ← Hd.out, drop_end (by omega), drop_end (by omega)]
theorem lawContainsD_c (xs : List Int) (y : Int) (v : Value) (w : World) (hx : Nums [] w .i64 v xs) :
    Calls Tryz.prog 8 #[v, .int .i64 y] w fun e w' => e = .returned (.bool (memB y xs)) ∧ w' = w := by
  obtain ⟨xo, xc, rfl, ⟨hx1, hx2, _⟩, hxc⟩ := hx
  have Hxc := hid hxc; clear hxc
  have hxl : xs.length ≤ 9223372036854775807 := by omega
  go_enter Tryz.func8, Tryz.ntmps8
  go_wp2_with fail
  go_loop [5] (fun i => ∃ n : Nat, n ≤ xs.length ∧ i = .int .i64 n ∧ (y ∈ xs.drop n ↔ y ∈ xs)) (fun i => xs.length - (intOf i).toNat)
  case atStart => exact ⟨0, Nat.zero_le _, rfl, by simp⟩
  case round =>
    obtain ⟨n, hn, rfl, hd⟩ := hrel
    have Hd := hid hd; clear hd
    by_cases hlt : n < xs.length
    · obtain ⟨x, hx⟩ := get_some hlt
      obtain ⟨b, o, rfl, _, h0⟩ := Hxc.out n x hx
      have HX := hid (drop_cons hx); clear hx
      cases hb : (x == y)
      · go_wp2_with fail
        refine ⟨⟨n + 1, by omega, by go_num, ?_⟩, by simp [intOf]; omega⟩
        have := Hd.out
        rw [HX.out] at this
        rw [← this]
        have e : ¬ y = x := by intro e; subst e; simp at hb
        simp [e]
      · go_wp2_with fail
        go_ret
        refine ⟨ret_bool ?_, rfl⟩
        have := Hd.out
        rw [HX.out] at this
        have e : x = y := by simpa using hb
        unfold memB
        symm
        rw [decide_eq_true_eq, ← this, e]; simp
    · go_wp2_with fail
      go_ret
      refine ⟨ret_bool ?_, rfl⟩
      unfold memB
      symm
      rw [decide_eq_false_iff_not, ← Hd.out, drop_end (by omega)]; simp
theorem equalListsT_c (xs : List (List Int)) (vx vy : Value) (w : World) (hx : RowsV [] w vx xs) (hy : RowsV [] w vy xs) :
    Calls Tryz.prog 21 #[vx, vy] w fun e w' => e = .returned (.bool true) ∧ Gr [] w w' := by
  have Hx := hid hx; have Hy := hid hy
  obtain ⟨xo, xc, rfl, ⟨hx1, hx2, _⟩, _⟩ := hx
  obtain ⟨yo, yc, rfl, ⟨hy1, hy2, _⟩, _⟩ := hy
  go_enter Tryz.func21, Tryz.ntmps21
  go_wp2_with fail
  go_loopw [5] (fun i wr => ∃ n : Nat, n ≤ xs.length ∧ i = .int .i64 n ∧ Gr [] w wr) (fun i _ => xs.length - (intOf i).toNat)
  case atStart => exact ⟨0, Nat.zero_le _, rfl, Gr.refl _ _⟩
  case round =>
    obtain ⟨n, hn, rfl, hg⟩ := hrel
    by_cases hlt : n < xs.length
    · obtain ⟨x, hx⟩ := get_some hlt
      obtain ⟨b1, o1, uo1, uc1, rfl, -, hc1, -, hn1⟩ := (Hx.out.gr hg).at3 hx
      obtain ⟨b2, o2, uo2, uc2, rfl, -, hc2, -, hn2⟩ := (Hy.out.gr hg).at3 hx
      have e1 : ∀ k : GrW [] wr, k.val.cell? ⟨b1, o1 + n, none⟩ = some (.slice uo1 x.length uc1) := fun k => k.gr.cell hc1 (by simp)
      have e2 : ∀ k : GrW [] wr, k.val.cell? ⟨b2, o2 + n, none⟩ = some (.slice uo2 x.length uc2) := fun k => k.gr.cell hc2 (by simp)
      have Hn1 := hid hn1; have Hn2 := hid hn2; have Hg := hid hg
      clear hx hn1 hn2 hg hc1 hc2
      have HC : Hid (∀ W, Gr [] wr W → Calls Tryz.prog 47 #[.slice uo1 x.length uc1, .slice uo2 x.length uc2] W fun e w' => e = .returned (.bool true) ∧ Gr [] W w') := hid fun W h => (lawEqualIntsD_c x x _ _ W (Hn1.out.gr h) (Hn2.out.gr h)).mono fun e w' ⟨he, hg⟩ => ⟨by rw [he, decide_eq_true rfl], hg⟩
      go_wp2_with fail
      refine wp_region_gr [] _ (by kernel_rfl) (by kernel_rfl) (Gr.refl _ _) ?_
      repeat (go_big_quiet_step ((go_at_call 47; exact Calls.gr_of (HC.out _ (GrW.gr _)))))
      refine wpQuiet_nil ?_
      rintro w7 ⟨n7, hw7⟩
      have hg7 : Gr [] wr w7 := hw7 ▸ n7.gr
      clear hw7 n7 e1 e2
      go_wp2_with fail
      exact ⟨⟨n + 1, by omega, by go_num, Hg.out.trans hg7⟩, by simp [intOf]; omega⟩
    · go_wp2_with fail
      go_ret
      exact ⟨rfl, hg⟩
theorem equalDiagramsT_c (xs : List (List (List Int))) (vx vy : Value) (w : World) (hx : DgV [] w vx xs) (hy : DgV [] w vy xs) :
    Calls Tryz.prog 6 #[vx, vy] w fun e w' => e = .returned (.bool true) ∧ Gr [] w w' := by
  have Hx := hid hx; have Hy := hid hy
  obtain ⟨xo, xc, rfl, ⟨hx1, hx2, _⟩, _⟩ := hx
  obtain ⟨yo, yc, rfl, ⟨hy1, hy2, _⟩, _⟩ := hy
  go_enter Tryz.func6, Tryz.ntmps6
  go_wp2_with fail
  go_loopw [5] (fun i wr => ∃ n : Nat, n ≤ xs.length ∧ i = .int .i64 n ∧ Gr [] w wr) (fun i _ => xs.length - (intOf i).toNat)
  case atStart => exact ⟨0, Nat.zero_le _, rfl, Gr.refl _ _⟩
  case round =>
    obtain ⟨n, hn, rfl, hg⟩ := hrel
    by_cases hlt : n < xs.length
    · obtain ⟨x, hx⟩ := get_some hlt
      obtain ⟨b1, o1, uo1, uc1, rfl, -, hc1, -, hn1⟩ := (Hx.out.gr hg).at3 hx
      obtain ⟨b2, o2, uo2, uc2, rfl, -, hc2, -, hn2⟩ := (Hy.out.gr hg).at3 hx
      have e1 : ∀ k : GrW [] wr, k.val.cell? ⟨b1, o1 + n, none⟩ = some (.slice uo1 x.length uc1) := fun k => k.gr.cell hc1 (by simp)
      have e2 : ∀ k : GrW [] wr, k.val.cell? ⟨b2, o2 + n, none⟩ = some (.slice uo2 x.length uc2) := fun k => k.gr.cell hc2 (by simp)
      have Hn1 := hid hn1; have Hn2 := hid hn2; have Hg := hid hg
      clear hx hn1 hn2 hg hc1 hc2
      have HC : Hid (∀ W, Gr [] wr W → Calls Tryz.prog 21 #[.slice uo1 x.length uc1, .slice uo2 x.length uc2] W fun e w' => e = .returned (.bool true) ∧ Gr [] W w') := hid fun W h => equalListsT_c x _ _ W (Hn1.out.gr h) (Hn2.out.gr h)
      go_wp2_with fail
      refine wp_region_gr [] _ (by kernel_rfl) (by kernel_rfl) (Gr.refl _ _) ?_
      repeat (go_big_quiet_step ((go_at_call 21; exact Calls.gr_of (HC.out _ (GrW.gr _)))))
      refine wpQuiet_nil ?_
      rintro w7 ⟨n7, hw7⟩
      have hg7 : Gr [] wr w7 := hw7 ▸ n7.gr
      clear hw7 n7 e1 e2
      go_wp2_with fail
      exact ⟨⟨n + 1, by omega, by go_num, Hg.out.trans hg7⟩, by simp [intOf]; omega⟩
    · go_wp2_with fail
      go_ret
      exact ⟨rfl, hg⟩

theorem Filter_c (c : Con) (D : List Nat) (cv dv0 : Value) (w : World) (hv : ConV [] w cv c) (hx : Nums [] w .i64 dv0 (ints D)) (hok : domsOk (ints D) = true) (hvc : validCon c D.length = true) (h64 : Below64 D) :
    Calls Tryz.prog 9 #[cv, dv0] w fun e w' => ∃ v', e = .returned v' ∧ Nums [] w' .i64 v' (ints (filt c D)) ∧ Gr [] w w' := by
  have Hv := hid hv
  have Hx := hid hx
  have hc : VC c D.length := validCon_iff.1 hvc
  have hdl := ints_len D
  obtain ⟨vo, vc, ao, ac, ro, rc, rfl⟩ := hv.slices
  obtain ⟨dO, dc, rfl, ⟨hd1, hd2, _⟩, _⟩ := hx
  rw [hdl] at hd1 ⊢
  rw [hdl] at Hx
  have hb0 := heap_alloc_new w (.cells #[.int .i64 c.kind, .slice vo c.vars.length vc, .slice ao c.args.length ac, .int .i64 c.bound, .slice ro c.rows.length rc] 26)
  have hg0 : Gr [] w (w.alloc (.cells #[.int .i64 c.kind, .slice vo c.vars.length vc, .slice ao c.args.length ac, .int .i64 c.bound, .slice ro c.rows.length rc] 26)) := (Gr.refl _ _).alloc _
  have hfl := fld hb0
  have Hb0 := hid hb0; have Hg0 := hid hg0; have HC := hid hc; have HOK := hid hok; have HVC := hid hvc
  clear hb0 hg0 hc hok hvc hdl
  go_enter Tryz.func9, Tryz.ntmps9
  go_wp2_with fail
  have hcall := domainsOk_c (ints D) _ _ (Hx.out.gr Hg0.out)
  (with_reducible refine hcall.mono ?_)
  clear hcall
  rw [HOK.out]
  rintro e w1 ⟨rfl, hg1⟩
  have hfl1 := fld (hg1.obj Hb0.out (by simp))
  have Hg1 := hid (Hg0.out.trans hg1); have HB1 := hid (hg1.obj Hb0.out (by simp))
  clear hg1 hfl
  go_wp2_with fail
  have hcall := ValidConstraint_c c (D.length : Int) _ _ (Hv.out.gr Hg1.out)
  (with_reducible refine hcall.mono ?_)
  clear hcall
  rw [HVC.out]
  rintro e w2 ⟨rfl, hg2⟩
  have hfl2 := fld (hg2.obj HB1.out (by simp))
  have Hg2 := hid (Hg1.out.trans hg2)
  clear hg2 hfl1
  go_wp2_with fail
  have hcall := filter_c c D _ _ _ (Hv.out.gr Hg2.out) (Hx.out.gr Hg2.out) HC.out h64
  (with_reducible refine hcall.mono ?_)
  clear hcall
  rintro e w3 ⟨v', rfl, hown, hg3⟩
  go_wp2_with fail
  go_ret
  exact ⟨_, rfl, OwnC.nums' hown (by simp), Hg2.out.trans hg3⟩

set_option maxRecDepth 100000 in
set_option maxHeartbeats 1000000 in
theorem DrawBuildDiagram_c (v : Value) (bs : List Int) (w : World) (ao : Option Addr) (cap : Nat) (hv : v = .slice ao bs.length cap) (hlen : bs.length ≤ 9223372036854775807) (hcap : bs.length ≤ cap) (hc : Cells [] w .u8 ao bs) (hb : ∀ b ∈ bs, 0 ≤ b ∧ b ≤ 255) :
    Calls Tryz.prog 4 #[v] w fun e w' => ∃ (c : Con) (cv dv : Value) (ds : List Int), e = .returned (.tuple #[cv, dv]) ∧ ConV [] w' cv c ∧ Nums [] w' .i64 dv ds ∧ c.Small ∧ (1 ≤ ds.length ∧ ds.length ≤ 4) ∧ Gr [] w w' := by
  subst hv
  have Hc := hid hc; have Hb := hid hb; clear hc hb
  have hg0 : Gr [] w (w.alloc (.cells #[.int .i64 0, .slice none 0 0, .slice none 0 0, .int .i64 0, .slice none 0 0] 26)) := (Gr.refl _ _).alloc _
  have hb0 := heap_alloc_new w (.cells #[.int .i64 0, .slice none 0 0, .slice none 0 0, .int .i64 0, .slice none 0 0] 26)
  have Hg0 := hid hg0; have Hb0 := hid hb0
  clear hg0 hb0
  go_enter Tryz.func4, Tryz.ntmps4
  go_wp2_with fail
  have hcall := newReader_c _ bs _ ao cap rfl hlen hcap (Hc.out.gr Hg0.out) Hb.out
  (with_reducible refine hcall.mono ?_)
  clear hcall
  rintro e w1 ⟨⟨R, cs, rfl, hR, hrd1⟩, hg1⟩
  simp only [World.size_alloc] at hR
  have hRl1 := hrd1.lt
  go_wp2_with fail
  have hcall := constraintAndDomains_c R cs 0 _ hrd1 (by omega)
  (with_reducible refine hcall.mono ?_)
  clear hcall
  rintro e w2 ⟨c, vo, vc, xo, xc, ro, rc, ds, g, dc, rfl, hcon, hown, ⟨hd1, hd4⟩, hsm, hv1, hrd2, hg2⟩
  have hb2 := hg2.obj (hg1.obj Hb0.out (by simp)) (by simp; omega)
  have hs12 := hg2.size
  have hwl : w.heap.size < w1.heap.size := lt_of_block (hg1.obj Hb0.out (by simp))
  obtain ⟨g', dc', e1, ⟨hgB, hgl⟩, -, -⟩ := hown.open (by omega)
  have e2 : g = g' := by simp at e1; exact e1.1
  subst e2
  clear e1
  have fB := fld hb2; have ffB := fldF hb2
  have HB2 := hid hb2; have Hcon := hid hcon; have Hown := hid hown; have Hsm := hid hsm
  have HG2 := hid ((Hg0.out.trans hg1).step hg2 (fun i hi => .inr (by simp at hi; omega)))
  clear hb2 hcon hown hsm hg1 hg2 hrd1 hrd2
  go_wp2_with fail
  have hbE := block_cells (cur' := #[]) (block_cells (cur' := #[]) (block_cells (cur' := #[]) (block_cells (cur' := #[]) (block_cells (cur' := #[]) HB2.out 0 (.int .i64 c.kind)) 1 (.slice vo c.vars.length vc)) 2 (.slice xo c.args.length xc)) 3 (.int .i64 c.bound)) 4 (.slice ro c.rows.length rc)
  have flE := fld hbE
  have hgE : Gr [w.heap.size] w2 (((((w2.setCell ⟨w.heap.size, 0, none⟩ (.int .i64 c.kind)).setCell ⟨w.heap.size, 1, none⟩ (.slice vo c.vars.length vc)).setCell ⟨w.heap.size, 2, none⟩ (.slice xo c.args.length xc)).setCell ⟨w.heap.size, 3, none⟩ (.int .i64 c.bound)).setCell ⟨w.heap.size, 4, none⟩ (.slice ro c.rows.length rc)) :=
    (((((Gr.refl _ _).setCell _ _ (.inl (by simp))).setCell _ _ (.inl (by simp))).setCell _ _ (.inl (by simp))).setCell _ _ (.inl (by simp))).setCell _ _ (.inl (by simp))
  refine bodyPost_ret (v := .tuple #[.agg #[.int .i64 c.kind, .slice vo c.vars.length vc, .slice xo c.args.length xc, .int .i64 c.bound, .slice ro c.rows.length rc], .slice (some ⟨g, 0, none⟩) ds.length dc]) ?_ rfl ?_
  · simp [results, Tryz.results4, go_sem, flE]
  · exact ⟨c, _, _, ds, rfl, ((Hcon.out [w.heap.size] (by simp; omega)).gr hgE).sub (by simp), (Hown.out.gr hgE (by simp; omega)).nums (by simp), Hsm.out, ⟨hd1, hd4⟩, HG2.out.step hgE (fun i hi => .inr (by simp at hi; omega))⟩
end Go.Proofs.YtmonhpoogfdpoaaGreat
