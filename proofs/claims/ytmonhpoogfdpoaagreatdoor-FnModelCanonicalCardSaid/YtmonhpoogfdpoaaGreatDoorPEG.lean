/-
  Walks of the exact laws: comparisons, marks.
  Walks of the exact laws: marks upon a model.
-/
import Derived.Test.YtmonhpoogfdpoaaGreatDoorPEE
import Derived.Deep.RegionHeld3
set_option linter.unusedVariables false
namespace Go.Proofs.YtmonhpoogfdpoaaGreatDoor
open Go.RowKit

theorem eqIntS_c (xs ys : List Int) (vx vy : Value) (w : World) (hx : Nums [] w .i64 vx xs) (hy : Nums [] w .i64 vy ys) :
    Calls Tryz.prog 42 #[vx, vy] w fun e w' => e = .returned (.bool (decide (xs = ys))) ∧ Gr [] w w' := by
  obtain ⟨xo, xc, rfl, ⟨hx1, hx2, _⟩, hxc⟩ := hx
  obtain ⟨yo, yc, rfl, ⟨hy1, hy2, _⟩, hyc⟩ := hy
  have Hxc := hid hxc; have Hyc := hid hyc; clear hxc hyc
  have hxl : xs.length ≤ 9223372036854775807 := by omega
  have hyl : ys.length ≤ 9223372036854775807 := by omega
  cases hl : ((xs.length : Int) != (ys.length : Int))
  rotate_left
  · have hne : xs ≠ ys := by rintro rfl; simp at hl
    have Hne := hid hne; clear hne
    go_enter Tryz.func42, Tryz.ntmps42
    go_wp2_with fail
    go_ret
    exact ⟨ret_bool (by simp [Hne.out]), Gr.refl _ _⟩
  have hle : xs.length ≤ ys.length := by simp at hl; omega
  have hge : ys.length ≤ xs.length := by simp at hl; omega
  go_enter Tryz.func42, Tryz.ntmps42
  go_wp2_with fail
  go_loopw [5] (fun i wr => ∃ n : Nat, n ≤ xs.length ∧ i = .int .i64 n ∧ (xs.drop n = ys.drop n ↔ xs = ys) ∧ Gr [] w wr) (fun i _ => xs.length - (intOf i).toNat)
  case atStart => exact ⟨0, Nat.zero_le _, rfl, by simp, Gr.refl _ _⟩
  case round =>
    obtain ⟨n, hn, rfl, hd, hg⟩ := hrel
    have Hd := hid hd; clear hd
    by_cases hlt : n < xs.length
    · obtain ⟨x, hx⟩ := get_some hlt
      obtain ⟨y, hy⟩ := get_some (show n < ys.length by omega)
      obtain ⟨b, o, rfl, _, h0⟩ := (Hxc.out.gr hg) n x hx
      obtain ⟨b', o', rfl, _, h1⟩ := (Hyc.out.gr hg) n y hy
      have HX := hid (drop_cons hx); have HY := hid (drop_cons hy); clear hx hy
      have hny : n < ys.length := by omega
      cases hb : (x != y)
      · go_wp2_with fail
        go_quiet (fail)
        go_wp2_with fail
        refine ⟨⟨n + 1, by omega, by go_num, ?_, hg.drewN _⟩, by simp [intOf]; omega⟩
        have := Hd.out
        rw [HX.out, HY.out] at this
        have e : x = y := by simpa using hb
        rw [← this, e]; simp
      · go_wp2_with fail
        go_quiet (fail)
        go_wp2_with fail
        go_ret
        refine ⟨ret_bool ?_, hg.drewN _⟩
        have := Hd.out
        rw [HX.out, HY.out] at this
        have e : x ≠ y := by simpa using hb
        symm
        rw [decide_eq_false_iff_not, ← this]; simp [e]
    · go_wp2_with fail
      go_ret
      refine ⟨ret_bool ?_, hg⟩
      symm
      rw [decide_eq_true_eq, ← Hd.out, drop_end (by omega), drop_end (by omega)]

/-- Domains that no constraint changes are those that propagation leaves as they are. -/

theorem eqIntSS_t (xs : List (List Int)) (vx vy : Value) (w : World) (hx : RowsV [] w vx xs) (hy : RowsV [] w vy xs) :
    Calls Tryz.prog 111 #[vx, vy] w fun e w' => e = .returned (.bool true) ∧ Gr [] w w' := by
  have Hx := hid hx; have Hy := hid hy
  obtain ⟨xo, xc, rfl, ⟨hx1, hx2, _⟩, _⟩ := hx
  obtain ⟨yo, yc, rfl, ⟨hy1, hy2, _⟩, _⟩ := hy
  go_enter Tryz.func111, Tryz.ntmps111
  go_wp2_with fail
  go_loopw [5] (fun i wr => ∃ n : Nat, n ≤ xs.length ∧ i = .int .i64 n ∧ Gr [] w wr) (fun i _ => xs.length - (intOf i).toNat)
  case atStart => exact ⟨0, Nat.zero_le _, rfl, Gr.refl _ _⟩
  case round =>
    obtain ⟨n, hn, rfl, hg⟩ := hrel
    by_cases hlt : n < xs.length
    · obtain ⟨x, hx⟩ := get_some hlt
      obtain ⟨b1, o1, u1, rfl, hc1, hn1⟩ := (Hx.out.gr hg).at0 hx
      obtain ⟨b2, o2, u2, rfl, hc2, hn2⟩ := (Hy.out.gr hg).at0 hx
      have HS : Hid (∀ w', Gr [] wr w' → w'.cell? ⟨b1, o1 + n, none⟩ = some u1 ∧ w'.cell? ⟨b2, o2 + n, none⟩ = some u2 ∧ Gr [] wr w') := hid fun w' h => ⟨h.cell hc1 (by simp), h.cell hc2 (by simp), h⟩
      have Hn1 := hid hn1; have Hn2 := hid hn2; have Hg := hid hg
      clear hx hn1 hn2 hg
      go_wp2_with fail
      go_region_held3 (fun w' => w'.cell? ⟨b1, o1 + n, none⟩ = some u1 ∧ w'.cell? ⟨b2, o2 + n, none⟩ = some u2 ∧ Gr [] wr w')
        (first | exact HS.out _ ((Gr.refl [] _).drew) | (go_split_ands; exact HS.out _ (Gr.trans (by assumption) hg3)))
        (first
          | (go_at_call 42; go_split_ands; refine (eqIntS_c x x _ _ _ (Hn1.out.gr (by assumption)) (Hn2.out.gr (by assumption))).mono ?_; rw [decide_eq_true (rfl : x = x)]; rintro e w3 ⟨rfl, hg3⟩))
      all_goals
        go_wp2_with fail
        exact ⟨⟨n + 1, by omega, by go_num, (Hg.out.trans ((Gr.refl _ _).drew)).trans hg3⟩, by simp [intOf]; omega⟩
    · go_wp2_with fail
      go_ret
      exact ⟨rfl, hg⟩

theorem eqIntS_t (xs : List Int) (vx vy : Value) (w : World) (hx : Nums [] w .i64 vx xs) (hy : Nums [] w .i64 vy xs) :
    Calls Tryz.prog 42 #[vx, vy] w fun e w' => e = .returned (.bool true) ∧ Gr [] w w' := by
  have h := eqIntS_c xs xs vx vy w hx hy
  rwa [decide_eq_true (rfl : xs = xs)] at h

set_option maxRecDepth 100000 in
theorem eqConstraint_t (c : Con) (v1 v2 : Value) (w : World) (h1 : ConV [] w v1 c) (h2 : ConV [] w v2 c) :
    Calls Tryz.prog 80 #[v1, v2] w fun e w' => e = .returned (.bool true) ∧ Gr [] w w' := by
  obtain ⟨vo, vc, ao, ac, ro, rc, rfl, n1, n2, n3⟩ := h1.open
  obtain ⟨vo', vc', ao', ac', ro', rc', rfl, m1, m2, m3⟩ := h2.open
  have hg0 : Gr [] w ((w.alloc (.cells #[.int .i64 c.kind, .slice vo c.vars.length vc, .slice ao c.args.length ac, .int .i64 c.bound, .slice ro c.rows.length rc] 49)).alloc (.cells #[.int .i64 c.kind, .slice vo' c.vars.length vc', .slice ao' c.args.length ac', .int .i64 c.bound, .slice ro' c.rows.length rc'] 49)) := ((Gr.refl _ _).alloc _).alloc _
  have hb1 : ((w.alloc (.cells #[.int .i64 c.kind, .slice vo c.vars.length vc, .slice ao c.args.length ac, .int .i64 c.bound, .slice ro c.rows.length rc] 49)).alloc (.cells #[.int .i64 c.kind, .slice vo' c.vars.length vc', .slice ao' c.args.length ac', .int .i64 c.bound, .slice ro' c.rows.length rc'] 49)).heap[w.heap.size]? = some (.cells #[.int .i64 c.kind, .slice vo c.vars.length vc, .slice ao c.args.length ac, .int .i64 c.bound, .slice ro c.rows.length rc] 49 (0, 0)) := (heap_alloc_old _ _ (by simp)).trans (heap_alloc_new _ _)
  have hb2 : ((w.alloc (.cells #[.int .i64 c.kind, .slice vo c.vars.length vc, .slice ao c.args.length ac, .int .i64 c.bound, .slice ro c.rows.length rc] 49)).alloc (.cells #[.int .i64 c.kind, .slice vo' c.vars.length vc', .slice ao' c.args.length ac', .int .i64 c.bound, .slice ro' c.rows.length rc'] 49)).heap[w.heap.size + 1]? = some (.cells #[.int .i64 c.kind, .slice vo' c.vars.length vc', .slice ao' c.args.length ac', .int .i64 c.bound, .slice ro' c.rows.length rc'] 49 (0, 0)) := by
    have := heap_alloc_new (w.alloc (.cells #[.int .i64 c.kind, .slice vo c.vars.length vc, .slice ao c.args.length ac, .int .i64 c.bound, .slice ro c.rows.length rc] 49)) (.cells #[.int .i64 c.kind, .slice vo' c.vars.length vc', .slice ao' c.args.length ac', .int .i64 c.bound, .slice ro' c.rows.length rc'] 49)
    rwa [World.size_alloc] at this
  have N1 := hid (n1.gr hg0); have N2 := hid (n2.gr hg0); have N3 := hid (n3.gr hg0)
  have M1 := hid (m1.gr hg0); have M2 := hid (m2.gr hg0); have M3 := hid (m3.gr hg0)
  have Hg0 := hid hg0; have Hb1 := hid hb1; have Hb2 := hid hb2
  have f1 := fld hb1; have f2 := fld hb2
  clear n1 n2 n3 m1 m2 m3 hg0 hb1 hb2 h1 h2
  go_enter Tryz.func80, Tryz.ntmps80
  go_wp2_with fail
  have hcall := eqIntS_t c.vars _ _ _ N1.out M1.out
  (with_reducible refine hcall.mono ?_)
  clear hcall
  rintro e w2 ⟨rfl, hg2⟩
  have g1 := fld (hg2.obj Hb1.out (by simp)); have g2 := fld (hg2.obj Hb2.out (by simp))
  have Hg2 := hid hg2
  clear f1 f2 hg2
  go_wp2_with fail
  have hcall := eqIntS_t c.args _ _ _ (N2.out.gr Hg2.out) (M2.out.gr Hg2.out)
  (with_reducible refine hcall.mono ?_)
  clear hcall
  rintro e w3 ⟨rfl, hg3⟩
  have f1 := fld ((Hg2.out.trans hg3).obj Hb1.out (by simp)); have f2 := fld ((Hg2.out.trans hg3).obj Hb2.out (by simp))
  have Hg3 := hid (Hg2.out.trans hg3)
  clear g1 g2 hg3
  go_wp2_with fail
  have hcall := eqIntSS_t c.rows _ _ _ (N3.out.gr Hg3.out) (M3.out.gr Hg3.out)
  (with_reducible refine hcall.mono ?_)
  clear hcall
  rintro e w4 ⟨rfl, hg4⟩
  go_wp2_with fail
  go_ret
  exact ⟨rfl, (Hg0.out.trans Hg3.out).trans hg4⟩

theorem ConsV.at2 {S : List Nat} {w : World} {ao : Option Addr} {n cap : Nat} {cs : List Con} (h : ConsV S w (.slice ao n cap) cs) {k : Nat} {c : Con} (hi : cs[k]? = some c) :
    ∃ b o vo vc xo xc ro rc, ao = some ⟨b, o, none⟩ ∧ b ∉ S ∧ (w.cell? ⟨b, o + k * 5, none⟩ = some (.int .i64 c.kind) ∧ w.cell? ⟨b, o + k * 5 + 1, none⟩ = some (.slice vo c.vars.length vc) ∧ w.cell? ⟨b, o + k * 5 + 2, none⟩ = some (.slice xo c.args.length xc) ∧
     w.cell? ⟨b, o + k * 5 + 3, none⟩ = some (.int .i64 c.bound) ∧ w.cell? ⟨b, o + k * 5 + 4, none⟩ = some (.slice ro c.rows.length rc)) ∧ ConV S w (.agg #[.int .i64 c.kind, .slice vo c.vars.length vc, .slice xo c.args.length xc, .int .i64 c.bound, .slice ro c.rows.length rc]) c := by
  obtain ⟨ao', cap', e, _, hc⟩ := h
  simp only [Value.slice.injEq] at e
  obtain ⟨rfl, _, _⟩ := e
  exact hc.at2 hi

set_option maxRecDepth 100000 in
theorem eqConstraintS_t (cs : List Con) (vx vy : Value) (w : World) (hx : ConsV [] w vx cs) (hy : ConsV [] w vy cs) :
    Calls Tryz.prog 43 #[vx, vy] w fun e w' => e = .returned (.bool true) ∧ Gr [] w w' := by
  have Hx := hid hx; have Hy := hid hy
  obtain ⟨xo, xc, rfl, ⟨hx1, hx2, _⟩, _⟩ := hx
  obtain ⟨yo, yc, rfl, ⟨hy1, hy2, _⟩, _⟩ := hy
  go_enter Tryz.func43, Tryz.ntmps43
  go_wp2_with fail
  go_loopw [5] (fun i wr => ∃ n : Nat, n ≤ cs.length ∧ i = .int .i64 n ∧ Gr [] w wr) (fun i _ => cs.length - (intOf i).toNat)
  case atStart => exact ⟨0, Nat.zero_le _, rfl, Gr.refl _ _⟩
  case round =>
    obtain ⟨n, hn, rfl, hg⟩ := hrel
    by_cases hlt : n < cs.length
    · obtain ⟨x, hx⟩ := get_some hlt
      obtain ⟨b, o, vo, vc, xo, xc, ro, rc, rfl, _, ⟨c0, c1, c2, c3, c4⟩, hcon⟩ := (Hx.out.gr hg).at2 hx
      obtain ⟨b', o', vo', vc', xo', xc', ro', rc', rfl, _, ⟨d0, d1, d2, d3, d4⟩, hcon'⟩ := (Hy.out.gr hg).at2 hx
      have e0 : ∀ k : GrW [] wr, k.val.cell? ⟨b, o + n * 5, none⟩ = some (.int .i64 x.kind) := fun k => k.gr.cell c0 (by simp)
      have e1 : ∀ k : GrW [] wr, k.val.cell? ⟨b, o + n * 5 + 1, none⟩ = some (.slice vo x.vars.length vc) := fun k => k.gr.cell c1 (by simp)
      have e2 : ∀ k : GrW [] wr, k.val.cell? ⟨b, o + n * 5 + 2, none⟩ = some (.slice xo x.args.length xc) := fun k => k.gr.cell c2 (by simp)
      have e3 : ∀ k : GrW [] wr, k.val.cell? ⟨b, o + n * 5 + 3, none⟩ = some (.int .i64 x.bound) := fun k => k.gr.cell c3 (by simp)
      have e4 : ∀ k : GrW [] wr, k.val.cell? ⟨b, o + n * 5 + 4, none⟩ = some (.slice ro x.rows.length rc) := fun k => k.gr.cell c4 (by simp)
      have e0' : ∀ k : GrW [] wr, k.val.cell? ⟨b', o' + n * 5, none⟩ = some (.int .i64 x.kind) := fun k => k.gr.cell d0 (by simp)
      have e1' : ∀ k : GrW [] wr, k.val.cell? ⟨b', o' + n * 5 + 1, none⟩ = some (.slice vo' x.vars.length vc') := fun k => k.gr.cell d1 (by simp)
      have e2' : ∀ k : GrW [] wr, k.val.cell? ⟨b', o' + n * 5 + 2, none⟩ = some (.slice xo' x.args.length xc') := fun k => k.gr.cell d2 (by simp)
      have e3' : ∀ k : GrW [] wr, k.val.cell? ⟨b', o' + n * 5 + 3, none⟩ = some (.int .i64 x.bound) := fun k => k.gr.cell d3 (by simp)
      have e4' : ∀ k : GrW [] wr, k.val.cell? ⟨b', o' + n * 5 + 4, none⟩ = some (.slice ro' x.rows.length rc') := fun k => k.gr.cell d4 (by simp)
      have Hn1 := hid hcon; have Hn2 := hid hcon'; have Hg := hid hg
      clear hx hcon hcon' hg c0 c1 c2 c3 c4 d0 d1 d2 d3 d4
      go_wp2_with fail
      refine wp_region_gr [] _ (by kernel_rfl) (by kernel_rfl) (Gr.refl _ _) ?_
      repeat (go_big_quiet_step ((go_at_call 80; exact Calls.gr_of (eqConstraint_t x _ _ _ (Hn1.out.gr (GrW.gr _)) (Hn2.out.gr (GrW.gr _))))))
      refine wpQuiet_nil ?_
      rintro w7 ⟨n7, hw7⟩
      have hg7 : Gr [] wr w7 := hw7 ▸ n7.gr
      clear hw7 n7 e0 e1 e2 e3 e4 e0' e1' e2' e3' e4'
      go_wp2_with fail
      exact ⟨⟨n + 1, by omega, by go_num, Hg.out.trans hg7⟩, by simp [intOf]; omega⟩
    · go_wp2_with fail
      go_ret
      exact ⟨rfl, hg⟩

theorem eqModel_t (m : Mod) (v1 v2 : Value) (w : World) (h1 : ModV [] w v1 m) (h2 : ModV [] w v2 m) :
    Calls Tryz.prog 14 #[v1, v2] w fun e w' => e = .returned (.bool true) ∧ Gr [] w w' := by
  obtain ⟨dv, cv, rfl, hd, hc⟩ := h1
  obtain ⟨dv', cv', rfl, hd', hc'⟩ := h2
  have Hd := hid hd; have Hc := hid hc; have Hd' := hid hd'; have Hc' := hid hc'
  obtain ⟨xo, xc, rfl, -, -⟩ := hd
  obtain ⟨co, cc, rfl, -, -⟩ := hc
  obtain ⟨xo', xc', rfl, -, -⟩ := hd'
  obtain ⟨co', cc', rfl, -, -⟩ := hc'
  have hg0 : Gr [] w ((w.alloc (.cells #[.slice xo m.doms.length xc, .slice co m.cons.length cc] 27)).alloc (.cells #[.slice xo' m.doms.length xc', .slice co' m.cons.length cc'] 27)) := ((Gr.refl _ _).alloc _).alloc _
  have hb1 : ((w.alloc (.cells #[.slice xo m.doms.length xc, .slice co m.cons.length cc] 27)).alloc (.cells #[.slice xo' m.doms.length xc', .slice co' m.cons.length cc'] 27)).heap[w.heap.size]? = some (.cells #[.slice xo m.doms.length xc, .slice co m.cons.length cc] 27 (0, 0)) := (heap_alloc_old _ _ (by simp)).trans (heap_alloc_new _ _)
  have hb2 : ((w.alloc (.cells #[.slice xo m.doms.length xc, .slice co m.cons.length cc] 27)).alloc (.cells #[.slice xo' m.doms.length xc', .slice co' m.cons.length cc'] 27)).heap[w.heap.size + 1]? = some (.cells #[.slice xo' m.doms.length xc', .slice co' m.cons.length cc'] 27 (0, 0)) := by
    have := heap_alloc_new (w.alloc (.cells #[.slice xo m.doms.length xc, .slice co m.cons.length cc] 27)) (.cells #[.slice xo' m.doms.length xc', .slice co' m.cons.length cc'] 27)
    rwa [World.size_alloc] at this
  have Hg0 := hid hg0; have Hb1 := hid hb1; have Hb2 := hid hb2
  have f1 := fld hb1; have f2 := fld hb2
  clear hg0 hb1 hb2
  go_enter Tryz.func14, Tryz.ntmps14
  go_wp2_with fail
  have hcall := eqIntS_t m.doms _ _ _ (Hd.out.gr Hg0.out) (Hd'.out.gr Hg0.out)
  (with_reducible refine hcall.mono ?_)
  clear hcall
  rintro e w2 ⟨rfl, hg2⟩
  have g1 := fld (hg2.obj Hb1.out (by simp)); have g2 := fld (hg2.obj Hb2.out (by simp))
  have Hg2 := hid (Hg0.out.trans hg2)
  clear f1 f2 hg2
  go_wp2_with fail
  have hcall := eqConstraintS_t m.cons _ _ _ (Hc.out.gr Hg2.out) (Hc'.out.gr Hg2.out)
  (with_reducible refine hcall.mono ?_)
  clear hcall
  rintro e w4 ⟨rfl, hg4⟩
  go_wp2_with fail
  go_ret
  exact ⟨rfl, Hg2.out.trans hg4⟩

/-! ### Marks -/
def marks (k : Int) (n : Nat) : List Int := (List.range n).map fun i : Nat => k + i
theorem marks_len (k : Int) (n : Nat) : (marks k n).length = n := by simp [marks]
theorem marks_get (k : Int) (n i : Nat) (h : i < n) : (marks k n)[i]? = some (k + i) := by simp [marks, h]
theorem marks_succ (k : Int) (n : Nat) : marks k (n + 1) = marks k n ++ [k + n] := by simp [marks, List.range_succ]
theorem NumsM.set {M : Nat → Prop} {w : World} {b o n cap : Nat} {xs : List Int} (h : NumsM M w (.slice (some ⟨b, o, none⟩) n cap) xs) (k : Nat) (y : Int) :
    NumsM M (w.setCell ⟨b, o + k, none⟩ (.int .i64 y)) (.slice (some ⟨b, o, none⟩) n cap) (xs.set k y) := by
  obtain ⟨ao, cap', e, hl, h⟩ := h
  simp only [Value.slice.injEq] at e
  obtain ⟨rfl, rfl, rfl⟩ := e
  refine ⟨_, _, by rw [List.length_set], by rw [List.length_set]; exact hl, fun i r' hi => ?_⟩
  by_cases hik : k = i
  · subst hik
    have hk : k < xs.length := by have := (List.getElem?_eq_some_iff.1 hi).1; simpa using this
    rw [List.getElem?_set_self hk] at hi
    cases hi
    obtain ⟨r0, hr0⟩ := get_some hk
    obtain ⟨b', o', e1, hm, hc, hf⟩ := h k r0 hr0
    cases e1
    exact ⟨b, o, rfl, hm, World.cell?_setCell_same _ _ _ hc, by simpa using hf⟩
  · rw [List.getElem?_set_ne hik] at hi
    obtain ⟨b', o', e1, hm, hc, hf⟩ := h i r' hi
    cases e1
    refine ⟨b, o, rfl, hm, (World.cell?_setCell_other _ _ _ _ ?_).trans hc, by simpa using hf⟩
    intro e; simp at e; try omega

theorem heldIntS_t (n : Nat) (k : Int) (v : Value) (w : World) (hv : Nums [] w .i64 v (marks k n)) (hk : 0 ≤ k ∧ k ≤ 1000000000) (hl : n ≤ 1000000000) :
    Calls Tryz.prog 46 #[v, .int .i64 k] w fun e w' => e = .returned (.int .i64 (k + n)) ∧ Gr [] w w' := by
  have Hv := hid hv
  obtain ⟨ao, cap, rfl, ⟨h1, h2, _⟩, _⟩ := hv
  rw [marks_len] at h1 Hv ⊢
  go_enter Tryz.func46, Tryz.ntmps46
  go_wp2_with fail
  go_loopw [1, 5] (fun kv i wr => ∃ j : Nat, j ≤ n ∧ i = .int .i64 j ∧ kv = .int .i64 (k + j) ∧ Gr [] w wr) (fun _ i _ => n - (intOf i).toNat)
  case atStart => exact ⟨0, Nat.zero_le _, rfl, by simp, Gr.refl _ _⟩
  case round =>
    obtain ⟨j, hj, rfl, rfl, hg⟩ := hrel
    by_cases hlt : j < n
    · obtain ⟨b, o, rfl, _, h0⟩ := (Hv.out.gr hg).at (marks_get k n j hlt)
      go_wp2_with fail
      exact ⟨⟨j + 1, by omega, by go_num, by go_num, hg⟩, by simp [intOf]; omega⟩
    · have hnl : j = n := by omega
      have Hnl := hid hnl
      clear hnl
      go_wp2_with fail
      go_ret
      exact ⟨ret_int (by rw [Hnl.out]), hg⟩

def mkR (rows : List (List Int)) : Nat := (rows.map List.length).sum
end Go.Proofs.YtmonhpoogfdpoaaGreatDoor

set_option linter.unusedVariables false
namespace Go.Proofs.YtmonhpoogfdpoaaGreatDoor
open Go.RowKit

def mkC (c : Con) : Nat := 2 + c.vars.length + c.args.length + mkR c.rows
def mkCs (cs : List Con) : Nat := (cs.map mkC).sum
def mkMo (m : Mod) : Nat := m.doms.length + mkCs m.cons
theorem ConsM.seg {M M' : Nat → Prop} {w w' : World} {b o n cap : Nat} {cs : List Con} (h : ConsM M w (.slice (some ⟨b, o, none⟩) n cap) cs) (k : Mk M' w w') {i : Nat} {c : Con} (hi : cs[i]? = some c) :
    ∃ kd bd vo vc xo xc ro rc vs ars rs, M b ∧ (w'.cell? ⟨b, o + i * 5, none⟩ = some (.int .i64 kd) ∧ w'.cell? ⟨b, o + i * 5 + 1, none⟩ = some (.slice vo c.vars.length vc) ∧ w'.cell? ⟨b, o + i * 5 + 2, none⟩ = some (.slice xo c.args.length xc) ∧
      w'.cell? ⟨b, o + i * 5 + 3, none⟩ = some (.int .i64 bd) ∧ w'.cell? ⟨b, o + i * 5 + 4, none⟩ = some (.slice ro c.rows.length rc)) ∧ (∀ j, w'.frozen? ⟨b, j, none⟩ = false) ∧
      (vs.length = c.vars.length ∧ ars.length = c.args.length ∧ mkR rs = mkR c.rows) ∧
      NumsM (but M b) w' (.slice vo c.vars.length vc) vs ∧ NumsM (but M b) w' (.slice xo c.args.length xc) ars ∧ RowsM (but M b) w' (.slice ro c.rows.length rc) rs := by
  obtain ⟨b', o', vv, av, rv, e, hm, ⟨c0, c1, c2, c3, c4⟩, hf, n1, n2, n3⟩ := h.at hi
  simp only [Option.some.injEq, Addr.mk.injEq] at e
  obtain ⟨rfl, rfl, _⟩ := e
  obtain ⟨vo, vc, rfl, _⟩ := id n1
  obtain ⟨xo, xc, rfl, _⟩ := id n2
  obtain ⟨ro, rc, rfl, _⟩ := id n3
  obtain ⟨kd, hkd⟩ := k.int _ _ c0
  obtain ⟨bd, hbd⟩ := k.int _ _ c3
  obtain ⟨vs, l1, m1⟩ := n1.mk k
  obtain ⟨ars, l2, m2⟩ := n2.mk k
  obtain ⟨rs, l3, m3⟩ := n3.mk k
  exact ⟨kd, bd, vo, vc, xo, xc, ro, rc, vs, ars, rs, hm, ⟨hkd, k.same _ _ c1 n1.form, k.same _ _ c2 n2.form, hbd, k.same _ _ c4 n3.form⟩,
    fun j => (k.frozen ⟨b, j, none⟩ (show b < w.heap.size from World.block_lt_of_cell? w ⟨b, o + i * 5, none⟩ c0)).trans (hf j), ⟨l1, l2, by unfold mkR; rw [l3]⟩, m1, m2, m3⟩

end Go.Proofs.YtmonhpoogfdpoaaGreatDoor
