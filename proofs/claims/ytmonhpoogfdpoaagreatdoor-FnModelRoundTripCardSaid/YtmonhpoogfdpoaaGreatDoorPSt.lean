/-
  Stores as plain data; how they are read in memory; walks of the laws' comparisons of stores, and of new stores, of the program's and of the reference's.
-/
import Derived.Test.YtmonhpoogfdpoaaGreatDoorPCq
import Derived.Test.YtmonhpoogfdpoaaGreatDoorPLPSSl
import Derived.Test.YtmonhpoogfdpoaaGreatDoorPLtStP
import Derived.Test.YtmonhpoogfdpoaaGreatDoorPSkEH
set_option linter.unusedVariables false
set_option linter.unusedSimpArgs false
namespace Go.Proofs.YtmonhpoogfdpoaaGreatDoor
open Go.RowKit

/-! ### The laws' comparisons -/

set_option maxRecDepth 100000 in
set_option maxHeartbeats 1000000 in
theorem equalConstraints_t (c : Con) (v1 v2 : Value) (w : World) (h1 : ConV [] w v1 c) (h2 : ConV [] w v2 c) :
    Calls Tryz.prog 32 #[v1, v2] w fun e w' => e = .returned (.bool true) ∧ Gr [] w w' := by
  obtain ⟨vo, vc, ao, ac, ro, rc, rfl, n1, n2, n3⟩ := h1.open
  obtain ⟨vo', vc', ao', ac', ro', rc', rfl, m1, m2, m3⟩ := h2.open
  have hg0 : Gr [] w ((w.alloc (.cells #[.int .i64 c.kind, .slice vo c.vars.length vc, .slice ao c.args.length ac, .int .i64 c.bound, .slice ro c.rows.length rc] 49)).alloc (.cells #[.int .i64 c.kind, .slice vo' c.vars.length vc', .slice ao' c.args.length ac', .int .i64 c.bound, .slice ro' c.rows.length rc'] 49)) := ((Gr.refl _ _).alloc _).alloc _
  have h2' := heap2 w (.cells #[.int .i64 c.kind, .slice vo c.vars.length vc, .slice ao c.args.length ac, .int .i64 c.bound, .slice ro c.rows.length rc] 49) (.cells #[.int .i64 c.kind, .slice vo' c.vars.length vc', .slice ao' c.args.length ac', .int .i64 c.bound, .slice ro' c.rows.length rc'] 49)
  have N1 := hid (n1.gr hg0); have N2 := hid (n2.gr hg0); have N3 := hid (n3.gr hg0)
  have M1 := hid (m1.gr hg0); have M2 := hid (m2.gr hg0); have M3 := hid (m3.gr hg0)
  have Hg0 := hid hg0; have Hb1 := hid h2'.1; have Hb2 := hid h2'.2
  have f1 := fld h2'.1; have f2 := fld h2'.2
  clear n1 n2 n3 m1 m2 m3 hg0 h2' h1 h2
  go_enter Tryz.func32, Tryz.ntmps32
  go_wp2_with fail
  have hcall := lawEqualInts_c c.vars c.vars _ _ _ N1.out M1.out
  (with_reducible refine hcall.mono ?_)
  clear hcall
  rw [decide_eq_true (rfl : c.vars = c.vars)]
  rintro e w2 ⟨rfl, hg2⟩
  have g1 := fld (hg2.obj Hb1.out (by simp)); have g2 := fld (hg2.obj Hb2.out (by simp))
  have Hg2 := hid hg2
  clear f1 f2 hg2
  go_wp2_with fail
  have hcall := lawEqualInts_c c.args c.args _ _ _ (N2.out.gr Hg2.out) (M2.out.gr Hg2.out)
  (with_reducible refine hcall.mono ?_)
  clear hcall
  rw [decide_eq_true (rfl : c.args = c.args)]
  rintro e w3 ⟨rfl, hg3⟩
  have f1 := fld ((Hg2.out.trans hg3).obj Hb1.out (by simp)); have f2 := fld ((Hg2.out.trans hg3).obj Hb2.out (by simp))
  have Hg3 := hid (Hg2.out.trans hg3)
  clear g1 g2 hg3
  go_wp2_with fail
  have hcall := equalLists_t c.rows _ _ _ (N3.out.gr Hg3.out) (M3.out.gr Hg3.out)
  (with_reducible refine hcall.mono ?_)
  clear hcall
  rintro e w4 ⟨rfl, hg4⟩
  go_wp2_with fail
  go_ret
  exact ⟨rfl, (Hg0.out.trans Hg3.out).trans hg4⟩


set_option maxRecDepth 100000 in
set_option maxHeartbeats 1000000 in
theorem equalModels_t (m : Mod) (v1 v2 : Value) (w : World) (h1 : ModV [] w v1 m) (h2 : ModV [] w v2 m) :
    Calls Tryz.prog 9 #[v1, v2] w fun e w' => e = .returned (.bool true) ∧ Gr [] w w' := by
  obtain ⟨dv, cv, rfl, hd, hc⟩ := h1
  obtain ⟨dv', cv', rfl, hd', hc'⟩ := h2
  have Hd := hid hd; have Hc := hid hc; have Hd' := hid hd'; have Hc' := hid hc'
  obtain ⟨xo, xc, rfl, -, -⟩ := hd
  obtain ⟨co, cc, rfl, ⟨hcc1, hcc2, -⟩, -⟩ := hc
  obtain ⟨xo', xc', rfl, -, -⟩ := hd'
  obtain ⟨co', cc', rfl, -, -⟩ := hc'
  have hg0 : Gr [] w ((w.alloc (.cells #[.slice xo m.doms.length xc, .slice co m.cons.length cc] 27)).alloc (.cells #[.slice xo' m.doms.length xc', .slice co' m.cons.length cc'] 27)) := ((Gr.refl _ _).alloc _).alloc _
  have h2' := heap2 w (.cells #[.slice xo m.doms.length xc, .slice co m.cons.length cc] 27) (.cells #[.slice xo' m.doms.length xc', .slice co' m.cons.length cc'] 27)
  have Hg0 := hid hg0; have Hb1 := hid h2'.1; have Hb2 := hid h2'.2
  have f1 := fld h2'.1; have f2 := fld h2'.2
  clear hg0 h2'
  go_enter Tryz.func9, Tryz.ntmps9
  go_wp2_with fail
  have hcall := lawEqualInts_c m.doms m.doms _ _ _ (Hd.out.gr Hg0.out) (Hd'.out.gr Hg0.out)
  (with_reducible refine hcall.mono ?_)
  clear hcall
  rw [decide_eq_true (rfl : m.doms = m.doms)]
  rintro e w2 ⟨rfl, hg2⟩
  have g1 := fld (hg2.obj Hb1.out (by simp)); have g2 := fld (hg2.obj Hb2.out (by simp))
  have Hg2 := hid (Hg0.out.trans hg2); have HB1 := hid (hg2.obj Hb1.out (by simp)); have HB2 := hid (hg2.obj Hb2.out (by simp))
  clear f1 f2 hg2
  go_wp2_with fail
  go_loopw [5] (fun i wr => ∃ n : Nat, n ≤ m.cons.length ∧ i = .int .i64 n ∧ Gr [] w2 wr) (fun i _ => m.cons.length - (intOf i).toNat)
  case atStart => exact ⟨0, Nat.zero_le _, rfl, Gr.refl _ _⟩
  case round =>
  obtain ⟨n, hn, rfl, hg⟩ := hrel
  have fr1 := fld (hg.obj HB1.out (by simp)); have fr2 := fld (hg.obj HB2.out (by simp))
  by_cases hlt : n < m.cons.length
  · obtain ⟨x, hx⟩ := get_some hlt
    obtain ⟨b, o, vo, vc, xo2, xc2, ro, rc, rfl, _, ⟨c0, c1, c2, c3, c4⟩, hcon⟩ := ((Hc.out.gr Hg2.out).gr hg).at2 hx
    obtain ⟨b', o', vo', vc', xo2', xc2', ro', rc', rfl, _, ⟨d0, d1, d2, d3, d4⟩, hcon'⟩ := ((Hc'.out.gr Hg2.out).gr hg).at2 hx
    have e0 : ∀ k : GrW [] wr, k.val.cell? ⟨b, o + n * 5, none⟩ = some (.int .i64 x.kind) := fun k => k.gr.cell c0 (by simp)
    have e1 : ∀ k : GrW [] wr, k.val.cell? ⟨b, o + n * 5 + 1, none⟩ = some (.slice vo x.vars.length vc) := fun k => k.gr.cell c1 (by simp)
    have e2 : ∀ k : GrW [] wr, k.val.cell? ⟨b, o + n * 5 + 2, none⟩ = some (.slice xo2 x.args.length xc2) := fun k => k.gr.cell c2 (by simp)
    have e3 : ∀ k : GrW [] wr, k.val.cell? ⟨b, o + n * 5 + 3, none⟩ = some (.int .i64 x.bound) := fun k => k.gr.cell c3 (by simp)
    have e4 : ∀ k : GrW [] wr, k.val.cell? ⟨b, o + n * 5 + 4, none⟩ = some (.slice ro x.rows.length rc) := fun k => k.gr.cell c4 (by simp)
    have e0' : ∀ k : GrW [] wr, k.val.cell? ⟨b', o' + n * 5, none⟩ = some (.int .i64 x.kind) := fun k => k.gr.cell d0 (by simp)
    have e1' : ∀ k : GrW [] wr, k.val.cell? ⟨b', o' + n * 5 + 1, none⟩ = some (.slice vo' x.vars.length vc') := fun k => k.gr.cell d1 (by simp)
    have e2' : ∀ k : GrW [] wr, k.val.cell? ⟨b', o' + n * 5 + 2, none⟩ = some (.slice xo2' x.args.length xc2') := fun k => k.gr.cell d2 (by simp)
    have e3' : ∀ k : GrW [] wr, k.val.cell? ⟨b', o' + n * 5 + 3, none⟩ = some (.int .i64 x.bound) := fun k => k.gr.cell d3 (by simp)
    have e4' : ∀ k : GrW [] wr, k.val.cell? ⟨b', o' + n * 5 + 4, none⟩ = some (.slice ro' x.rows.length rc') := fun k => k.gr.cell d4 (by simp)
    have q1 : ∀ (k : GrW [] wr) j, k.val.cell? ⟨w.heap.size, j, none⟩ = #[.slice xo m.doms.length xc, .slice (some ⟨b, o, none⟩) m.cons.length cc][j]? := fun k => fld (k.gr.obj (hg.obj HB1.out (by simp)) (by simp))
    have q2 : ∀ (k : GrW [] wr) j, k.val.cell? ⟨w.heap.size + 1, j, none⟩ = #[.slice xo' m.doms.length xc', .slice (some ⟨b', o', none⟩) m.cons.length cc'][j]? := fun k => fld (k.gr.obj (hg.obj HB2.out (by simp)) (by simp))
    have Hn1 := hid hcon; have Hn2 := hid hcon'; have Hg := hid hg
    clear hx hcon hcon' hg c0 c1 c2 c3 c4 d0 d1 d2 d3 d4
    go_wp2_with fail
    refine wp_region_gr [] _ (by kernel_rfl) (by kernel_rfl) (Gr.refl _ _) ?_
    repeat (go_big_quiet_step ((go_at_call 32; exact Calls.gr_of (equalConstraints_t x _ _ _ (Hn1.out.gr (GrW.gr _)) (Hn2.out.gr (GrW.gr _))))))
    refine wpQuiet_nil ?_
    rintro w7 ⟨n7, hw7⟩
    have hg7 : Gr [] wr w7 := hw7 ▸ n7.gr
    clear hw7 n7 e0 e1 e2 e3 e4 e0' e1' e2' e3' e4' q1 q2
    go_wp2_with fail
    exact ⟨⟨n + 1, by omega, by go_num, Hg.out.trans hg7⟩, by simp [intOf]; omega⟩
  · go_wp2_with fail
    go_ret
    exact ⟨rfl, Hg2.out.trans hg⟩


/-! ### New stores -/

end Go.Proofs.YtmonhpoogfdpoaaGreatDoor
