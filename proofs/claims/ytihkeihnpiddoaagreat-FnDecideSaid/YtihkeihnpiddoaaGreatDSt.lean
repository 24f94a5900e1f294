/-
  Stores as plain data; how they are read in memory; walks of the laws' comparisons of stores, and of new stores, of the program's and of the reference's.
-/
import Derived.Test.YtihkeihnpiddoaaGreatDCq
import Derived.Test.YtihkeihnpiddoaaGreatDSy4ToIsB
import Derived.Test.YtihkeihnpiddoaaGreatDLtStP
import Derived.Test.YtihkeihnpiddoaaGreatDSy1ToRe
set_option linter.unusedVariables false
set_option linter.unusedSimpArgs false
namespace Go.Proofs.YtihkeihnpiddoaaGreat
open Go.RowKit

structure Sto where
  mod : Mod
  lv : List (List Int)
def StoV (S : List Nat) (w : World) (v : Value) (s : Sto) : Prop :=
  ∃ dv cv lv, v = .agg #[dv, cv, lv] ∧ Nums S w .i64 dv s.mod.doms ∧ ConsV S w cv s.mod.cons ∧ RowsV S w lv s.lv
theorem StoV.gr {S : List Nat} {w w' : World} {v : Value} {s : Sto} (h : StoV S w v s) (hg : Gr S w w') : StoV S w' v s :=
  let ⟨dv, cv, lv, e, h1, h2, h3⟩ := h; ⟨dv, cv, lv, e, h1.gr hg, h2.gr hg, h3.gr hg⟩
theorem StoV.sub {S S' : List Nat} {w : World} {v : Value} {s : Sto} (h : StoV S w v s) (hs : ∀ b, b < w.heap.size → b ∈ S' → b ∈ S) : StoV S' w v s :=
  let ⟨dv, cv, lv, e, h1, h2, h3⟩ := h; ⟨dv, cv, lv, e, h1.sub hs, h2.sub hs, h3.sub hs⟩
theorem RowsV.slice {S : List Nat} {w : World} {v : Value} {rows : List (List Int)} (h : RowsV S w v rows) : ∃ a b, v = .slice a rows.length b := by
  obtain ⟨ao, cap, e, -, -⟩ := h; exact ⟨ao, cap, e⟩
theorem StoV.open {S : List Nat} {w : World} {v : Value} {s : Sto} (h : StoV S w v s) :
    ∃ xo xc co cc lo lc, v = .agg #[.slice xo s.mod.doms.length xc, .slice co s.mod.cons.length cc, .slice lo s.lv.length lc] ∧
      ModV S w (.agg #[.slice xo s.mod.doms.length xc, .slice co s.mod.cons.length cc]) s.mod ∧ RowsV S w (.slice lo s.lv.length lc) s.lv := by
  obtain ⟨dv, cv, lv, rfl, h1, h2, h3⟩ := h
  obtain ⟨xo, xc, rfl, -, -⟩ := id h1
  obtain ⟨co, cc, rfl, -, -⟩ := id h2
  obtain ⟨lo, lc, rfl⟩ := h3.slice
  exact ⟨xo, xc, co, cc, lo, lc, rfl, ⟨_, _, rfl, h1, h2⟩, h3⟩
theorem StoV.mk {S : List Nat} {w : World} {dv cv lv : Value} {s : Sto} (h : ModV S w (.agg #[dv, cv]) s.mod) (hl : RowsV S w lv s.lv) : StoV S w (.agg #[dv, cv, lv]) s := by
  obtain ⟨h1, h2⟩ := h.parts
  exact ⟨_, _, _, rfl, h1, h2, hl⟩
def zeroSto : Sto := ⟨⟨[], []⟩, []⟩
theorem StoV.zero (S : List Nat) (w : World) : StoV S w (.agg #[.slice none 0 0, .slice none 0 0, .slice none 0 0]) zeroSto :=
  ⟨_, _, _, rfl, ⟨none, 0, rfl, by simp [zeroSto], fun i x h => by simp [zeroSto] at h⟩, ⟨none, 0, rfl, by simp [zeroSto], fun i x h => by simp [zeroSto] at h⟩, ⟨none, 0, rfl, by simp [zeroSto], fun i x h => by simp [zeroSto] at h⟩⟩
/-- A store of moderate size. -/
structure Sto.Small (s : Sto) : Prop where
  mod : s.mod.Small
  lv : s.lv.length ≤ 2000000
  row : ∀ r ∈ s.lv, r.length ≤ 2000000

/-! ### The laws' comparisons -/

set_option maxRecDepth 100000 in
set_option maxHeartbeats 1000000 in
theorem equalConstraints_t (c : Con) (v1 v2 : Value) (w : World) (h1 : ConV [] w v1 c) (h2 : ConV [] w v2 c) :
    Calls Tryz.prog 99 #[v1, v2] w fun e w' => e = .returned (.bool true) ∧ Gr [] w w' := by
  obtain ⟨vo, vc, ao, ac, ro, rc, rfl, n1, n2, n3⟩ := h1.open
  obtain ⟨vo', vc', ao', ac', ro', rc', rfl, m1, m2, m3⟩ := h2.open
  have hg0 : Gr [] w ((w.alloc (.cells #[.int .i64 c.kind, .slice vo c.vars.length vc, .slice ao c.args.length ac, .int .i64 c.bound, .slice ro c.rows.length rc] 41)).alloc (.cells #[.int .i64 c.kind, .slice vo' c.vars.length vc', .slice ao' c.args.length ac', .int .i64 c.bound, .slice ro' c.rows.length rc'] 41)) := ((Gr.refl _ _).alloc _).alloc _
  have h2' := heap2 w (.cells #[.int .i64 c.kind, .slice vo c.vars.length vc, .slice ao c.args.length ac, .int .i64 c.bound, .slice ro c.rows.length rc] 41) (.cells #[.int .i64 c.kind, .slice vo' c.vars.length vc', .slice ao' c.args.length ac', .int .i64 c.bound, .slice ro' c.rows.length rc'] 41)
  have N1 := hid (n1.gr hg0); have N2 := hid (n2.gr hg0); have N3 := hid (n3.gr hg0)
  have M1 := hid (m1.gr hg0); have M2 := hid (m2.gr hg0); have M3 := hid (m3.gr hg0)
  have Hg0 := hid hg0; have Hb1 := hid h2'.1; have Hb2 := hid h2'.2
  have f1 := fld h2'.1; have f2 := fld h2'.2
  clear n1 n2 n3 m1 m2 m3 hg0 h2' h1 h2
  go_enter Tryz.func99, Tryz.ntmps99
  go_wp2_with fail
  have hcall := lawEqualInts_c c.vars c.vars _ _ _ N1.out M1.out
  (with_reducible refine hcall.mono ?_)
  clear hcall
  rw [decide_eq_true (rfl : c.vars = c.vars)]
  rintro e w2 ⟨rfl, hg2⟩
  have g1 := fld (hg2.obj Hb1.out (by simp)); have g2 := fld (hg2.obj Hb2.out (by simp))
  have Hg2 := hid hg2
  clear f1 f2 hg2
  go_wp2_with fail
  have hcall := lawEqualInts_c c.args c.args _ _ _ (N2.out.gr Hg2.out) (M2.out.gr Hg2.out)
  (with_reducible refine hcall.mono ?_)
  clear hcall
  rw [decide_eq_true (rfl : c.args = c.args)]
  rintro e w3 ⟨rfl, hg3⟩
  have f1 := fld ((Hg2.out.trans hg3).obj Hb1.out (by simp)); have f2 := fld ((Hg2.out.trans hg3).obj Hb2.out (by simp))
  have Hg3 := hid (Hg2.out.trans hg3)
  clear g1 g2 hg3
  go_wp2_with fail
  have hcall := equalLists_t c.rows _ _ _ (N3.out.gr Hg3.out) (M3.out.gr Hg3.out)
  (with_reducible refine hcall.mono ?_)
  clear hcall
  rintro e w4 ⟨rfl, hg4⟩
  go_wp2_with fail
  go_ret
  exact ⟨rfl, (Hg0.out.trans Hg3.out).trans hg4⟩


set_option maxRecDepth 100000 in
set_option maxHeartbeats 1000000 in
theorem equalModels_t (m : Mod) (v1 v2 : Value) (w : World) (h1 : ModV [] w v1 m) (h2 : ModV [] w v2 m) :
    Calls Tryz.prog 49 #[v1, v2] w fun e w' => e = .returned (.bool true) ∧ Gr [] w w' := by
  obtain ⟨dv, cv, rfl, hd, hc⟩ := h1
  obtain ⟨dv', cv', rfl, hd', hc'⟩ := h2
  have Hd := hid hd; have Hc := hid hc; have Hd' := hid hd'; have Hc' := hid hc'
  obtain ⟨xo, xc, rfl, -, -⟩ := hd
  obtain ⟨co, cc, rfl, ⟨hcc1, hcc2, -⟩, -⟩ := hc
  obtain ⟨xo', xc', rfl, -, -⟩ := hd'
  obtain ⟨co', cc', rfl, -, -⟩ := hc'
  have hg0 : Gr [] w ((w.alloc (.cells #[.slice xo m.doms.length xc, .slice co m.cons.length cc] 26)).alloc (.cells #[.slice xo' m.doms.length xc', .slice co' m.cons.length cc'] 26)) := ((Gr.refl _ _).alloc _).alloc _
  have h2' := heap2 w (.cells #[.slice xo m.doms.length xc, .slice co m.cons.length cc] 26) (.cells #[.slice xo' m.doms.length xc', .slice co' m.cons.length cc'] 26)
  have Hg0 := hid hg0; have Hb1 := hid h2'.1; have Hb2 := hid h2'.2
  have f1 := fld h2'.1; have f2 := fld h2'.2
  clear hg0 h2'
  go_enter Tryz.func49, Tryz.ntmps49
  go_wp2_with fail
  have hcall := lawEqualInts_c m.doms m.doms _ _ _ (Hd.out.gr Hg0.out) (Hd'.out.gr Hg0.out)
  (with_reducible refine hcall.mono ?_)
  clear hcall
  rw [decide_eq_true (rfl : m.doms = m.doms)]
  rintro e w2 ⟨rfl, hg2⟩
  have g1 := fld (hg2.obj Hb1.out (by simp)); have g2 := fld (hg2.obj Hb2.out (by simp))
  have Hg2 := hid (Hg0.out.trans hg2); have HB1 := hid (hg2.obj Hb1.out (by simp)); have HB2 := hid (hg2.obj Hb2.out (by simp))
  clear f1 f2 hg2
  go_wp2_with fail
  go_loopw [5] (fun i wr => ∃ n : Nat, n ≤ m.cons.length ∧ i = .int .i64 n ∧ Gr [] w2 wr) (fun i _ => m.cons.length - (intOf i).toNat)
  case atStart => exact ⟨0, Nat.zero_le _, rfl, Gr.refl _ _⟩
  case round =>
  obtain ⟨n, hn, rfl, hg⟩ := hrel
  have fr1 := fld (hg.obj HB1.out (by simp)); have fr2 := fld (hg.obj HB2.out (by simp))
  by_cases hlt : n < m.cons.length
  · obtain ⟨x, hx⟩ := get_some hlt
    obtain ⟨b, o, vo, vc, xo2, xc2, ro, rc, rfl, _, ⟨c0, c1, c2, c3, c4⟩, hcon⟩ := ((Hc.out.gr Hg2.out).gr hg).at2 hx
    obtain ⟨b', o', vo', vc', xo2', xc2', ro', rc', rfl, _, ⟨d0, d1, d2, d3, d4⟩, hcon'⟩ := ((Hc'.out.gr Hg2.out).gr hg).at2 hx
    have e0 : ∀ k : GrW [] wr, k.val.cell? ⟨b, o + n * 5, none⟩ = some (.int .i64 x.kind) := fun k => k.gr.cell c0 (by simp)
    have e1 : ∀ k : GrW [] wr, k.val.cell? ⟨b, o + n * 5 + 1, none⟩ = some (.slice vo x.vars.length vc) := fun k => k.gr.cell c1 (by simp)
    have e2 : ∀ k : GrW [] wr, k.val.cell? ⟨b, o + n * 5 + 2, none⟩ = some (.slice xo2 x.args.length xc2) := fun k => k.gr.cell c2 (by simp)
    have e3 : ∀ k : GrW [] wr, k.val.cell? ⟨b, o + n * 5 + 3, none⟩ = some (.int .i64 x.bound) := fun k => k.gr.cell c3 (by simp)
    have e4 : ∀ k : GrW [] wr, k.val.cell? ⟨b, o + n * 5 + 4, none⟩ = some (.slice ro x.rows.length rc) := fun k => k.gr.cell c4 (by simp)
    have e0' : ∀ k : GrW [] wr, k.val.cell? ⟨b', o' + n * 5, none⟩ = some (.int .i64 x.kind) := fun k => k.gr.cell d0 (by simp)
    have e1' : ∀ k : GrW [] wr, k.val.cell? ⟨b', o' + n * 5 + 1, none⟩ = some (.slice vo' x.vars.length vc') := fun k => k.gr.cell d1 (by simp)
    have e2' : ∀ k : GrW [] wr, k.val.cell? ⟨b', o' + n * 5 + 2, none⟩ = some (.slice xo2' x.args.length xc2') := fun k => k.gr.cell d2 (by simp)
    have e3' : ∀ k : GrW [] wr, k.val.cell? ⟨b', o' + n * 5 + 3, none⟩ = some (.int .i64 x.bound) := fun k => k.gr.cell d3 (by simp)
    have e4' : ∀ k : GrW [] wr, k.val.cell? ⟨b', o' + n * 5 + 4, none⟩ = some (.slice ro' x.rows.length rc') := fun k => k.gr.cell d4 (by simp)
    have q1 : ∀ (k : GrW [] wr) j, k.val.cell? ⟨w.heap.size, j, none⟩ = #[.slice xo m.doms.length xc, .slice (some ⟨b, o, none⟩) m.cons.length cc][j]? := fun k => fld (k.gr.obj (hg.obj HB1.out (by simp)) (by simp))
    have q2 : ∀ (k : GrW [] wr) j, k.val.cell? ⟨w.heap.size + 1, j, none⟩ = #[.slice xo' m.doms.length xc', .slice (some ⟨b', o', none⟩) m.cons.length cc'][j]? := fun k => fld (k.gr.obj (hg.obj HB2.out (by simp)) (by simp))
    have Hn1 := hid hcon; have Hn2 := hid hcon'; have Hg := hid hg
    clear hx hcon hcon' hg c0 c1 c2 c3 c4 d0 d1 d2 d3 d4
    go_wp2_with fail
    refine wp_region_gr [] _ (by kernel_rfl) (by kernel_rfl) (Gr.refl _ _) ?_
    repeat (go_big_quiet_step ((go_at_call 99; exact Calls.gr_of (equalConstraints_t x _ _ _ (Hn1.out.gr (GrW.gr _)) (Hn2.out.gr (GrW.gr _))))))
    refine wpQuiet_nil ?_
    rintro w7 ⟨n7, hw7⟩
    have hg7 : Gr [] wr w7 := hw7 ▸ n7.gr
    clear hw7 n7 e0 e1 e2 e3 e4 e0' e1' e2' e3' e4' q1 q2
    go_wp2_with fail
    exact ⟨⟨n + 1, by omega, by go_num, Hg.out.trans hg7⟩, by simp [intOf]; omega⟩
  · go_wp2_with fail
    go_ret
    exact ⟨rfl, Hg2.out.trans hg⟩


set_option maxRecDepth 100000 in
theorem equalStores_t (s : Sto) (v1 v2 : Value) (w : World) (h1 : StoV [] w v1 s) (h2 : StoV [] w v2 s) :
    Calls Tryz.prog 10 #[v1, v2] w fun e w' => e = .returned (.bool true) ∧ Gr [] w w' := by
  obtain ⟨xo, xc, co, cc, lo, lc, rfl, n1, n2⟩ := h1.open
  obtain ⟨xo', xc', co', cc', lo', lc', rfl, m1, m2⟩ := h2.open
  have hg0 : Gr [] w ((w.alloc (.cells #[.slice xo s.mod.doms.length xc, .slice co s.mod.cons.length cc, .slice lo s.lv.length lc] 29)).alloc (.cells #[.slice xo' s.mod.doms.length xc', .slice co' s.mod.cons.length cc', .slice lo' s.lv.length lc'] 29)) := ((Gr.refl _ _).alloc _).alloc _
  have h2' := heap2 w (.cells #[.slice xo s.mod.doms.length xc, .slice co s.mod.cons.length cc, .slice lo s.lv.length lc] 29) (.cells #[.slice xo' s.mod.doms.length xc', .slice co' s.mod.cons.length cc', .slice lo' s.lv.length lc'] 29)
  have N1 := hid (n1.gr hg0); have N2 := hid (n2.gr hg0); have M1 := hid (m1.gr hg0); have M2 := hid (m2.gr hg0)
  have Hg0 := hid hg0; have Hb1 := hid h2'.1; have Hb2 := hid h2'.2
  have f1 := fld h2'.1; have f2 := fld h2'.2
  clear hg0 h2' n1 n2 m1 m2 h1 h2
  go_enter Tryz.func10, Tryz.ntmps10
  go_wp2_with fail
  have hcall := equalModels_t s.mod _ _ _ N1.out M1.out
  (with_reducible refine hcall.mono ?_)
  clear hcall
  rintro e w2 ⟨rfl, hg2⟩
  have g1 := fld (hg2.obj Hb1.out (by simp)); have g2 := fld (hg2.obj Hb2.out (by simp))
  have Hg2 := hid hg2
  clear f1 f2 hg2
  go_wp2_with fail
  have hcall := equalLists_t s.lv _ _ _ (N2.out.gr Hg2.out) (M2.out.gr Hg2.out)
  (with_reducible refine hcall.mono ?_)
  clear hcall
  rintro e w4 ⟨rfl, hg4⟩
  go_wp2_with fail
  go_ret
  exact ⟨rfl, (Hg0.out.trans Hg2.out).trans hg4⟩

/-! ### New stores -/
theorem set3 {w : World} {r : Nat} {t : TypeId} {z0 z1 z2 : Value} (x0 x1 x2 : Value) (h : w.heap[r]? = some (.cells #[z0, z1, z2] t (0, 0))) :
    (((w.setCell ⟨r, 0, none⟩ x0).setCell ⟨r, 1, none⟩ x1).setCell ⟨r, 2, none⟩ x2).heap[r]? = some (.cells #[x0, x1, x2] t (0, 0)) ∧ Gr [r] w (((w.setCell ⟨r, 0, none⟩ x0).setCell ⟨r, 1, none⟩ x1).setCell ⟨r, 2, none⟩ x2) := by
  have h3 := block_cells (cur' := #[]) (block_cells (cur' := #[]) (block_cells (cur' := #[]) h 0 x0) 1 x1) 2 x2
  exact ⟨by simpa using h3, (((Gr.refl _ _).setCell _ _ (.inl (by simp))).setCell _ _ (.inl (by simp))).setCell _ _ (.inl (by simp))⟩
theorem Gr.set3 {a w : World} {r : Nat} (h : Gr [r] a w) (x0 x1 x2 : Value) : Gr [r] a (((w.setCell ⟨r, 0, none⟩ x0).setCell ⟨r, 1, none⟩ x1).setCell ⟨r, 2, none⟩ x2) :=
  ((h.setCell _ _ (.inl (by simp))).setCell _ _ (.inl (by simp))).setCell _ _ (.inl (by simp))
theorem rows_le {c : Con} {n : Nat} (h : VC c n) : c.rows.length ≤ 1000 := by
  have hf := h.fits
  by_cases h0 : 1 ≤ c.kind ∧ c.kind ≤ 9
  · have : c.kind = 1 ∨ c.kind = 2 ∨ (c.kind = 3 ∨ c.kind = 9) ∨ c.kind = 4 ∨ c.kind = 5 ∨ c.kind = 6 ∨ c.kind = 7 ∨ c.kind = 8 := by omega
    rcases this with h | h | h | h | h | h | h | h
    · rw [fitsB_1 h] at hf; simp only [Bool.and_eq_true, beq_iff_eq] at hf; omega
    · rw [fitsB_2 h] at hf; simp only [Bool.and_eq_true, beq_iff_eq] at hf; omega
    · rw [fitsB_3 h] at hf; simp only [Bool.and_eq_true, beq_iff_eq] at hf; omega
    · rw [fitsB_4 h] at hf; simp only [Bool.and_eq_true, beq_iff_eq] at hf; omega
    · rw [fitsB_5 h, Bool.and_eq_true] at hf; have := rowsIn_pos hf.2; omega
    · rw [fitsB_6 h] at hf; simp only [Bool.and_eq_true, beq_iff_eq] at hf; omega
    · rw [fitsB_7 h] at hf; simp only [Bool.and_eq_true, beq_iff_eq] at hf; omega
    · rw [fitsB_8 h, Bool.and_eq_true, Bool.and_eq_true, Bool.and_eq_true] at hf; have := rowsIn_pos hf.1.1.1; omega
  · rw [fitsB_0 h0] at hf; cases hf


end Go.Proofs.YtihkeihnpiddoaaGreat
