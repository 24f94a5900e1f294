/-
  Stores as plain data; how they are read in memory; walks of the laws' comparisons of stores, and of new stores, of the program's and of the reference's.
-/
import Derived.Test.YtngpcoilgilmjaaCq
import Derived.Test.YtngpcoilgilmjaaSl
import Derived.Test.YtngpcoilgilmjaaStP
import Derived.Test.YtngpcoilgilmjaaEH
set_option linter.unusedVariables false
set_option linter.unusedSimpArgs false
namespace Go.Proofs.Ytngpcoilgilmjaa
open Go.RowKit

structure Sto where
  mod : Mod
  lv : List (List Int)
def StoV (S : List Nat) (w : World) (v : Value) (s : Sto) : Prop :=
  ∃ dv cv lv, v = .agg #[dv, cv, lv] ∧ Nums S w .i64 dv s.mod.doms ∧ ConsV S w cv s.mod.cons ∧ RowsV S w lv s.lv
theorem StoV.gr {S : List Nat} {w w' : World} {v : Value} {s : Sto} (h : StoV S w v s) (hg : Gr S w w') : StoV S w' v s :=
  let ⟨dv, cv, lv, e, h1, h2, h3⟩ := h; ⟨dv, cv, lv, e, h1.gr hg, h2.gr hg, h3.gr hg⟩
theorem StoV.sub {S S' : List Nat} {w : World} {v : Value} {s : Sto} (h : StoV S w v s) (hs : ∀ b, b < w.heap.size → b ∈ S' → b ∈ S) : StoV S' w v s :=
  let ⟨dv, cv, lv, e, h1, h2, h3⟩ := h; ⟨dv, cv, lv, e, h1.sub hs, h2.sub hs, h3.sub hs⟩
theorem RowsV.slice {S : List Nat} {w : World} {v : Value} {rows : List (List Int)} (h : RowsV S w v rows) : ∃ a b, v = .slice a rows.length b := by
  obtain ⟨ao, cap, e, -, -⟩ := h; exact ⟨ao, cap, e⟩
theorem StoV.open {S : List Nat} {w : World} {v : Value} {s : Sto} (h : StoV S w v s) :
    ∃ xo xc co cc lo lc, v = .agg #[.slice xo s.mod.doms.length xc, .slice co s.mod.cons.length cc, .slice lo s.lv.length lc] ∧
      ModV S w (.agg #[.slice xo s.mod.doms.length xc, .slice co s.mod.cons.length cc]) s.mod ∧ RowsV S w (.slice lo s.lv.length lc) s.lv := by
  obtain ⟨dv, cv, lv, rfl, h1, h2, h3⟩ := h
  obtain ⟨xo, xc, rfl, -, -⟩ := id h1
  obtain ⟨co, cc, rfl, -, -⟩ := id h2
  obtain ⟨lo, lc, rfl⟩ := h3.slice
  exact ⟨xo, xc, co, cc, lo, lc, rfl, ⟨_, _, rfl, h1, h2⟩, h3⟩
theorem StoV.mk {S : List Nat} {w : World} {dv cv lv : Value} {s : Sto} (h : ModV S w (.agg #[dv, cv]) s.mod) (hl : RowsV S w lv s.lv) : StoV S w (.agg #[dv, cv, lv]) s := by
  obtain ⟨h1, h2⟩ := h.parts
  exact ⟨_, _, _, rfl, h1, h2, hl⟩
def zeroSto : Sto := ⟨⟨[], []⟩, []⟩
theorem StoV.zero (S : List Nat) (w : World) : StoV S w (.agg #[.slice none 0 0, .slice none 0 0, .slice none 0 0]) zeroSto :=
  ⟨_, _, _, rfl, ⟨none, 0, rfl, by simp [zeroSto], fun i x h => by simp [zeroSto] at h⟩, ⟨none, 0, rfl, by simp [zeroSto], fun i x h => by simp [zeroSto] at h⟩, ⟨none, 0, rfl, by simp [zeroSto], fun i x h => by simp [zeroSto] at h⟩⟩
/-- A store of moderate size. -/
structure Sto.Small (s : Sto) : Prop where
  mod : s.mod.Small
  lv : s.lv.length ≤ 2000000
  row : ∀ r ∈ s.lv, r.length ≤ 2000000

/-! ### The laws' comparisons -/

set_option maxRecDepth 100000 in
set_option maxHeartbeats 1000000 in
theorem equalConstraints_t (c : Con) (v1 v2 : Value) (w : World) (h1 : ConV [] w v1 c) (h2 : ConV [] w v2 c) :
    Calls Try.prog 121 #[v1, v2] w fun e w' => e = .returned (.bool true) ∧ Gr [] w w' := by
  obtain ⟨vo, vc, ao, ac, ro, rc, rfl, n1, n2, n3⟩ := h1.open
  obtain ⟨vo', vc', ao', ac', ro', rc', rfl, m1, m2, m3⟩ := h2.open
  have hg0 : Gr [] w ((w.alloc (.cells #[.int .i64 c.kind, .slice vo c.vars.length vc, .slice ao c.args.length ac, .int .i64 c.bound, .slice ro c.rows.length rc] 26)).alloc (.cells #[.int .i64 c.kind, .slice vo' c.vars.length vc', .slice ao' c.args.length ac', .int .i64 c.bound, .slice ro' c.rows.length rc'] 26)) := ((Gr.refl _ _).alloc _).alloc _
  have h2' := heap2 w (.cells #[.int .i64 c.kind, .slice vo c.vars.length vc, .slice ao c.args.length ac, .int .i64 c.bound, .slice ro c.rows.length rc] 26) (.cells #[.int .i64 c.kind, .slice vo' c.vars.length vc', .slice ao' c.args.length ac', .int .i64 c.bound, .slice ro' c.rows.length rc'] 26)
  have N1 := hid (n1.gr hg0); have N2 := hid (n2.gr hg0); have N3 := hid (n3.gr hg0)
  have M1 := hid (m1.gr hg0); have M2 := hid (m2.gr hg0); have M3 := hid (m3.gr hg0)
  have Hg0 := hid hg0; have Hb1 := hid h2'.1; have Hb2 := hid h2'.2
  have f1 := fld h2'.1; have f2 := fld h2'.2
  clear n1 n2 n3 m1 m2 m3 hg0 h2' h1 h2
  go_enter Try.func121, Try.ntmps121
  go_wp2_with fail
  have hcall := lawEqualInts_c c.vars c.vars _ _ _ N1.out M1.out
  (with_reducible refine hcall.mono ?_)
  clear hcall
  rw [decide_eq_true (rfl : c.vars = c.vars)]
  rintro e w2 ⟨rfl, hg2⟩
  have g1 := fld (hg2.obj Hb1.out (by simp)); have g2 := fld (hg2.obj Hb2.out (by simp))
  have Hg2 := hid hg2
  clear f1 f2 hg2
  go_wp2_with fail
  have hcall := lawEqualInts_c c.args c.args _ _ _ (N2.out.gr Hg2.out) (M2.out.gr Hg2.out)
  (with_reducible refine hcall.mono ?_)
  clear hcall
  rw [decide_eq_true (rfl : c.args = c.args)]
  rintro e w3 ⟨rfl, hg3⟩
  have f1 := fld ((Hg2.out.trans hg3).obj Hb1.out (by simp)); have f2 := fld ((Hg2.out.trans hg3).obj Hb2.out (by simp))
  have Hg3 := hid (Hg2.out.trans hg3)
  clear g1 g2 hg3
  go_wp2_with fail
  have hcall := equalLists_t c.rows _ _ _ (N3.out.gr Hg3.out) (M3.out.gr Hg3.out)
  (with_reducible refine hcall.mono ?_)
  clear hcall
  rintro e w4 ⟨rfl, hg4⟩
  go_wp2_with fail
  go_ret
  exact ⟨rfl, (Hg0.out.trans Hg3.out).trans hg4⟩


set_option maxRecDepth 100000 in
set_option maxHeartbeats 1000000 in
theorem equalModels_t (m : Mod) (v1 v2 : Value) (w : World) (h1 : ModV [] w v1 m) (h2 : ModV [] w v2 m) :
    Calls Try.prog 57 #[v1, v2] w fun e w' => e = .returned (.bool true) ∧ Gr [] w w' := by
  obtain ⟨dv, cv, rfl, hd, hc⟩ := h1
  obtain ⟨dv', cv', rfl, hd', hc'⟩ := h2
  have Hd := hid hd; have Hc := hid hc; have Hd' := hid hd'; have Hc' := hid hc'
  obtain ⟨xo, xc, rfl, -, -⟩ := hd
  obtain ⟨co, cc, rfl, ⟨hcc1, hcc2, -⟩, -⟩ := hc
  obtain ⟨xo', xc', rfl, -, -⟩ := hd'
  obtain ⟨co', cc', rfl, -, -⟩ := hc'
  have hg0 : Gr [] w ((w.alloc (.cells #[.slice xo m.doms.length xc, .slice co m.cons.length cc] 32)).alloc (.cells #[.slice xo' m.doms.length xc', .slice co' m.cons.length cc'] 32)) := ((Gr.refl _ _).alloc _).alloc _
  have h2' := heap2 w (.cells #[.slice xo m.doms.length xc, .slice co m.cons.length cc] 32) (.cells #[.slice xo' m.doms.length xc', .slice co' m.cons.length cc'] 32)
  have Hg0 := hid hg0; have Hb1 := hid h2'.1; have Hb2 := hid h2'.2
  have f1 := fld h2'.1; have f2 := fld h2'.2
  clear hg0 h2'
  go_enter Try.func57, Try.ntmps57
  go_wp2_with fail
  have hcall := lawEqualInts_c m.doms m.doms _ _ _ (Hd.out.gr Hg0.out) (Hd'.out.gr Hg0.out)
  (with_reducible refine hcall.mono ?_)
  clear hcall
  rw [decide_eq_true (rfl : m.doms = m.doms)]
  rintro e w2 ⟨rfl, hg2⟩
  have g1 := fld (hg2.obj Hb1.out (by simp)); have g2 := fld (hg2.obj Hb2.out (by simp))
  have Hg2 := hid (Hg0.out.trans hg2); have HB1 := hid (hg2.obj Hb1.out (by simp)); have HB2 := hid (hg2.obj Hb2.out (by simp))
  clear f1 f2 hg2
  go_wp2_with fail
  go_loopw [5] (fun i wr => ∃ n : Nat, n ≤ m.cons.length ∧ i = .int .i64 n ∧ Gr [] w2 wr) (fun i _ => m.cons.length - (intOf i).toNat)
  case atStart => exact ⟨0, Nat.zero_le _, rfl, Gr.refl _ _⟩
  case round =>
  obtain ⟨n, hn, rfl, hg⟩ := hrel
  have fr1 := fld (hg.obj HB1.out (by simp)); have fr2 := fld (hg.obj HB2.out (by simp))
  by_cases hlt : n < m.cons.length
  · obtain ⟨x, hx⟩ := get_some hlt
    obtain ⟨b, o, vo, vc, xo2, xc2, ro, rc, rfl, _, ⟨c0, c1, c2, c3, c4⟩, hcon⟩ := ((Hc.out.gr Hg2.out).gr hg).at2 hx
    obtain ⟨b', o', vo', vc', xo2', xc2', ro', rc', rfl, _, ⟨d0, d1, d2, d3, d4⟩, hcon'⟩ := ((Hc'.out.gr Hg2.out).gr hg).at2 hx
    have e0 : ∀ k : GrW [] wr, k.val.cell? ⟨b, o + n * 5, none⟩ = some (.int .i64 x.kind) := fun k => k.gr.cell c0 (by simp)
    have e1 : ∀ k : GrW [] wr, k.val.cell? ⟨b, o + n * 5 + 1, none⟩ = some (.slice vo x.vars.length vc) := fun k => k.gr.cell c1 (by simp)
    have e2 : ∀ k : GrW [] wr, k.val.cell? ⟨b, o + n * 5 + 2, none⟩ = some (.slice xo2 x.args.length xc2) := fun k => k.gr.cell c2 (by simp)
    have e3 : ∀ k : GrW [] wr, k.val.cell? ⟨b, o + n * 5 + 3, none⟩ = some (.int .i64 x.bound) := fun k => k.gr.cell c3 (by simp)
    have e4 : ∀ k : GrW [] wr, k.val.cell? ⟨b, o + n * 5 + 4, none⟩ = some (.slice ro x.rows.length rc) := fun k => k.gr.cell c4 (by simp)
    have e0' : ∀ k : GrW [] wr, k.val.cell? ⟨b', o' + n * 5, none⟩ = some (.int .i64 x.kind) := fun k => k.gr.cell d0 (by simp)
    have e1' : ∀ k : GrW [] wr, k.val.cell? ⟨b', o' + n * 5 + 1, none⟩ = some (.slice vo' x.vars.length vc') := fun k => k.gr.cell d1 (by simp)
    have e2' : ∀ k : GrW [] wr, k.val.cell? ⟨b', o' + n * 5 + 2, none⟩ = some (.slice xo2' x.args.length xc2') := fun k => k.gr.cell d2 (by simp)
    have e3' : ∀ k : GrW [] wr, k.val.cell? ⟨b', o' + n * 5 + 3, none⟩ = some (.int .i64 x.bound) := fun k => k.gr.cell d3 (by simp)
    have e4' : ∀ k : GrW [] wr, k.val.cell? ⟨b', o' + n * 5 + 4, none⟩ = some (.slice ro' x.rows.length rc') := fun k => k.gr.cell d4 (by simp)
    have q1 : ∀ (k : GrW [] wr) j, k.val.cell? ⟨w.heap.size, j, none⟩ = #[.slice xo m.doms.length xc, .slice (some ⟨b, o, none⟩) m.cons.length cc][j]? := fun k => fld (k.gr.obj (hg.obj HB1.out (by simp)) (by simp))
    have q2 : ∀ (k : GrW [] wr) j, k.val.cell? ⟨w.heap.size + 1, j, none⟩ = #[.slice xo' m.doms.length xc', .slice (some ⟨b', o', none⟩) m.cons.length cc'][j]? := fun k => fld (k.gr.obj (hg.obj HB2.out (by simp)) (by simp))
    have Hn1 := hid hcon; have Hn2 := hid hcon'; have Hg := hid hg
    clear hx hcon hcon' hg c0 c1 c2 c3 c4 d0 d1 d2 d3 d4
    go_wp2_with fail
    refine wp_region_gr [] _ (by kernel_rfl) (by kernel_rfl) (Gr.refl _ _) ?_
    repeat (go_big_quiet_step ((go_at_call 121; exact Calls.gr_of (equalConstraints_t x _ _ _ (Hn1.out.gr (GrW.gr _)) (Hn2.out.gr (GrW.gr _))))))
    refine wpQuiet_nil ?_
    rintro w7 ⟨n7, hw7⟩
    have hg7 : Gr [] wr w7 := hw7 ▸ n7.gr
    clear hw7 n7 e0 e1 e2 e3 e4 e0' e1' e2' e3' e4' q1 q2
    go_wp2_with fail
    exact ⟨⟨n + 1, by omega, by go_num, Hg.out.trans hg7⟩, by simp [intOf]; omega⟩
  · go_wp2_with fail
    go_ret
    exact ⟨rfl, Hg2.out.trans hg⟩


set_option maxRecDepth 100000 in
theorem equalStores_t (s : Sto) (v1 v2 : Value) (w : World) (h1 : StoV [] w v1 s) (h2 : StoV [] w v2 s) :
    Calls Try.prog 15 #[v1, v2] w fun e w' => e = .returned (.bool true) ∧ Gr [] w w' := by
  obtain ⟨xo, xc, co, cc, lo, lc, rfl, n1, n2⟩ := h1.open
  obtain ⟨xo', xc', co', cc', lo', lc', rfl, m1, m2⟩ := h2.open
  have hg0 : Gr [] w ((w.alloc (.cells #[.slice xo s.mod.doms.length xc, .slice co s.mod.cons.length cc, .slice lo s.lv.length lc] 39)).alloc (.cells #[.slice xo' s.mod.doms.length xc', .slice co' s.mod.cons.length cc', .slice lo' s.lv.length lc'] 39)) := ((Gr.refl _ _).alloc _).alloc _
  have h2' := heap2 w (.cells #[.slice xo s.mod.doms.length xc, .slice co s.mod.cons.length cc, .slice lo s.lv.length lc] 39) (.cells #[.slice xo' s.mod.doms.length xc', .slice co' s.mod.cons.length cc', .slice lo' s.lv.length lc'] 39)
  have N1 := hid (n1.gr hg0); have N2 := hid (n2.gr hg0); have M1 := hid (m1.gr hg0); have M2 := hid (m2.gr hg0)
  have Hg0 := hid hg0; have Hb1 := hid h2'.1; have Hb2 := hid h2'.2
  have f1 := fld h2'.1; have f2 := fld h2'.2
  clear hg0 h2' n1 n2 m1 m2 h1 h2
  go_enter Try.func15, Try.ntmps15
  go_wp2_with fail
  have hcall := equalModels_t s.mod _ _ _ N1.out M1.out
  (with_reducible refine hcall.mono ?_)
  clear hcall
  rintro e w2 ⟨rfl, hg2⟩
  have g1 := fld (hg2.obj Hb1.out (by simp)); have g2 := fld (hg2.obj Hb2.out (by simp))
  have Hg2 := hid hg2
  clear f1 f2 hg2
  go_wp2_with fail
  have hcall := equalLists_t s.lv _ _ _ (N2.out.gr Hg2.out) (M2.out.gr Hg2.out)
  (with_reducible refine hcall.mono ?_)
  clear hcall
  rintro e w4 ⟨rfl, hg4⟩
  go_wp2_with fail
  go_ret
  exact ⟨rfl, (Hg0.out.trans Hg2.out).trans hg4⟩

/-! ### New stores -/
def newSto (m : Mod) (D : List Nat) : Sto := if validM m then ⟨m, [ints (fix m.cons D)]⟩ else zeroSto
theorem set3 {w : World} {r : Nat} {t : TypeId} {z0 z1 z2 : Value} (x0 x1 x2 : Value) (h : w.heap[r]? = some (.cells #[z0, z1, z2] t (0, 0))) :
    (((w.setCell ⟨r, 0, none⟩ x0).setCell ⟨r, 1, none⟩ x1).setCell ⟨r, 2, none⟩ x2).heap[r]? = some (.cells #[x0, x1, x2] t (0, 0)) ∧ Gr [r] w (((w.setCell ⟨r, 0, none⟩ x0).setCell ⟨r, 1, none⟩ x1).setCell ⟨r, 2, none⟩ x2) := by
  have h3 := block_cells (cur' := #[]) (block_cells (cur' := #[]) (block_cells (cur' := #[]) h 0 x0) 1 x1) 2 x2
  exact ⟨by simpa using h3, (((Gr.refl _ _).setCell _ _ (.inl (by simp))).setCell _ _ (.inl (by simp))).setCell _ _ (.inl (by simp))⟩
theorem Gr.set3 {a w : World} {r : Nat} (h : Gr [r] a w) (x0 x1 x2 : Value) : Gr [r] a (((w.setCell ⟨r, 0, none⟩ x0).setCell ⟨r, 1, none⟩ x1).setCell ⟨r, 2, none⟩ x2) :=
  ((h.setCell _ _ (.inl (by simp))).setCell _ _ (.inl (by simp))).setCell _ _ (.inl (by simp))
/-- What stands behind a new store's three stores into its result. -/
theorem sto_fin {m : Mod} {w WX : World} {r g : Nat} {x0 x1 vb : Value} {xs : List Int} {t t2 : TypeId} (hM : ModM (fun b => r < b) WX (.agg #[x0, x1]) m) (hN : NumsM (fun b => r < b) WX vb xs) (hL : WX.heap[g]? = some (.cells #[vb] t (0, 0))) (hgr : r < g)
    (hr : WX.heap[r]? = some (.cells #[.slice none 0 0, .slice none 0 0, .slice none 0 0] t2 (0, 0))) (hG : Gr [] w WX) (hwr : w.heap.size ≤ r) :
    (((WX.setCell ⟨r, 0, none⟩ x0).setCell ⟨r, 1, none⟩ x1).setCell ⟨r, 2, none⟩ (.slice (some ⟨g, 0, none⟩) 1 1)).heap[r]? = some (.cells #[x0, x1, .slice (some ⟨g, 0, none⟩) 1 1] t2 (0, 0)) ∧
    (∀ S : List Nat, (∀ b ∈ S, b ≤ r) → StoV S (((WX.setCell ⟨r, 0, none⟩ x0).setCell ⟨r, 1, none⟩ x1).setCell ⟨r, 2, none⟩ (.slice (some ⟨g, 0, none⟩) 1 1)) (.agg #[x0, x1, .slice (some ⟨g, 0, none⟩) 1 1]) ⟨m, [xs]⟩) ∧
    Gr [] w (((WX.setCell ⟨r, 0, none⟩ x0).setCell ⟨r, 1, none⟩ x1).setCell ⟨r, 2, none⟩ (.slice (some ⟨g, 0, none⟩) 1 1)) := by
  obtain ⟨h1, h2⟩ := set3 x0 x1 (.slice (some ⟨g, 0, none⟩) 1 1) hr
  refine ⟨h1, fun S hS => StoV.mk ((hM.gr' (M' := fun b => r < b) h2 (by simp) (fun _ _ h => h)).mod (fun b hb h => by have := hS b hb; omega)) ⟨_, _, rfl, by simp, fun i x hi => ?_⟩, hG.step h2 (fun i hi => .inr (by simp at hi; omega))⟩
  have hi0 : i = 0 := by have := (List.getElem?_eq_some_iff.1 hi).1; simp at this; omega
  subst hi0
  simp at hi; subst hi
  exact ⟨g, 0, vb, rfl, fun h => by have := hS _ h; omega, by have := fld (h2.obj hL (by simp; omega)) 0; simpa using this, (hN.gr' (M' := fun b => r < b) h2 (by simp) (fun _ _ h => h)).nums (fun b hb h => by have := hS b hb; omega)⟩
theorem rows_le {c : Con} {n : Nat} (h : VC c n) : c.rows.length ≤ 1000 := by
  have hf := h.fits
  by_cases h0 : 1 ≤ c.kind ∧ c.kind ≤ 9
  · have : c.kind = 1 ∨ c.kind = 2 ∨ (c.kind = 3 ∨ c.kind = 9) ∨ c.kind = 4 ∨ c.kind = 5 ∨ c.kind = 6 ∨ c.kind = 7 ∨ c.kind = 8 := by omega
    rcases this with h | h | h | h | h | h | h | h
    · rw [fitsB_1 h] at hf; simp only [Bool.and_eq_true, beq_iff_eq] at hf; omega
    · rw [fitsB_2 h] at hf; simp only [Bool.and_eq_true, beq_iff_eq] at hf; omega
    · rw [fitsB_3 h] at hf; simp only [Bool.and_eq_true, beq_iff_eq] at hf; omega
    · rw [fitsB_4 h] at hf; simp only [Bool.and_eq_true, beq_iff_eq] at hf; omega
    · rw [fitsB_5 h, Bool.and_eq_true] at hf; have := rowsIn_pos hf.2; omega
    · rw [fitsB_6 h] at hf; simp only [Bool.and_eq_true, beq_iff_eq] at hf; omega
    · rw [fitsB_7 h] at hf; simp only [Bool.and_eq_true, beq_iff_eq] at hf; omega
    · rw [fitsB_8 h, Bool.and_eq_true, Bool.and_eq_true, Bool.and_eq_true] at hf; have := rowsIn_pos hf.1.1.1; omega
  · rw [fitsB_0 h0] at hf; cases hf


set_option maxRecDepth 100000 in
set_option maxHeartbeats 4000000 in
theorem newStore_c (m : Mod) (D : List Nat) (mv : Value) (w : World) (hv : ModV [] w mv m) (hVM : VM m D) (hs : m.Small) :
    Calls Try.prog 56 #[mv] w fun e w' => ∃ v', e = .returned v' ∧ (∀ S : List Nat, (∀ b ∈ S, b < w.heap.size) → StoV S w' v' ⟨m, [ints (fix m.cons D)]⟩) ∧ Gr [] w w' := by
  obtain ⟨xo, xc, co, cc, rfl⟩ := hv.slices
  have h20 := heap2 w (.cells #[.slice xo m.doms.length xc, .slice co m.cons.length cc] 32) (.cells #[.slice none 0 0, .slice none 0 0, .slice none 0 0] 39)
  have hg0 : Gr [] w ((w.alloc (.cells #[.slice xo m.doms.length xc, .slice co m.cons.length cc] 32)).alloc (.cells #[.slice none 0 0, .slice none 0 0, .slice none 0 0] 39)) := ((Gr.refl [] w).alloc _).alloc _
  have hs0 : ((w.alloc (.cells #[.slice xo m.doms.length xc, .slice co m.cons.length cc] 32)).alloc (.cells #[.slice none 0 0, .slice none 0 0, .slice none 0 0] 39)).heap.size = w.heap.size + 2 := by simp
  have Hb0 := hid h20.1; have Hr0 := hid h20.2; have Hg0 := hid hg0; have HM := hid (hv.gr hg0); have HVM := hid hVM; have Hs := hid hs
  have fb0 := fld h20.1
  clear hv h20 hg0 hVM hs
  go_enter Try.func56, Try.ntmps56
  go_wp2_with fail
  generalize hW0 : (w.alloc (.cells #[.slice xo m.doms.length xc, .slice co m.cons.length cc] 32)).alloc (.cells #[.slice none 0 0, .slice none 0 0, .slice none 0 0] 39) = w0 at *
  clear hW0
  have HBX : Hid (∀ W, Gr [] w0 W → W.heap[w.heap.size]? = some (.cells #[.slice xo m.doms.length xc, .slice co m.cons.length cc] 32 (0, 0))) := hid fun W h => h.obj Hb0.out (by simp)
  have HRX : Hid (∀ W, Gr [] w0 W → W.heap[w.heap.size + 1]? = some (.cells #[.slice none 0 0, .slice none 0 0, .slice none 0 0] 39 (0, 0))) := hid fun W h => h.obj Hr0.out (by simp)
  have HS : Hid (∀ W, Gr [w.heap.size + 1] w0 W → (W.cell? ⟨w.heap.size, 0, none⟩ = some (.slice xo m.doms.length xc) ∧ W.cell? ⟨w.heap.size, 1, none⟩ = some (.slice co m.cons.length cc)) ∧ Gr [w.heap.size + 1] w0 W) := hid fun W h => ⟨⟨fld (h.obj Hb0.out (by simp)) 0, fld (h.obj Hb0.out (by simp)) 1⟩, h⟩
  have HDn : Hid (Nums [] w0 .i64 (.slice xo m.doms.length xc) (ints D)) := hid (by rw [← HVM.out.doms]; exact (HM.out.parts).1)
  go_region_held_law (fun W => (W.cell? ⟨w.heap.size, 0, none⟩ = some (.slice xo m.doms.length xc) ∧ W.cell? ⟨w.heap.size, 1, none⟩ = some (.slice co m.cons.length cc)) ∧ Gr [w.heap.size + 1] w0 W)
    ((refine HS.out _ ?_; first | exact Gr.any HGa.out | exact Gr.any HGb.out | exact Gr.any ((Gr.refl [] w0).drew) | exact Gr.any (HGa.out.alloc _) | exact Gr.any (HGb.out.alloc _) | exact Gr.set3 (Gr.any HGa.out) _ _ _ | exact Gr.set3 (Gr.any (HGa.out.alloc _)) _ _ _ | exact Gr.set3 (Gr.any (HGb.out.alloc _)) _ _ _ | assumption | (go_split_ands; first | assumption | exact Gr.drew (by assumption) | exact Gr.alloc (by assumption) _)))
    (first
    | (go_simp; go_at_call 52; refine (modCopied_c m _ _ (HM.out.gr (by first | exact (Gr.refl [] w0).drew | exact HGb.out | exact HGb.out.alloc _)) Hs.out).mono ?_; rintro e wa ⟨xoa, xca, coa, cca, rfl, hma, hga⟩; have hgx : Gr [] w0 wa := Gr.trans (by first | exact (Gr.refl [] w0).drew | exact HGb.out | exact HGb.out.alloc _) hga; have HGa := hid hgx; have Hga := hid hga; have HMa : Hid (ModM (fun b => w.heap.size + 1 < b) wa (.agg #[.slice xoa m.doms.length xca, .slice coa m.cons.length cca]) m) := hid (hma.gr' (Gr.refl [] wa) (by simp) (fun b _ h => by have h1 := h.1; (try simp at h1); first | omega | (have := HGb.out.size; omega))); have fba := fld (HBX.out _ hgx); have fra := fld (HRX.out _ hgx); have ffa := fldF (HRX.out _ hgx); have hsa := hgx.size; (try (have frz := fld (HRX.out _ (hgx.alloc (.cells #[.slice vbo (ints (fix m.cons D)).length vbc] 23))); have ffz := fldF (HRX.out _ (hgx.alloc (.cells #[.slice vbo (ints (fix m.cons D)).length vbc] 23))))); clear hga hgx hma; (try dsimp only))
    | (go_simp; go_at_call 69; refine (propagate_c m D _ _ _ (HM.out.gr (by first | exact (Gr.refl [] w0).drew | exact HGa.out)) (HDn.out.gr (by first | exact (Gr.refl [] w0).drew | exact HGa.out)) HVM.out.cons HVM.out.below HVM.out.len.2).mono ?_; rintro e wb ⟨vb, rfl, hob, hgb⟩; obtain ⟨vbo, vbc, rfl⟩ := hob.form; have hgx : Gr [] w0 wb := Gr.trans (by first | exact (Gr.refl [] w0).drew | exact HGa.out) hgb; have HGb := hid hgx; have Hgb := hid hgb; have HNb : Hid (NumsM (fun b => w.heap.size + 1 < b) wb (.slice vbo (ints (fix m.cons D)).length vbc) (ints (fix m.cons D))) := hid (hob.numsM.gr' (Gr.refl [] wb) (by simp) (fun b _ h => by have h1 := h.1; (try simp at h1); first | omega | (have := HGa.out.size; omega))); have fbb := fld (HBX.out _ hgx); have frb := fld (HRX.out _ hgx); have ffb := fldF (HRX.out _ hgx); have hsb := hgx.size; have fry := fld (HRX.out _ (hgx.alloc (.cells #[.slice vbo (ints (fix m.cons D)).length vbc] 23))); have ffy := fldF (HRX.out _ (hgx.alloc (.cells #[.slice vbo (ints (fix m.cons D)).length vbc] 23))); clear hgb hgx hob; (try dsimp only)))
  all_goals
    go_wp2_with fail
    first
    | (obtain ⟨h5, hst, hG⟩ := sto_fin (w := w) (r := w.heap.size + 1) (g := wb.heap.size) (WX := wb.alloc (.cells #[.slice vbo (ints (fix m.cons D)).length vbc] 23)) ((HMa.out.gr' (M' := fun b => w.heap.size + 1 < b) Hgb.out (by simp) (fun _ _ h => h)).gr' (M' := fun b => w.heap.size + 1 < b) ((Gr.refl [] wb).alloc _) (by simp) (fun _ _ h => h)) (HNb.out.gr' (M' := fun b => w.heap.size + 1 < b) ((Gr.refl [] wb).alloc _) (by simp) (fun _ _ h => h)) (heap_alloc_new _ _) (by omega) (HRX.out _ (HGb.out.alloc _)) (Hg0.out.trans (HGb.out.alloc _)) (by omega)
       have flE := fld h5
       refine bodyPost_ret (v := .agg #[.slice xoa m.doms.length xca, .slice coa m.cons.length cca, .slice (some ⟨wb.heap.size, 0, none⟩) 1 1]) (by simp [results, Try.results56, go_sem, flE]) rfl ⟨_, rfl, fun S hS => hst S (fun b hb => by have := hS b hb; omega), hG⟩)
    | (obtain ⟨h5, hst, hG⟩ := sto_fin (w := w) (r := w.heap.size + 1) (g := wa.heap.size) (WX := wa.alloc (.cells #[.slice vbo (ints (fix m.cons D)).length vbc] 23)) (HMa.out.gr' (M' := fun b => w.heap.size + 1 < b) ((Gr.refl [] wa).alloc _) (by simp) (fun _ _ h => h)) ((HNb.out.gr' (M' := fun b => w.heap.size + 1 < b) Hga.out (by simp) (fun _ _ h => h)).gr' (M' := fun b => w.heap.size + 1 < b) ((Gr.refl [] wa).alloc _) (by simp) (fun _ _ h => h)) (heap_alloc_new _ _) (by omega) (HRX.out _ (HGa.out.alloc _)) (Hg0.out.trans (HGa.out.alloc _)) (by omega)
       have flE := fld h5
       refine bodyPost_ret (v := .agg #[.slice xoa m.doms.length xca, .slice coa m.cons.length cca, .slice (some ⟨wa.heap.size, 0, none⟩) 1 1]) (by simp [results, Try.results56, go_sem, flE]) rfl ⟨_, rfl, fun S hS => hst S (fun b hb => by have := hS b hb; omega), hG⟩)
    | (obtain ⟨h5, hst, hG⟩ := sto_fin (w := w) (r := w.heap.size + 1) (g := wb.heap.size) (WX := wa) HMa.out ((HNb.out.gr' (M' := fun b => w.heap.size + 1 < b) ((Gr.refl [] wb).alloc _) (by simp) (fun _ _ h => h)).gr' (M' := fun b => w.heap.size + 1 < b) Hga.out (by simp) (fun _ _ h => h)) (Hga.out.obj (heap_alloc_new _ _) (by simp)) (by omega) (HRX.out _ HGa.out) (Hg0.out.trans HGa.out) (by omega)
       have flE := fld h5
       refine bodyPost_ret (v := .agg #[.slice xoa m.doms.length xca, .slice coa m.cons.length cca, .slice (some ⟨wb.heap.size, 0, none⟩) 1 1]) (by simp [results, Try.results56, go_sem, flE]) rfl ⟨_, rfl, fun S hS => hst S (fun b hb => by have := hS b hb; omega), hG⟩)

end Go.Proofs.Ytngpcoilgilmjaa
