/-
  The laws' comparison of stores; a marked store, and the look at its marks.
  Walks of the laws' conversions of a store and a literal that came in, and of their sizes.
  How a store and a literal that came in as arguments are read.
-/
import Derived.Test.YtihkeihnpiddoaaGreatXStl
import Derived.Test.YtihkeihnpiddoaaGreatXLg
import Derived.Test.YtihkeihnpiddoaaGreatXEE
import Derived.Test.YtihkeihnpiddoaaGreatXSt
import Derived.Test.YtihkeihnpiddoaaGreatXLtStP
import Derived.Test.YtihkeihnpiddoaaGreatXEO
import Derived.Lib.SmallJoins
import Derived.Deep.Slices
import Derived.ChangeArms
set_option linter.unusedVariables false
set_option linter.unusedSimpArgs false
namespace Go.Proofs.YtihkeihnpiddoaaGreat
open Go.RowKit


set_option maxRecDepth 100000 in
theorem eqStore_t (s : Sto) (v1 v2 : Value) (w : World) (h1 : StoV [] w v1 s) (h2 : StoV [] w v2 s) :
    Calls Tryz.prog 31 #[v1, v2] w fun e w' => e = .returned (.bool true) ∧ Gr [] w w' := by
  obtain ⟨xo, xc, co, cc, lo, lc, rfl, n1, n2⟩ := h1.open
  obtain ⟨xo', xc', co', cc', lo', lc', rfl, m1, m2⟩ := h2.open
  have hg0 : Gr [] w ((w.alloc (.cells #[.slice xo s.mod.doms.length xc, .slice co s.mod.cons.length cc, .slice lo s.lv.length lc] 29)).alloc (.cells #[.slice xo' s.mod.doms.length xc', .slice co' s.mod.cons.length cc', .slice lo' s.lv.length lc'] 29)) := ((Gr.refl _ _).alloc _).alloc _
  have h2' := heap2 w (.cells #[.slice xo s.mod.doms.length xc, .slice co s.mod.cons.length cc, .slice lo s.lv.length lc] 29) (.cells #[.slice xo' s.mod.doms.length xc', .slice co' s.mod.cons.length cc', .slice lo' s.lv.length lc'] 29)
  have N1 := hid (n1.gr hg0); have N2 := hid (n2.gr hg0); have M1 := hid (m1.gr hg0); have M2 := hid (m2.gr hg0)
  have Hg0 := hid hg0; have Hb1 := hid h2'.1; have Hb2 := hid h2'.2
  have f1 := fld h2'.1; have f2 := fld h2'.2
  clear hg0 h2' n1 n2 m1 m2 h1 h2
  go_enter Tryz.func31, Tryz.ntmps31
  go_wp2_with fail
  have hcall := eqModel_t s.mod _ _ _ N1.out M1.out
  (with_reducible refine hcall.mono ?_)
  clear hcall
  rintro e w2 ⟨rfl, hg2⟩
  have g1 := fld (hg2.obj Hb1.out (by simp)); have g2 := fld (hg2.obj Hb2.out (by simp))
  have Hg2 := hid hg2
  clear f1 f2 hg2
  go_wp2_with fail
  have hcall := eqIntSS_t s.lv _ _ _ (N2.out.gr Hg2.out) (M2.out.gr Hg2.out)
  (with_reducible refine hcall.mono ?_)
  clear hcall
  rintro e w4 ⟨rfl, hg4⟩
  go_wp2_with fail
  go_ret
  exact ⟨rfl, (Hg0.out.trans Hg2.out).trans hg4⟩

theorem mkCs_eq {cs cs' : List Con} (h1 : cs'.length = cs.length) (h2 : ∀ (i : Nat) c c', cs[i]? = some c → cs'[i]? = some c' → ShC c c') : mkCs cs' = mkCs cs := by
  unfold mkCs
  congr 1
  refine List.ext_getElem? fun i => ?_
  rw [List.getElem?_map, List.getElem?_map]
  cases hi : cs[i]? with
  | none => rw [List.getElem?_eq_none (by have := List.getElem?_eq_none_iff.1 hi; omega)]
  | some c =>
    obtain ⟨c', hc'⟩ := get_some (xs := cs') (k := i) (by have := (List.getElem?_eq_some_iff.1 hi).1; omega)
    obtain ⟨s1, s2, s3⟩ := h2 i c c' hi hc'
    rw [hc']
    simp only [Option.map_some, mkC, mkR, s1, s2, s3]
theorem ModM.mk {M M' : Nat → Prop} {w w' : World} {v : Value} {m : Mod} (h : ModM M w v m) (k : Mk M' w w') : ∃ m', mkMo m' = mkMo m ∧ ModM M w' v m' := by
  obtain ⟨dv, cv, rfl, h1, h2⟩ := h
  obtain ⟨ds, e1, k1⟩ := h1.mk k
  obtain ⟨cs, e2, e3, k2⟩ := h2.mk k
  exact ⟨⟨ds, cs⟩, by unfold mkMo; rw [mkCs_eq e2 e3, e1], _, _, rfl, k1, k2⟩
/-- A marked store. -/
structure Marked (M : Nat → Prop) (w : World) (dv cv lv : Value) (n k : Nat) : Prop where
  read : ∃ m lvs, mkMo m = n ∧ mkR lvs = k ∧ ModM M w (.agg #[dv, cv]) m ∧ RowsM M w lv lvs
  held : Held (leavesN dv ++ leavesCs w cv ++ leavesR w lv) 1 w
theorem Marked.gr {M : Nat → Prop} {w w' : World} {dv cv lv : Value} {n k : Nat} (h : Marked M w dv cv lv n k) (hg : Gr [] w w') : Marked M w' dv cv lv n k := by
  obtain ⟨⟨m, lvs, e1, e2, h1, h2⟩, h3⟩ := h
  refine ⟨⟨m, lvs, e1, e2, h1.gr' hg (by simp) (fun _ _ h => h), h2.gr' hg (by simp) (fun _ _ h => h)⟩, ?_⟩
  rw [h1.parts.2.leaves_gr hg (by simp), h2.leaves_gr hg (by simp)]
  exact h3.gr hg
theorem Marked.of {M : Nat → Prop} {w w' : World} {dv cv lv : Value} {s : Mod} {lvs : List (List Int)} (h1 : ModM M w (.agg #[dv, cv]) s) (h2 : RowsM M w lv lvs) (hn : (leavesN dv ++ leavesCs w cv ++ leavesR w lv).Nodup) (hm : Mk M w w') (hw : Wr (leavesN dv ++ leavesCs w cv ++ leavesR w lv) 1 w w') :
    Marked M w' dv cv lv (mkMo s) (mkR lvs) := by
  obtain ⟨m', e1, k1⟩ := h1.mk hm
  obtain ⟨lvs', e2, k2⟩ := h2.mk hm
  refine ⟨⟨m', lvs', e1, by unfold mkR; rw [e2], k1, k2⟩, ?_⟩
  rw [h1.parts.2.leaves_mk hm, h2.leaves_mk hm]
  exact hw.set hn

theorem heldStore_m (M : Nat → Prop) (n k : Nat) (dv cv lv : Value) (w : World) (h : Marked M w dv cv lv n k) (hn : n ≤ 5000000) (hk : k ≤ 5000000) :
    Calls Tryz.prog 33 #[.agg #[dv, cv, lv], .int .i64 1] w fun e w' => e = .returned (.int .i64 (1 + n + k)) ∧ Gr [] w w' := by
  obtain ⟨⟨m, lvs, rfl, rfl, h1, h2⟩, h3⟩ := h
  exact heldStore_w M m lvs 1 dv cv lv w h1 h2 h3 (by omega) hn hk

end Go.Proofs.YtihkeihnpiddoaaGreat

set_option linter.unusedVariables false
set_option linter.unusedSimpArgs false
namespace Go.Proofs.YtihkeihnpiddoaaGreat
open Go.RowKit

def szSto (s : Sto) : Nat := szMo s.mod + szR s.lv

set_option maxRecDepth 100000 in
theorem szStore_c (s : Sto) (left : Int) (v : Value) (w : World) (hv : StoV [] w v s) (hl : 0 ≤ left ∧ left ≤ 2000000) :
    Calls Tryz.prog 28 #[v, .int .i64 left] w fun e w' => e = .returned (.int .i64 (cut left (szSto s))) ∧ Gr [] w w' := by
  obtain ⟨xo, xc, co, cc, lo, lc, rfl, n1, n2⟩ := hv.open
  have hg0 : Gr [] w (w.alloc (.cells #[.slice xo s.mod.doms.length xc, .slice co s.mod.cons.length cc, .slice lo s.lv.length lc] 61)) := (Gr.refl _ _).alloc _
  have hb0 : (w.alloc (.cells #[.slice xo s.mod.doms.length xc, .slice co s.mod.cons.length cc, .slice lo s.lv.length lc] 61)).heap[w.heap.size]? = some (.cells #[.slice xo s.mod.doms.length xc, .slice co s.mod.cons.length cc, .slice lo s.lv.length lc] 61 (0, 0)) := heap_alloc_new _ _
  have hfl := fld hb0
  have N1 := hid (n1.gr hg0); have N2 := hid (n2.gr hg0); have Hg0 := hid hg0; have Hb0 := hid hb0
  clear n1 n2 hb0 hg0 hv
  go_enter Tryz.func28, Tryz.ntmps28
  go_wp2_with fail
  have hcall := szModel_c s.mod left _ _ N1.out hl
  (with_reducible refine hcall.mono ?_)
  clear hcall
  rintro e w2 ⟨rfl, hg2⟩
  obtain ⟨y, hy⟩ : ∃ y, y = szMo s.mod := ⟨_, rfl⟩
  rw [← hy]
  have Hy := hid hy
  have fb2 := fld (hg2.obj Hb0.out (by simp))
  have Hg2 := hid hg2
  clear hy hfl hg2
  by_cases h1 : left < (y : Int)
  · rw [cut_neg h1]
    go_wp2_with fail
    go_ret
    exact ⟨ret_int (by rw [cut_neg]; have := Hy.out; unfold szSto; omega), Hg0.out.trans Hg2.out⟩
  rw [cut_pos (by omega)]
  obtain ⟨l1, hl1⟩ : ∃ l1, l1 = left - (y : Int) := ⟨_, rfl⟩
  rw [← hl1]
  have hl1' : 0 ≤ l1 ∧ l1 ≤ 2000000 := by omega
  have Hl1 := hid hl1
  clear hl1
  go_wp2_with fail
  have hcall := szIntSS_c s.lv l1 _ _ (N2.out.gr Hg2.out) hl1'
  (with_reducible refine hcall.mono ?_)
  clear hcall
  rintro e w4 ⟨rfl, hg4⟩
  obtain ⟨z, hz⟩ : ∃ z, z = szR s.lv := ⟨_, rfl⟩
  rw [← hz]
  have Hz := hid hz
  clear hz fb2
  by_cases h3 : l1 < (z : Int)
  · rw [cut_neg h3]
    go_wp2_with fail
    go_ret
    exact ⟨ret_int (by rw [cut_neg]; have := Hl1.out; have := Hz.out; have := Hy.out; unfold szSto; omega), (Hg0.out.trans Hg2.out).trans hg4⟩
  rw [cut_pos (by omega)]
  go_wp2_with fail
  go_ret
  refine ⟨ret_int ?_, (Hg0.out.trans Hg2.out).trans hg4⟩
  have a1 := Hl1.out; have a2 := Hz.out; have a3 := Hy.out
  rw [cut_pos (by unfold szSto; omega)]; unfold szSto; omega


set_option maxRecDepth 100000 in
theorem toStore_c (s : Sto) (v : Value) (w : World) (hv : StoV [] w v s) (hs : s.mod.Small) (hl : s.lv.length ≤ 2000000) (hr : ∀ r ∈ s.lv, r.length ≤ 2000000) :
    Calls Tryz.prog 29 #[v] w fun e w' => ∃ dv cv lv, e = .returned (.agg #[dv, cv, lv]) ∧ ModM (New w.heap.size w') w' (.agg #[dv, cv]) s.mod ∧ RowsM (New w.heap.size w') w' lv s.lv ∧ Gr [] w w' := by
  obtain ⟨xo, xc, co, cc, lo, lc, rfl, n1, n2⟩ := hv.open
  have H1 := hid n1; have H2 := hid n2; have Hs := hid hs; have Hl := hid hl; have Hr := hid hr
  clear hs hl hr n1 n2 hv
  go_enter Tryz.func29, Tryz.ntmps29
  go_wp2_with fail
  generalize hW0 : World.alloc (World.alloc (World.alloc _ _) _) _ = W0
  have h30 := heap3 w (.cells #[.slice xo s.mod.doms.length xc, .slice co s.mod.cons.length cc, .slice lo s.lv.length lc] 61) (.cells #[.slice none 0 0, .slice none 0 0, .slice none 0 0] 29) (.cells #[.slice none 0 0, .slice none 0 0, .slice none 0 0] 29)
  rw [hW0] at h30
  have hg0 : Gr [] w W0 := by rw [← hW0]; exact (((Gr.refl [] w).alloc _).alloc _).alloc _
  have hs0 : W0.heap.size = w.heap.size + 3 := by rw [← hW0]; simp
  obtain ⟨hbB, hbR, hbO⟩ := h30
  have HB := hid hbB; have HR := hid hbR; have HO : Hid (W0.heap[w.heap.size + 1 + 1]? = some (.cells #[.slice none 0 0, .slice none 0 0, .slice none 0 0] 29 (0, 0))) := hid hbO
  have Hg0 := hid hg0
  clear hW0 hbB hbR hbO hg0
  have hcall := toModel_c s.mod _ W0 (H1.out.gr Hg0.out) Hs.out
  (with_reducible refine hcall.mono ?_)
  clear hcall
  rintro e w2 ⟨v2, rfl, hm2, hg2⟩
  obtain ⟨ao, ac, bo, bc, rfl⟩ := (New.mod hm2).slices
  have flB := fld (hg2.obj HB.out (by simp)); have flO := fld (hg2.obj HO.out (by simp)); have ffO := fldF (hg2.obj HO.out (by simp))
  have HB2 := hid (hg2.obj HB.out (by simp)); have HR2 := hid (hg2.obj HR.out (by simp)); have HO2 := hid (hg2.obj HO.out (by simp))
  have Hg2 := hid (Hg0.out.trans hg2); have Hm2 := hid hm2; have hs2 := hg2.size
  clear hm2 hg2
  go_wp2_with fail
  have hgs3 : Gr [w.heap.size + 1 + 1] w2 ((w2.setCell ⟨w.heap.size + 1 + 1, 0, none⟩ (.slice ao s.mod.doms.length ac)).setCell ⟨w.heap.size + 1 + 1, 1, none⟩ (.slice bo s.mod.cons.length bc)) := ((Gr.refl _ _).setCell _ _ (.inl (by simp))).setCell _ _ (.inl (by simp))
  have hbO3 := block_cells (cur' := #[]) (block_cells (cur' := #[]) HO2.out 0 (.slice ao s.mod.doms.length ac)) 1 (.slice bo s.mod.cons.length bc)
  generalize hW3 : (w2.setCell ⟨w.heap.size + 1 + 1, 0, none⟩ (.slice ao s.mod.doms.length ac)).setCell ⟨w.heap.size + 1 + 1, 1, none⟩ (.slice bo s.mod.cons.length bc) = W3 at hgs3 hbO3 ⊢
  have hg3 : Gr [] w W3 := Hg2.out.step hgs3 (fun i hi => .inr (by simp at hi; omega))
  have hs3 := hgs3.size
  have HR3 := hid (hgs3.obj HR2.out (by simp)); have HO3 := hid hbO3
  have Hg3 := hid hg3
  have Hm3 := hid (Hm2.out.gr' (M' := New W0.heap.size W3) hgs3 (by intro b hb h; have := h.1; simp at hb; omega) (fun b hb h => h.le (Nat.le_refl _) hgs3.size))
  clear hW3 hgs3 hg3 hbO3 flB flO ffO
  have hcall := toIntSS_c s.lv _ W3 (H2.out.gr Hg3.out) Hl.out Hr.out
  (with_reducible refine hcall.mono ?_)
  clear hcall
  rintro e w6 ⟨v6, rfl, hr6, hg6⟩
  obtain ⟨lo6, lc6, rfl, -, -⟩ := id hr6
  have flO := fld (hg6.obj HO3.out (by simp)); have ffO := fldF (hg6.obj HO3.out (by simp))
  have flR := fld (hg6.obj HR3.out (by simp)); have ffR := fldF (hg6.obj HR3.out (by simp))
  have HR6 := hid (hg6.obj HR3.out (by simp)); have HO6 := hid (hg6.obj HO3.out (by simp))
  have Hg6 := hid (Hg3.out.trans hg6); have Hr6 := hid hr6; have hs6 := hg6.size
  have Hm6 := hid (Hm3.out.gr' (M' := New W0.heap.size w6) hg6 (by simp) (fun b hb h => h.le (Nat.le_refl _) hg6.size))
  clear hr6 hg6
  go_wp2_with fail
  have hgE : Gr [w.heap.size + 1 + 1, w.heap.size + 1] w6 ((((w6.setCell ⟨w.heap.size + 1 + 1, 2, none⟩ (.slice lo6 s.lv.length lc6)).setCell ⟨w.heap.size + 1, 0, none⟩ (.slice ao s.mod.doms.length ac)).setCell ⟨w.heap.size + 1, 1, none⟩ (.slice bo s.mod.cons.length bc)).setCell ⟨w.heap.size + 1, 2, none⟩ (.slice lo6 s.lv.length lc6)) :=
    ((((Gr.refl _ _).setCell _ _ (.inl (by simp))).setCell _ _ (.inl (by simp))).setCell _ _ (.inl (by simp))).setCell _ _ (.inl (by simp))
  have hbE := block_cells (cur' := #[]) (block_cells (cur' := #[]) (block_cells (cur' := #[]) (((Gr.refl [w.heap.size + 1 + 1] w6).setCell ⟨w.heap.size + 1 + 1, 2, none⟩ (.slice lo6 s.lv.length lc6) (.inl (by simp))).obj HR6.out (by simp)) 0 (.slice ao s.mod.doms.length ac)) 1 (.slice bo s.mod.cons.length bc)) 2 (.slice lo6 s.lv.length lc6)
  generalize hWE : ((((w6.setCell ⟨w.heap.size + 1 + 1, 2, none⟩ (.slice lo6 s.lv.length lc6)).setCell ⟨w.heap.size + 1, 0, none⟩ (.slice ao s.mod.doms.length ac)).setCell ⟨w.heap.size + 1, 1, none⟩ (.slice bo s.mod.cons.length bc)).setCell ⟨w.heap.size + 1, 2, none⟩ (.slice lo6 s.lv.length lc6)) = WE at hgE hbE ⊢
  have flE := fld hbE
  have hsE := hgE.size
  refine bodyPost_ret (v := .agg #[.slice ao s.mod.doms.length ac, .slice bo s.mod.cons.length bc, .slice lo6 s.lv.length lc6]) ?_ rfl ?_
  · simp [results, Tryz.results29, go_sem, flE]
  · refine ⟨_, _, _, rfl, ?_, ?_, Hg6.out.step hgE (fun i hi => .inr (by simp at hi; omega))⟩
    · exact Hm6.out.gr' hgE (by intro b hb h; have := h.1; simp at hb; omega) (fun b hb h => h.le (by omega) hsE)
    · exact Hr6.out.gr' hgE (by intro b hb h; have := h.1; simp at hb; omega) (fun b hb h => h.le (by omega) hsE)


set_option maxRecDepth 100000 in
theorem toLiteral_c (l : Lit) (w : World) :
    Calls Tryz.prog 30 #[.agg #[.int .i64 l.var, .int .i64 l.val, .bool l.neg]] w fun e w' => e = .returned (.agg #[.int .i64 l.var, .int .i64 l.val, .bool l.neg]) ∧ Gr [] w w' := by
  go_enter Tryz.func30, Tryz.ntmps30
  go_wp2_with fail
  have flE := fld (heap3 w (.cells #[.int .i64 l.var, .int .i64 l.val, .bool l.neg] 62) (.cells #[.int .i64 l.var, .int .i64 l.val, .bool l.neg] 31) (.cells #[.int .i64 l.var, .int .i64 l.val, .bool l.neg] 31)).2.1
  exact bodyPost_ret (v := .agg #[.int .i64 l.var, .int .i64 l.val, .bool l.neg]) (by simp [results, Tryz.results30, go_sem, flE]) rfl ⟨rfl, (((Gr.refl [] w).alloc _).alloc _).alloc _⟩

end Go.Proofs.YtihkeihnpiddoaaGreat

set_option linter.unusedVariables false
set_option linter.unusedSimpArgs false
namespace Go.Proofs.YtihkeihnpiddoaaGreat
open Go.RowKit Go.ChangeShapes Go.WideShapes

theorem triple {α : Type} {l : List α} (h : l.length = 3) : ∃ a b c, l = [a, b, c] := by
  match l, h with
  | [a, b, c], _ => exact ⟨a, b, c, rfl⟩
theorem duo {α : Type} {l : List α} (h : l.length = 2) : ∃ a b, l = [a, b] := by
  match l, h with
  | [a, b], _ => exact ⟨a, b, rfl⟩
section
variable {H : Type} {enc : TypeId × Value → H} {W : World} {held : Bool}
theorem cellsOfLit : Tryz.prog.cellsOf 62 = 3 := by kernel_rfl
theorem cellsOfSto : Tryz.prog.cellsOf 61 = 3 := by kernel_rfl
theorem cellsOfMod : Tryz.prog.cellsOf 59 = 2 := by kernel_rfl
theorem cellsOfInt : Tryz.prog.cellsOf 3 = 1 := by kernel_rfl
theorem cellsOfBool : Tryz.prog.cellsOf 4 = 1 := by kernel_rfl
theorem cellsOfInts : Tryz.prog.cellsOf 23 = 1 := by kernel_rfl
theorem cellsOfRows : Tryz.prog.cellsOf 27 = 1 := by kernel_rfl
theorem cellsOfCons : Tryz.prog.cellsOf 57 = 1 := by kernel_rfl
set_option maxRecDepth 100000
theorem open_litv {r : Reach} {b0 : Nat} {v : Value} {d : DataW H} {p : List MemPlace} (hv : Value.okWide Tryz.prog W r b0 62 v) (h : DataW.Trod enc Tryz.prog W 0 (fun _ => true) held 62 v d p) : ∃ l : Lit, v = .agg #[.int .i64 l.var, .int .i64 l.val, .bool l.neg] := by
  obtain ⟨cs, rfl, hsz⟩ := okWide_struct Tryz.underlying62 hv
  obtain ⟨fuel, h⟩ := h
  obtain ⟨xs, n, _, _, hl, hlen, hf⟩ := DataW.trod_struct Tryz.underlying62 h
  rw [cellsOfLit] at hl
  obtain ⟨c0, c1, c2, e⟩ := triple hl
  obtain ⟨x0, x1, x2, rfl⟩ := triple (hlen.trans rfl)
  have f0 := hf 0 _ rfl
  have f1 := hf 1 _ rfl
  have f2 := hf 2 _ rfl
  rw [e] at f0 f1 f2
  simp only [List.getElem?_cons_zero, List.getElem?_cons_succ, cellsOfInt, cellsOfBool, List.drop_zero, List.drop_succ_cons, List.take_succ_cons, List.take_zero] at f0 f1 f2
  obtain ⟨a, ha, _, _⟩ := DataW.trod_int Tryz.underlying3 f0
  obtain ⟨b, hb, _, _⟩ := DataW.trod_int Tryz.underlying3 f1
  obtain ⟨c, hc, _⟩ := DataW.trod_bool Tryz.underlying4 f2
  cases ha; cases hb; cases hc
  refine ⟨⟨a, b, c⟩, ?_⟩
  simp only [Value.cells] at e
  exact congrArg Value.agg (Array.toList_inj.1 e)
theorem open_mo {fuel : Nat} {cs : List Value} {x : DataW H × List MemPlace} (h : DataW.trod enc Tryz.prog W 0 (fun _ => true) held fuel 59 cs = some x) : ∃ (m : Mod) (dv cv : Value), cs = [dv, cv] ∧ Nums [] W .i64 dv m.doms ∧ ConsV [] W cv m.cons := by
  obtain ⟨xs, n, _, _, hl, hlen, hf⟩ := DataW.trod_struct Tryz.underlying59 h
  rw [cellsOfMod] at hl
  obtain ⟨c0, c1, rfl⟩ := duo hl
  obtain ⟨x0, x1, rfl⟩ := duo (hlen.trans rfl)
  have f0 := hf 0 _ rfl
  have f1 := hf 1 _ rfl
  simp only [List.getElem?_cons_zero, List.getElem?_cons_succ, cellsOfInts, cellsOfCons, List.drop_zero, List.drop_succ_cons, List.take_succ_cons, List.take_zero] at f0 f1
  obtain ⟨ds, hd⟩ := open_nums f0
  obtain ⟨cs, hc⟩ := open_conss f1
  exact ⟨⟨ds, cs⟩, c0, c1, rfl, hd, hc⟩
theorem open_storev {r : Reach} {b0 : Nat} {v : Value} {d : DataW H} {p : List MemPlace} (hv : Value.okWide Tryz.prog W r b0 61 v) (h : DataW.Trod enc Tryz.prog W 0 (fun _ => true) held 61 v d p) : ∃ s, StoV [] W v s := by
  obtain ⟨cs, rfl, hsz⟩ := okWide_struct Tryz.underlying61 hv
  obtain ⟨fuel, h⟩ := h
  obtain ⟨xs, n, _, _, hl, hlen, hf⟩ := DataW.trod_struct Tryz.underlying61 h
  rw [cellsOfSto] at hl
  obtain ⟨c0, c1, c2, e⟩ := triple hl
  obtain ⟨x0, x1, rfl⟩ := duo (hlen.trans rfl)
  have f0 := hf 0 _ rfl
  have f1 := hf 1 _ rfl
  rw [e] at f0 f1
  simp only [List.getElem?_cons_zero, List.getElem?_cons_succ, cellsOfMod, cellsOfRows, List.drop_zero, List.drop_succ_cons, List.take_succ_cons, List.take_zero] at f0 f1
  obtain ⟨m, dv, cv, e0, hd, hc⟩ := open_mo f0
  obtain ⟨rs, hr⟩ := open_rows f1
  cases e0
  simp only [Value.cells] at e
  exact ⟨⟨m, rs⟩, c0, c1, c2, congrArg Value.agg (Array.toList_inj.1 e), hd, hc, hr⟩
end
end Go.Proofs.YtihkeihnpiddoaaGreat
