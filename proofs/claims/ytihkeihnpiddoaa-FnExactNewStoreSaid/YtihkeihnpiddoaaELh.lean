/-
  The laws' comparison of stores; a marked store, and the look at its marks.
-/
import Derived.Test.YtihkeihnpiddoaaEStl
import Derived.Test.YtihkeihnpiddoaaELg
set_option linter.unusedVariables false
set_option linter.unusedSimpArgs false
namespace Go.Proofs.Ytihkeihnpiddoaa
open Go.RowKit


set_option maxRecDepth 100000 in
theorem eqStore_t (s : Sto) (v1 v2 : Value) (w : World) (h1 : StoV [] w v1 s) (h2 : StoV [] w v2 s) :
    Calls Try.prog 8 #[v1, v2] w fun e w' => e = .returned (.bool true) ∧ Gr [] w w' := by
  obtain ⟨xo, xc, co, cc, lo, lc, rfl, n1, n2⟩ := h1.open
  obtain ⟨xo', xc', co', cc', lo', lc', rfl, m1, m2⟩ := h2.open
  have hg0 : Gr [] w ((w.alloc (.cells #[.slice xo s.mod.doms.length xc, .slice co s.mod.cons.length cc, .slice lo s.lv.length lc] 32)).alloc (.cells #[.slice xo' s.mod.doms.length xc', .slice co' s.mod.cons.length cc', .slice lo' s.lv.length lc'] 32)) := ((Gr.refl _ _).alloc _).alloc _
  have h2' := heap2 w (.cells #[.slice xo s.mod.doms.length xc, .slice co s.mod.cons.length cc, .slice lo s.lv.length lc] 32) (.cells #[.slice xo' s.mod.doms.length xc', .slice co' s.mod.cons.length cc', .slice lo' s.lv.length lc'] 32)
  have N1 := hid (n1.gr hg0); have N2 := hid (n2.gr hg0); have M1 := hid (m1.gr hg0); have M2 := hid (m2.gr hg0)
  have Hg0 := hid hg0; have Hb1 := hid h2'.1; have Hb2 := hid h2'.2
  have f1 := fld h2'.1; have f2 := fld h2'.2
  clear hg0 h2' n1 n2 m1 m2 h1 h2
  go_enter Try.func8, Try.ntmps8
  go_wp2_with fail
  have hcall := eqModel_t s.mod _ _ _ N1.out M1.out
  (with_reducible refine hcall.mono ?_)
  clear hcall
  rintro e w2 ⟨rfl, hg2⟩
  have g1 := fld (hg2.obj Hb1.out (by simp)); have g2 := fld (hg2.obj Hb2.out (by simp))
  have Hg2 := hid hg2
  clear f1 f2 hg2
  go_wp2_with fail
  have hcall := eqIntSS_t s.lv _ _ _ (N2.out.gr Hg2.out) (M2.out.gr Hg2.out)
  (with_reducible refine hcall.mono ?_)
  clear hcall
  rintro e w4 ⟨rfl, hg4⟩
  go_wp2_with fail
  go_ret
  exact ⟨rfl, (Hg0.out.trans Hg2.out).trans hg4⟩

theorem mkCs_eq {cs cs' : List Con} (h1 : cs'.length = cs.length) (h2 : ∀ (i : Nat) c c', cs[i]? = some c → cs'[i]? = some c' → ShC c c') : mkCs cs' = mkCs cs := by
  unfold mkCs
  congr 1
  refine List.ext_getElem? fun i => ?_
  rw [List.getElem?_map, List.getElem?_map]
  cases hi : cs[i]? with
  | none => rw [List.getElem?_eq_none (by have := List.getElem?_eq_none_iff.1 hi; omega)]
  | some c =>
    obtain ⟨c', hc'⟩ := get_some (xs := cs') (k := i) (by have := (List.getElem?_eq_some_iff.1 hi).1; omega)
    obtain ⟨s1, s2, s3⟩ := h2 i c c' hi hc'
    rw [hc']
    simp only [Option.map_some, mkC, mkR, s1, s2, s3]
theorem ModM.mk {M M' : Nat → Prop} {w w' : World} {v : Value} {m : Mod} (h : ModM M w v m) (k : Mk M' w w') : ∃ m', mkMo m' = mkMo m ∧ ModM M w' v m' := by
  obtain ⟨dv, cv, rfl, h1, h2⟩ := h
  obtain ⟨ds, e1, k1⟩ := h1.mk k
  obtain ⟨cs, e2, e3, k2⟩ := h2.mk k
  exact ⟨⟨ds, cs⟩, by unfold mkMo; rw [mkCs_eq e2 e3, e1], _, _, rfl, k1, k2⟩
/-- A marked store. -/
structure Marked (M : Nat → Prop) (w : World) (dv cv lv : Value) (n k : Nat) : Prop where
  read : ∃ m lvs, mkMo m = n ∧ mkR lvs = k ∧ ModM M w (.agg #[dv, cv]) m ∧ RowsM M w lv lvs
  held : Held (leavesN dv ++ leavesCs w cv ++ leavesR w lv) 1 w
theorem Marked.gr {M : Nat → Prop} {w w' : World} {dv cv lv : Value} {n k : Nat} (h : Marked M w dv cv lv n k) (hg : Gr [] w w') : Marked M w' dv cv lv n k := by
  obtain ⟨⟨m, lvs, e1, e2, h1, h2⟩, h3⟩ := h
  refine ⟨⟨m, lvs, e1, e2, h1.gr' hg (by simp) (fun _ _ h => h), h2.gr' hg (by simp) (fun _ _ h => h)⟩, ?_⟩
  rw [h1.parts.2.leaves_gr hg (by simp), h2.leaves_gr hg (by simp)]
  exact h3.gr hg
theorem Marked.of {M : Nat → Prop} {w w' : World} {dv cv lv : Value} {s : Mod} {lvs : List (List Int)} (h1 : ModM M w (.agg #[dv, cv]) s) (h2 : RowsM M w lv lvs) (hn : (leavesN dv ++ leavesCs w cv ++ leavesR w lv).Nodup) (hm : Mk M w w') (hw : Wr (leavesN dv ++ leavesCs w cv ++ leavesR w lv) 1 w w') :
    Marked M w' dv cv lv (mkMo s) (mkR lvs) := by
  obtain ⟨m', e1, k1⟩ := h1.mk hm
  obtain ⟨lvs', e2, k2⟩ := h2.mk hm
  refine ⟨⟨m', lvs', e1, by unfold mkR; rw [e2], k1, k2⟩, ?_⟩
  rw [h1.parts.2.leaves_mk hm, h2.leaves_mk hm]
  exact hw.set hn

theorem heldStore_m (M : Nat → Prop) (n k : Nat) (dv cv lv : Value) (w : World) (h : Marked M w dv cv lv n k) (hn : n ≤ 5000000) (hk : k ≤ 5000000) :
    Calls Try.prog 12 #[.agg #[dv, cv, lv], .int .i64 1] w fun e w' => e = .returned (.int .i64 (1 + n + k)) ∧ Gr [] w w' := by
  obtain ⟨⟨m, lvs, rfl, rfl, h1, h2⟩, h3⟩ := h
  exact heldStore_w M m lvs 1 dv cv lv w h1 h2 h3 (by omega) hn hk

end Go.Proofs.Ytihkeihnpiddoaa
