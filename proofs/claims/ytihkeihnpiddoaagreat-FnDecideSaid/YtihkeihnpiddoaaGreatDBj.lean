/-
  Walk of the program's Backjump, of a valid store to one of its levels.
-/
import Derived.Test.YtihkeihnpiddoaaGreatDDc
set_option linter.unusedVariables false
set_option linter.unusedSimpArgs false
namespace Go.Proofs.YtihkeihnpiddoaaGreat
open Go.RowKit

theorem RowsM.take {M : Nat → Prop} {w : World} {ao : Option Addr} {n cap : Nat} {rows : List (List Int)} (h : RowsM M w (.slice ao n cap) rows) (k : Nat) (hk : k ≤ rows.length) : RowsM M w (.slice ao k cap) (rows.take k) := by
  obtain ⟨ao', cap', e, ⟨h1, h2, h3⟩, hc⟩ := h
  cases e
  refine ⟨ao, cap, by rw [List.length_take, Nat.min_eq_left hk], ⟨by rw [List.length_take]; omega, h2, h3⟩, fun i r hi => ?_⟩
  rw [List.getElem?_take] at hi
  split at hi
  · exact hc i r hi
  · cases hi


set_option maxRecDepth 100000 in
set_option maxHeartbeats 4000000 in
theorem Backjump_c (s : Sto) (n : Nat) (C : List Nat) (sv : Value) (w : World) (hv : StoV [] w sv s) (hs : s.mod.Small) (hval : validS s = true) (hC : Cur s C) (hn : n < s.lv.length) :
    Calls Tryz.prog 26 #[sv, .int .i64 (n : Int)] w fun e w' => ∃ v', e = .returned (.tuple #[v', .bool true]) ∧ StoV [] w' v' ⟨s.mod, s.lv.take (n + 1)⟩ ∧ Gr [] w w' := by
  obtain ⟨xo, xc, co, cc, lo, lc, rfl, hm0, -⟩ := hv.open
  have h20 := heap2 w (.cells #[.slice xo s.mod.doms.length xc, .slice co s.mod.cons.length cc, .slice lo s.lv.length lc] 29) (.cells #[.slice none 0 0, .slice none 0 0, .slice none 0 0] 29)
  have hg2 : Gr [] w ((w.alloc (.cells #[.slice xo s.mod.doms.length xc, .slice co s.mod.cons.length cc, .slice lo s.lv.length lc] 29)).alloc (.cells #[.slice none 0 0, .slice none 0 0, .slice none 0 0] 29)) := ((Gr.refl [] w).alloc _).alloc _
  have hs2 : ((w.alloc (.cells #[.slice xo s.mod.doms.length xc, .slice co s.mod.cons.length cc, .slice lo s.lv.length lc] 29)).alloc (.cells #[.slice none 0 0, .slice none 0 0, .slice none 0 0] 29)).heap.size = w.heap.size + 2 := by simp
  have HA := hid h20.1; have HZ := hid h20.2; have HG0 := hid hg2; have HV := hid (hv.gr hg2); have HCur := hid hC; have Hs := hid hs; have Hval := hid hval
  have fa := fld HA.out
  have hmany := hC.many
  clear hv h20 hg2 hC hs hval hm0
  go_enter Tryz.func26, Tryz.ntmps26
  go_wp2_with fail
  generalize hW0 : (w.alloc (.cells #[.slice xo s.mod.doms.length xc, .slice co s.mod.cons.length cc, .slice lo s.lv.length lc] 29)).alloc (.cells #[.slice none 0 0, .slice none 0 0, .slice none 0 0] 29) = w0 at *
  clear hW0
  have hcall := ValidStore_c s _ _ HV.out
  (with_reducible refine hcall.mono ?_)
  clear hcall
  rw [Hval.out]
  rintro e w1 ⟨rfl, hg1⟩
  have HA1 := hid (hg1.obj HA.out (by simp)); have HZ1 := hid (hg1.obj HZ.out (by simp)); have HG1 := hid (HG0.out.trans hg1); have HV1 := hid (HV.out.gr hg1)
  have fa1 := fld HA1.out
  have hs1 := hg1.size
  clear hg1 fa HA HZ HG0 HV
  go_wp2_with fail
  have hcall := stoCopied_c s _ _ HV1.out Hs.out (by omega) (fun r hr => by have := HCur.out.rows r hr; omega)
  (with_reducible refine hcall.mono ?_)
  clear hcall
  rintro e w2 ⟨yo, yc, zo, zc, po, pc, M, rfl, hM, hMr, hown, hg2⟩
  have hpc : s.lv.length ≤ pc ∧ pc ≤ 9223372036854775807 := by
    obtain ⟨a, c, e, h1, h2, -⟩ := hown.slice
    simp only [Value.slice.injEq] at e
    omega
  have ha3 : Gr [] w2 (w2.alloc (.cells #[.slice yo s.mod.doms.length yc, .slice zo s.mod.cons.length zc, .slice po s.lv.length pc] 29)) := (Gr.refl _ _).alloc _
  have hx3 := sto3 w2 (.slice yo s.mod.doms.length yc) (.slice zo s.mod.cons.length zc) (.slice po s.lv.length pc)
  have hlt12 := hg2.size
  have HA3 := hid (ha3.obj (hg2.obj HA1.out (by simp)) (by simp)); have HZ3 := hid (ha3.obj (hg2.obj HZ1.out (by simp)) (by simp)); have HX3 := hid hx3
  have HG3 := hid (HG1.out.trans (hg2.trans ha3))
  have HM3 := hid (hM.gr' (M' := M) ha3 (by simp) (fun _ _ h => h)); have HMr := hid hMr
  have HOX3 : Hid (OwnGX (fun b => b < w1.heap.size ∨ b = w2.heap.size) 1 elRowM w1.heap.size (w2.alloc (.cells #[.slice yo s.mod.doms.length yc, .slice zo s.mod.cons.length zc, .slice po s.lv.length pc] 29)) 23 (.slice po s.lv.length pc) s.lv) := hid ((OwnGX.ofG hown (fun b h => by rcases h with h | h; (exact .inl h); (exact .inr (by omega)))).gr elRowM_ok ha3 (by simp))
  have hs3 : (w2.alloc (.cells #[.slice yo s.mod.doms.length yc, .slice zo s.mod.cons.length zc, .slice po s.lv.length pc] 29)).heap.size = w2.heap.size + 1 := by simp
  have fa3 := fld HA3.out; have fx3 := fld HX3.out; have ffx3 := fldF HX3.out
  clear hM hMr hown hg2 ha3 hx3 fa1
  have hsub : ((s.lv.length : Int) - 1) = ((s.lv.length - 1 : Nat) : Int) := by omega
  go_wp2_with fail
  generalize hW3 : w2.alloc (.cells #[.slice yo s.mod.doms.length yc, .slice zo s.mod.cons.length zc, .slice po s.lv.length pc] 29) = w3 at *
  clear hW3
  have hin : ∀ q : Int, q = (s.lv.length : Int) - 1 → inB 0 q n = true := fun q hq => inB_iff.2 (by omega)
  refine (within_c _ _ _ _).mono ?_
  rw [hin _ (by omega)]
  rintro e w4 ⟨rfl, rfl⟩
  have hX4 := block_cells (cur' := #[]) HX3.out 2 (.slice po (n + 1) (n + 1))
  have hg4 : Gr [w2.heap.size] w4 (w4.setCell ⟨w2.heap.size, 2, none⟩ (.slice po (n + 1) (n + 1))) := (Gr.refl _ _).setCell _ _ (.inl (by simp))
  have hZ4 := hg4.obj HZ3.out (by simp; omega)
  have HX4 := hid hX4; have Hg4 := hid hg4; have HZ4 := hid hZ4
  have fx4 := fld hX4; have fz4 := fld hZ4; have ffz4 := fldF hZ4
  clear hX4 hg4 hZ4 hin hsub
  go_wp2_with fail
  refine (ClipSS_c po (n + 1) pc _ (by omega) (by omega)).mono ?_
  rintro e w5 ⟨rfl, rfl⟩
  go_wp2_with fail
  obtain ⟨h5, hG5⟩ := set3 (.slice yo s.mod.doms.length yc) (.slice zo s.mod.cons.length zc) (.slice po (n + 1) (n + 1)) HZ4.out
  have flE := fld h5
  have hm := (HM3.out.gr' (M' := M) Hg4.out (fun b hb hm => by have := (HMr.out b hm).1.2; simp at hb; omega) (fun _ _ h => h)).gr' (M' := M) hG5 (fun b hb hm => by have := (HMr.out b hm).1.1; simp at hb; omega) (fun _ _ h => h)
  have hr := (((HOX3.out.gr elRowM_ok Hg4.out (by simp)).gr elRowM_ok hG5 (by simp; omega)).g (fun b h => .inl h)).rowsM
  have hr2 := (hr.take (n + 1) (by omega)).clip
  have hlt : (s.lv.take (n + 1)).length = n + 1 := by rw [List.length_take]; omega
  refine bodyPost_ret (v := .tuple #[.agg #[.slice yo s.mod.doms.length yc, .slice zo s.mod.cons.length zc, .slice po (n + 1) (n + 1)], .bool true]) (by simp [results, Tryz.results26, go_sem, flE]) rfl ⟨_, rfl, StoV.mk (s := ⟨s.mod, s.lv.take (n + 1)⟩) (hm.mod (by simp)) (hr2.rows (S := []) (by simp)), ((HG3.out.step Hg4.out (fun i hi => .inr (by simp at hi; omega))).step hG5 (fun i hi => .inr (by simp at hi; omega)))⟩

end Go.Proofs.YtihkeihnpiddoaaGreat
