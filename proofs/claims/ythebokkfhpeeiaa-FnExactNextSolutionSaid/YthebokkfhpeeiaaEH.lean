/-
  Walk of FnExactCountSolutions.
-/
import Derived.Test.YthebokkfhpeeiaaEG
import Derived.Test.YthebokkfhpeeiaaSk
import Derived.Deep.RegionLaw

set_option linter.unusedVariables false
namespace Go.Proofs.Ythebokkfhpeeiaa
open Go.RowKit

theorem ModV.slices {S : List Nat} {w : World} {v : Value} {m : Mod} (h : ModV S w v m) : ∃ a b c d, v = .agg #[.slice a m.doms.length b, .slice c m.cons.length d] := by
  obtain ⟨dv, cv, rfl, ⟨a, b, rfl, _⟩, ⟨c, d, rfl, _⟩⟩ := h; exact ⟨a, b, c, d, rfl⟩
theorem openVM (m : Mod) : ∃ D, validM m = true → VM m D := by
  by_cases h : validM m = true
  · obtain ⟨D, h⟩ := validM_open h; exact ⟨D, fun _ => h⟩
  · exact ⟨[], fun h' => absurd h' h⟩
theorem New.mod {B : Nat} {w : World} {v : Value} {m : Mod} (h : ModM (New B w) w v m) : ModV [] w v m := h.mod (by simp)

set_option maxRecDepth 100000 in
set_option maxHeartbeats 1000000 in
theorem FnExactCountSolutions_c (m : Mod) (v : Value) (w : World) (hv : ModV [] w v m) :
    Calls Try.prog 5 #[v] w (fun e w' => e = .returned (.bool true) ∧ Gr [] w w') := by
  have Hv := hid hv
  obtain ⟨xo, xc, co, cc, rfl⟩ := hv.slices
  have hg0 : Gr [] w (w.alloc (.cells #[.slice xo m.doms.length xc, .slice co m.cons.length cc] 39)) := (Gr.refl _ _).alloc _
  have hb0 : (w.alloc (.cells #[.slice xo m.doms.length xc, .slice co m.cons.length cc] 39)).heap[w.heap.size]? = some (.cells #[.slice xo m.doms.length xc, .slice co m.cons.length cc] 39 (0, 0)) := heap_alloc_new _ _
  have Hg0 := hid hg0; have Hb0 := hid hb0
  have fl0 := fld hb0
  clear hv hg0 hb0
  go_enter Try.func5, Try.ntmps5
  go_wp2_with fail
  have hcall := szModel_c m 1048576 _ _ (Hv.out.gr Hg0.out) (by omega)
  (with_reducible refine hcall.mono ?_)
  clear hcall
  rintro e w1 ⟨rfl, hg1⟩
  have hb1 := hg1.obj Hb0.out (by simp)
  have fl1 := fld hb1
  have Hb1 := hid hb1; have Hg1 := hid (Hg0.out.trans hg1)
  clear fl0 hb1 hg1
  by_cases hbig : (1048576 : Int) < (szMo m : Int)
  · rw [cut_neg hbig]
    go_wp2_with fail
    go_ret
    exact ⟨rfl, Hg1.out⟩
  rw [cut_pos (by omega)]
  obtain ⟨l, hl⟩ : ∃ l : Int, l = 1048576 - (szMo m : Int) := ⟨_, rfl⟩
  rw [← hl]
  have hl0 : 0 ≤ l ∧ l ≤ 1048576 := by omega
  have Hs : Hid m.Small := hid (small_of_sz (by omega))
  obtain ⟨D, hD⟩ := openVM m
  have HD := hid hD
  clear hl hbig hD
  go_wp2_with fail
  have hcall := toModel_c m _ w1 (Hv.out.gr Hg1.out) Hs.out
  (with_reducible refine hcall.mono ?_)
  clear hcall
  rintro e w2 ⟨v2, rfl, hm2, hg2⟩
  obtain ⟨xo2, xc2, co2, cc2, rfl⟩ := (New.mod hm2).slices
  have Hm2 := hid (New.mod hm2); have Hg2 := hid (Hg1.out.trans hg2)
  have hb2 := hg2.obj Hb1.out (by simp)
  have fl2 := fld hb2
  have Hb2 := hid hb2
  clear hm2 hg2 hb2 fl1
  go_wp2_with fail
  have hcall := specCountSolutions_c m _ w2 Hm2.out Hs.out D HD.out
  (with_reducible refine hcall.mono ?_)
  clear hcall
  obtain ⟨N, hN⟩ : ∃ N, N = countI m D := ⟨_, rfl⟩
  rw [← hN]
  rintro e w3 ⟨rfl, hg3⟩
  have HN := hid hN; have Hg3 := hid (Hg2.out.trans hg3)
  have hb3 := hg3.obj Hb2.out (by simp)
  have fl3 := fld hb3
  have Hb3 := hid hb3
  clear hN hg3 hb3 fl2
  go_wp2_with fail
  have hcall := toModel_c m _ w3 (Hv.out.gr Hg3.out) Hs.out
  (with_reducible refine hcall.mono ?_)
  clear hcall
  rintro e w4 ⟨v4, rfl, hm4, hg4⟩
  obtain ⟨xo4, xc4, co4, cc4, rfl⟩ := (New.mod hm4).slices
  have ha5 : Gr [] w4 (w4.alloc (.cells #[.slice xo4 m.doms.length xc4, .slice co4 m.cons.length cc4] 32)) := (Gr.refl _ _).alloc _
  have hx5 : (w4.alloc (.cells #[.slice xo4 m.doms.length xc4, .slice co4 m.cons.length cc4] 32)).heap[w4.heap.size]? = some (.cells #[.slice xo4 m.doms.length xc4, .slice co4 m.cons.length cc4] 32 (0, 0)) := heap_alloc_new _ _
  have hb5 := (hg4.trans ha5).obj Hb3.out (by simp)
  have Hg5 := hid (Hg3.out.trans (hg4.trans ha5)); have Hm5 := hid ((New.mod hm4).gr ha5)
  have Hx5 := hid hx5; have Hb5 := hid hb5
  have fx5 := fld hx5
  clear hm4 hg4 ha5 hx5 hb5 fl3
  go_wp2_with fail
  have hcall := CountSolutions_c m _ _ Hm5.out D HD.out
  (with_reducible refine hcall.mono ?_)
  clear hcall
  rw [← HN.out]
  rintro e w6 ⟨rfl, hg6⟩
  have Hm6 := hid (Hm5.out.gr hg6); have Hg6 := hid (Hg5.out.trans hg6)
  have Hx6 := hid (hg6.obj Hx5.out (by simp)); have Hb6 := hid (hg6.obj Hb5.out (by simp))
  have fx6 := fld Hx6.out; have fb6 := fld Hb6.out
  have HMA : Hid (∀ W, Gr [] w6 W → ModV [] W (.agg #[.slice xo m.doms.length xc, .slice co m.cons.length cc]) m ∧ ModV [] W (.agg #[.slice xo4 m.doms.length xc4, .slice co4 m.cons.length cc4]) m ∧ W.heap[w4.heap.size]? = some (.cells #[.slice xo4 m.doms.length xc4, .slice co4 m.cons.length cc4] 32 (0, 0))) :=
    hid fun W h => ⟨Hv.out.gr (Hg6.out.trans h), Hm6.out.gr h, h.obj Hx6.out (by simp)⟩
  clear hg6 fx5
  go_wp2_with fail
  go_region_law (first
    | (go_simp; go_at_call 20; refine (toModel_c m _ _ (HMA.out _ ((Gr.refl _ _).drew)).1 Hs.out).mono ?_; rintro e w7 ⟨v7, rfl, hm7, hg7⟩; obtain ⟨xo7, xc7, co7, cc7, rfl⟩ := (New.mod hm7).slices; have hg67 : Gr [] w6 w7 := ((Gr.refl [] w6).drew).trans hg7; have fx7 := fld (HMA.out _ hg67).2.2; have Hm7 := hid (New.mod hm7); have Hg67 := hid hg67; clear hm7 hg7 hg67)
    | (go_simp; go_at_call 23; refine (eqModel_t m _ _ _ (HMA.out _ Hg67.out).2.1 Hm7.out).mono ?_; rintro e w8 ⟨rfl, hg8⟩))
  all_goals
    go_wp2_with fail
    go_ret
    exact ⟨rfl, Hg6.out.trans (Hg67.out.trans hg8)⟩
end Go.Proofs.Ythebokkfhpeeiaa
