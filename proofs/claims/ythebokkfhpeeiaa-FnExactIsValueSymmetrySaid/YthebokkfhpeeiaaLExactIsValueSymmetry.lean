/-
  Walk of FnExactIsValueSymmetry.
-/
import Derived.Test.YthebokkfhpeeiaaEH
import Derived.Test.YthebokkfhpeeiaaSy4
set_option linter.unusedVariables false
namespace Go.Proofs.Ythebokkfhpeeiaa
open Go.RowKit


set_option maxRecDepth 100000 in
set_option maxHeartbeats 4000000 in
theorem FnExactIsValueSymmetry_c (m : Mod) (I : Int) (J : Int) (v : Value) (w : World) (hv : ModV [] w v m) (hI : I64 I) (hJ : I64 J) :
    Calls Try.prog 9 #[v, .int .i64 I, .int .i64 J] w (fun e w' => e = .returned (.bool true) ∧ Gr [] w w') := by
  have Hv := hid hv
  obtain ⟨xo, xc, co, cc, rfl⟩ := hv.slices
  have hg0 : Gr [] w (w.alloc (.cells #[.slice xo m.doms.length xc, .slice co m.cons.length cc] 39)) := (Gr.refl _ _).alloc _
  have hb0 : (w.alloc (.cells #[.slice xo m.doms.length xc, .slice co m.cons.length cc] 39)).heap[w.heap.size]? = some (.cells #[.slice xo m.doms.length xc, .slice co m.cons.length cc] 39 (0, 0)) := heap_alloc_new _ _
  have Hg0 := hid hg0; have Hb0 := hid hb0
  have fl0 := fld hb0
  have HII := hid hI; clear hI
  have HIJ := hid hJ; clear hJ
  clear hv hg0 hb0
  go_enter Try.func9, Try.ntmps9
  go_wp2_with fail
  have hcall := szModel_c m 1048576 _ _ (Hv.out.gr Hg0.out) (by omega)
  (with_reducible refine hcall.mono ?_)
  clear hcall
  rintro e w1 ⟨rfl, hg1⟩
  have hb1 := hg1.obj Hb0.out (by simp)
  have fl1 := fld hb1
  have Hb1 := hid hb1; have Hg1 := hid (Hg0.out.trans hg1)
  clear fl0 hb1 hg1
  by_cases hbig : (1048576 : Int) < (szMo m : Int)
  · rw [cut_neg hbig]
    go_wp2_with fail
    go_ret
    exact ⟨rfl, Hg1.out⟩
  rw [cut_pos (by omega)]
  obtain ⟨l, hl⟩ : ∃ l : Int, l = 1048576 - (szMo m : Int) := ⟨_, rfl⟩
  rw [← hl]
  have hl0 : 0 ≤ l ∧ l ≤ 1048576 := by omega
  have Hs : Hid m.Small := hid (small_of_sz (by omega))
  have Hmo : Hid (mkMo m ≤ 2097152) := hid (mk_le (by omega))
  obtain ⟨D, hD⟩ := openVM m
  have HD := hid hD
  clear hl hbig hD
  go_wp2_with fail
  have hcall := toModel_c m _ w1 (Hv.out.gr Hg1.out) Hs.out
  (with_reducible refine hcall.mono ?_)
  clear hcall
  rintro e w2 ⟨v2, rfl, hm2, hg2⟩
  obtain ⟨xo2, xc2, co2, cc2, rfl⟩ := (New.mod hm2).slices
  have Hm2 := hid (New.mod hm2); have Hg2 := hid (Hg1.out.trans hg2)
  have hb2 := hg2.obj Hb1.out (by simp)
  have fl2 := fld hb2
  have Hb2 := hid hb2
  clear hm2 hg2 hb2 fl1
  go_wp2_with fail
  have hcall := specIsValueSymmetry_c m I J _ w2 Hm2.out Hs.out D HD.out
  (with_reducible refine hcall.mono ?_)
  clear hcall
  obtain ⟨N, hN⟩ : ∃ N, N = vsymB m D I J := ⟨_, rfl⟩
  rw [← hN]
  rintro e w3 ⟨rfl, hg3⟩
  have HN := hid hN; have Hg3 := hid (Hg2.out.trans hg3)
  have hb3 := hg3.obj Hb2.out (by simp)
  have fl3 := fld hb3
  have Hb3 := hid hb3
  clear hN hg3 hb3 fl2
  go_wp2_with fail
  have hcall := toModel_c m _ w3 (Hv.out.gr Hg3.out) Hs.out
  (with_reducible refine hcall.mono ?_)
  clear hcall
  rintro e w4 ⟨v4, rfl, hm4, hg4⟩
  obtain ⟨xo4, xc4, co4, cc4, rfl⟩ := (New.mod hm4).slices
  have ha5 : Gr [] w4 (w4.alloc (.cells #[.slice xo4 m.doms.length xc4, .slice co4 m.cons.length cc4] 32)) := (Gr.refl _ _).alloc _
  have hx5 : (w4.alloc (.cells #[.slice xo4 m.doms.length xc4, .slice co4 m.cons.length cc4] 32)).heap[w4.heap.size]? = some (.cells #[.slice xo4 m.doms.length xc4, .slice co4 m.cons.length cc4] 32 (0, 0)) := heap_alloc_new _ _
  have hb5 := (hg4.trans ha5).obj Hb3.out (by simp)
  have Hg5 := hid (Hg3.out.trans (hg4.trans ha5)); have Hm5 := hid ((New.mod hm4).gr ha5)
  have Hx5 := hid hx5; have Hb5 := hid hb5
  have fx5 := fld hx5
  clear hm4 hg4 ha5 hx5 hb5 fl3
  go_wp2_with fail
  have hcall := IsValueSymmetry_c m I J _ _ Hm5.out D HD.out
  (with_reducible refine hcall.mono ?_)
  clear hcall
  rw [← HN.out]
  rintro e w6 ⟨rfl, hg6⟩
  have Hm6 := hid (Hm5.out.gr hg6); have Hg6 := hid (Hg5.out.trans hg6)
  have Hx6 := hid (hg6.obj Hx5.out (by simp)); have Hb6 := hid (hg6.obj Hb5.out (by simp))
  have fx6 := fld Hx6.out; have fb6 := fld Hb6.out
  have HMA : Hid (∀ W, Gr [] w6 W → ModV [] W (.agg #[.slice xo m.doms.length xc, .slice co m.cons.length cc]) m ∧ ModV [] W (.agg #[.slice xo4 m.doms.length xc4, .slice co4 m.cons.length cc4]) m ∧ W.heap[w4.heap.size]? = some (.cells #[.slice xo4 m.doms.length xc4, .slice co4 m.cons.length cc4] 32 (0, 0))) :=
    hid fun W h => ⟨Hv.out.gr (Hg6.out.trans h), Hm6.out.gr h, h.obj Hx6.out (by simp)⟩
  clear hg6 fx5
  go_wp2_with fail
  go_region_law (first
    | (go_simp; go_at_call 20; refine (toModel_c m _ _ (HMA.out _ ((Gr.refl _ _).drew)).1 Hs.out).mono ?_; rintro e w8 ⟨v8, rfl, hm8, hg8⟩; obtain ⟨xo8, xc8, co8, cc8, rfl⟩ := (New.mod hm8).slices; have hg78 : Gr [] w6 w8 := ((Gr.refl [] w6).drew).trans hg8; have fx8 := fld (HMA.out _ hg78).2.2; have Hm8 := hid (New.mod hm8); have Hg78 := hid hg78; clear hm8 hg8 hg78)
    | (go_simp; go_at_call 23; refine (eqModel_t m _ _ _ (HMA.out _ Hg78.out).2.1 Hm8.out).mono ?_; rintro e w9 ⟨rfl, hg9⟩))
  all_goals
    go_wp2_with fail
    go_ret
    exact ⟨rfl, Hg6.out.trans (Hg78.out.trans hg9)⟩
end Go.Proofs.Ythebokkfhpeeiaa
