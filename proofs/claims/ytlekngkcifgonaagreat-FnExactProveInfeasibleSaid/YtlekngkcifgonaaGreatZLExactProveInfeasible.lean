/-
  Walk of FnExactProveInfeasible.
-/
import Derived.Test.YtlekngkcifgonaaGreatZSy1ToRe
import Derived.Test.YtlekngkcifgonaaGreatZPy
import Derived.Test.YtlekngkcifgonaaGreatZPzGc
set_option linter.unusedVariables false
namespace Go.Proofs.YtlekngkcifgonaaGreat
open Go.RowKit


theorem sumK_le {n : Nat} : ∀ {cls : List Cls}, (∀ c ∈ cls, c.length ≤ n) → sumK cls ≤ n * cls.length
  | [], _ => by simp [sumK]
  | c :: r, h => by
    have h1 := h c (by simp)
    have h2 := sumK_le (cls := r) fun d hd => h d (by simp [hd])
    simp only [sumK, List.map_cons, List.sum_cons, List.length_cons] at h2 ⊢
    rw [Nat.mul_add]; omega

set_option maxRecDepth 100000 in
set_option maxHeartbeats 4000000 in
theorem FnExactProveInfeasible_c (m : Mod) (v : Value) (w : World) (hv : ModV [] w v m) :
    Calls Tryz.prog 9 #[v] w (fun e w' => e = .returned (.bool true) ∧ Gr [] w w') := by
  have Hv := hid hv
  obtain ⟨xo, xc, co, cc, rfl⟩ := hv.slices
  have hg0 : Gr [] w (w.alloc (.cells #[.slice xo m.doms.length xc, .slice co m.cons.length cc] 72)) := (Gr.refl _ _).alloc _
  have hb0 : (w.alloc (.cells #[.slice xo m.doms.length xc, .slice co m.cons.length cc] 72)).heap[w.heap.size]? = some (.cells #[.slice xo m.doms.length xc, .slice co m.cons.length cc] 72 (0, 0)) := heap_alloc_new _ _
  have Hg0 := hid hg0; have Hb0 := hid hb0
  have fl0 := fld hb0
  clear hv hg0 hb0
  go_enter Tryz.func9, Tryz.ntmps9
  go_wp2_with fail
  have hcall := szModel_c m 1048576 _ _ (Hv.out.gr Hg0.out) (by omega)
  (with_reducible refine hcall.mono ?_)
  clear hcall
  rintro e w1 ⟨rfl, hg1⟩
  have hb1 := hg1.obj Hb0.out (by simp)
  have fl1 := fld hb1
  have Hb1 := hid hb1; have Hg1 := hid (Hg0.out.trans hg1)
  clear fl0 hb1 hg1
  by_cases hbig : (1048576 : Int) < (szMo m : Int)
  · rw [cut_neg hbig]
    go_wp2_with fail
    go_ret
    exact ⟨rfl, Hg1.out⟩
  rw [cut_pos (by omega)]
  obtain ⟨l, hl⟩ : ∃ l : Int, l = 1048576 - (szMo m : Int) := ⟨_, rfl⟩
  rw [← hl]
  have hl0 : 0 ≤ l ∧ l ≤ 1048576 := by omega
  have Hs : Hid m.Small := hid (small_of_sz (by omega))
  have Hmo : Hid (mkMo m ≤ 2097152) := hid (mk_le (by omega))
  obtain ⟨D, hD⟩ := openVM m
  have HD := hid hD
  clear hl hbig hD
  go_wp2_with fail
  have hcall := toModel_c m _ w1 (Hv.out.gr Hg1.out) Hs.out
  (with_reducible refine hcall.mono ?_)
  clear hcall
  rintro e w2 ⟨v2, rfl, hm2, hg2⟩
  obtain ⟨xo2, xc2, co2, cc2, rfl⟩ := (New.mod hm2).slices
  have Hm2 := hid (New.mod hm2); have Hg2 := hid (Hg1.out.trans hg2)
  have hb2 := hg2.obj Hb1.out (by simp)
  have fl2 := fld hb2
  have Hb2 := hid hb2
  clear hm2 hg2 hb2 fl1
  go_wp2_with fail
  have hcall := specProveInfeasible_c m D _ w2 Hm2.out Hs.out HD.out
  (with_reducible refine hcall.mono ?_)
  clear hcall
  obtain ⟨R, hR⟩ : ∃ R, R = (provO m D).getD [] := ⟨_, rfl⟩
  obtain ⟨b, hb⟩ : ∃ b, b = (provO m D).isSome := ⟨_, rfl⟩
  have hne : (b != b) = false := by cases b <;> rfl
  have heq : (b == b) = true := by cases b <;> rfl
  have HRb := hid hb
  rw [← hR, ← hb]
  clear hb
  rintro e w3 ⟨v3, rfl, hr3', hg3⟩
  have hr3 := hr3' [] (by simp)
  clear hr3'
  have HRl : Hid (sumK R ≤ 1000000) := hid (by rw [hR]; have h := provO_short HD.out; have := sumK_le h.2; omega)
  have HR := hid hR; have Hg3 := hid (Hg2.out.trans hg3); have Hr3 := hid hr3
  obtain ⟨ro3, rc3, rfl, -⟩ := hr3.slice
  have hb3 := hg3.obj Hb2.out (by simp)
  have fl3 := fld hb3
  have Hb3 := hid hb3
  have hs3 : w.heap.size < w3.heap.size := by have := Hg3.out.size; exact Nat.lt_of_lt_of_le (lt_of_block Hb2.out) hg3.size
  clear hR hg3 hb3 fl2
  go_wp2_with fail
  have hcall := toModel_c m _ w3 (Hv.out.gr Hg3.out) Hs.out
  (with_reducible refine hcall.mono ?_)
  clear hcall
  rintro e w4 ⟨v4, rfl, hm4, hg4⟩
  obtain ⟨xo4, xc4, co4, cc4, rfl⟩ := (New.mod hm4).slices
  have ha5 : Gr [] w4 (w4.alloc (.cells #[.slice xo4 m.doms.length xc4, .slice co4 m.cons.length cc4] 26)) := (Gr.refl _ _).alloc _
  have hx5 : (w4.alloc (.cells #[.slice xo4 m.doms.length xc4, .slice co4 m.cons.length cc4] 26)).heap[w4.heap.size]? = some (.cells #[.slice xo4 m.doms.length xc4, .slice co4 m.cons.length cc4] 26 (0, 0)) := heap_alloc_new _ _
  have hb5 := (hg4.trans ha5).obj Hb3.out (by simp)
  have Hg5 := hid (Hg3.out.trans (hg4.trans ha5)); have Hm5 := hid ((New.mod hm4).gr ha5)
  have Hx5 := hid hx5; have Hb5 := hid hb5
  have fx5 := fld hx5
  have Hg35 := hid (hg4.trans ha5)
  have Hh4 := hid (hm4.gr' ha5 (by simp) (fun _ _ h => h)); have hs34 : w3.heap.size ≤ w4.heap.size := hg4.size
  clear hm4 hg4 ha5 hx5 hb5 fl3
  go_wp2_with fail
  have hcall := ProveInfeasible_c m D _ _ Hm5.out HD.out
  (with_reducible refine hcall.mono ?_)
  clear hcall
  rw [← HR.out, ← HRb.out]
  rintro e w6 ⟨v6, rfl, hr6, hg6⟩
  have Hr6 := hid hr6
  obtain ⟨ro6, rc6, rfl, ⟨hrl1, hrl2, -⟩, -⟩ := hr6
  have hs5 : w4.heap.size < (w4.alloc (.cells #[.slice xo4 m.doms.length xc4, .slice co4 m.cons.length cc4] 26)).heap.size := by simp
  generalize hW5 : w4.alloc (.cells #[.slice xo4 m.doms.length xc4, .slice co4 m.cons.length cc4] 26) = w5 at *
  have Hg56 := hid hg6
  have Hm6 := hid (Hm5.out.gr hg6); have Hg6 := hid (Hg5.out.trans hg6)
  have Hx6 := hid (hg6.obj Hx5.out (by simp)); have Hb6 := hid (hg6.obj Hb5.out (by simp))
  have fx6 := fld Hx6.out; have fb6 := fld Hb6.out
  have hs56 := hg6.size
  have hs45 : w4.heap.size ≤ w5.heap.size := by omega
  obtain ⟨L, hL1, hL2⟩ : ∃ L : List Nat, (∀ i ∈ L, w3.heap.size ≤ i ∧ i < w6.heap.size) ∧ (∀ i, w3.heap.size ≤ i → i < w6.heap.size → i ∈ L) :=
    ⟨List.range' w3.heap.size (w6.heap.size - w3.heap.size), fun i hi => by have := List.mem_range'_1.1 hi; omega, fun i h1 h2 => List.mem_range'_1.2 ⟨h1, by omega⟩⟩
  have HL1 := hid hL1; have HL2 := hid hL2
  clear hL1 hL2
  have hg36 : Gr [] w3 w6 := Hg35.out.trans hg6
  have Hr36 := hid (Hr3.out.gr hg36); have Hg36 := hid hg36
  clear hg6 fx5 hW5 hg36
  go_wp2_with fail
  have hcall := eqLiteralSS_t R _ _ w6 (Hr6.out.clss (by simp)) Hr36.out
  (with_reducible refine hcall.mono ?_)
  clear hcall
  rintro e w7 ⟨rfl, hg7⟩
  have Hg67 := hid hg7; have Hg7 := hid (Hg6.out.trans hg7)
  have Hm7 := hid (Hm6.out.gr hg7); have Hx7 := hid (hg7.obj Hx6.out (by simp)); have Hb7 := hid (hg7.obj Hb6.out (by simp))
  have fx7 := fld Hx7.out; have fb7 := fld Hb7.out
  have HMA : Hid (∀ W, Gr [] w7 W → ModV [] W (.agg #[.slice xo m.doms.length xc, .slice co m.cons.length cc]) m ∧ ModV [] W (.agg #[.slice xo4 m.doms.length xc4, .slice co4 m.cons.length cc4]) m ∧ W.heap[w4.heap.size]? = some (.cells #[.slice xo4 m.doms.length xc4, .slice co4 m.cons.length cc4] 26 (0, 0))) :=
    hid fun W h => ⟨Hv.out.gr (Hg7.out.trans h), Hm7.out.gr h, h.obj Hx7.out (by simp)⟩
  clear hg7 fx6 fb6
  go_wp2_with fail
  go_region_law (first
    | (go_simp; go_at_call 52; refine (toModel_c m _ _ (HMA.out _ ((Gr.refl _ _).drew)).1 Hs.out).mono ?_; rintro e w8 ⟨v8, rfl, hm8, hg8⟩; obtain ⟨xo8, xc8, co8, cc8, rfl⟩ := (New.mod hm8).slices; have hg78 : Gr [] w7 w8 := ((Gr.refl [] w7).drew).trans hg8; have fx8 := fld (HMA.out _ hg78).2.2; have Hm8 := hid (New.mod hm8); have Hg78 := hid hg78; clear hm8 hg8 hg78)
    | (go_simp; go_at_call 55; refine (eqModel_t m _ _ _ (HMA.out _ Hg78.out).2.1 Hm8.out).mono ?_; rintro e w9 ⟨rfl, hg9⟩))
  all_goals
    have Hg79 := hid (Hg78.out.trans hg9)
    have Hg69 := hid (Hg67.out.trans Hg79.out)
    have Hx9 := hid (Hg79.out.obj Hx7.out (by simp)); have Hb9 := hid (Hg79.out.obj Hb7.out (by simp))
    have fx9 := fld Hx9.out; have fb9 := fld Hb9.out
    have Hg9 := hid (Hg7.out.trans Hg79.out)
    have Hh9 := hid (Hh4.out.gr' (Hg56.out.trans Hg69.out) (by simp) (fun _ _ h => h))
    have Hr9 := hid (Hr6.out.keep Hg69.out (by simp))
    have HrL := hid ((Hr3.out.sub (S' := L) (fun b hb hm => by have := HL1.out b hm; omega)).gr (Hg36.out.trans Hg69.out).any)
    have HvL := hid ((ModV.sub (S' := L) Hv.out (fun b hb hm => by have := HL1.out b hm; omega)).gr Hg9.out.any)
    clear hg9 fx7 fb7 fx8
    go_wp2_with fail
    have hcall := markModel_c (New w3.heap.size w4) m 1 _ _ Hh9.out (by omega) (by have := Hmo.out; omega)
    (with_reducible refine hcall.mono ?_)
    clear hcall
    rintro e w10 ⟨rfl, hmk10⟩
    have hg910 := hmk10.grL (L := L) (fun k hk => HL2.out k hk.1 (by have := hk.2; omega))
    obtain ⟨K, hK⟩ : ∃ K : Int, K = 1 + (mkMo m : Int) := ⟨_, rfl⟩
    rw [← hK]
    have hK0 : 0 ≤ K := by omega
    have Hb10 := hid (hg910.obj Hb9.out (fun h => by have := HL1.out _ h; omega))
    have fb10 := fld Hb10.out
    have Hg10 := hid (Hg9.out.step hg910 (fun i hi => .inr (by have := HL1.out i hi; omega)))
    have Hr10 := hid (Hr9.out.apart hmk10 (fun b h1 h2 h' => by have := h'.2; omega))
    have HrM := hid (HrL.out.gr hg910); have HvM := hid (HvL.out.gr hg910)
    clear hmk10 hg910 hK fx9 fb9
    go_wp2_with fail
    have hcall := eqLiteralSS_t R _ _ w10 (Hr10.out.clss (by simp)) (HrM.out.sub (by simp))
    (with_reducible refine hcall.mono ?_)
    clear hcall
    rintro e w11 ⟨rfl, hg11⟩
    have Hg11 := hid (Hg10.out.trans hg11)
    have Hr11 := hid (Hr10.out.keep hg11 (by simp))
    have HrN := hid (HrM.out.gr hg11.any); have HvN := hid (HvM.out.gr hg11.any)
    have Hb11 := hid (hg11.obj Hb10.out (by simp))
    have fb11 := fld Hb11.out
    clear hg11 fb10
    go_wp2_with fail
    have hcall := markLiteralSS_e w5.heap.size w6.heap.size R 1 _ w11 Hr11.out (by omega) (by have := HRl.out; omega)
    (with_reducible refine hcall.mono ?_)
    clear hcall
    rintro e w12 ⟨rfl, hr12, hmk12⟩
    have hg1112 := hmk12 L (fun b h1 h2 => HL2.out b (by omega) h2)
    have Hb12 := hid (hg1112.obj Hb11.out (fun h => by have := HL1.out _ h; omega))
    have fb12 := fld Hb12.out
    have Hg12 := hid (Hg11.out.step hg1112 (fun i hi => .inr (by have := HL1.out i hi; omega)))
    have HrO := hid (HrN.out.gr hg1112); have HvO := hid (HvN.out.gr hg1112)
    have Hr12 := hid hr12
    clear hmk12 hg1112 hr12 fb11
    go_wp2_with fail
    have hcall := heldLiteralSS_t R 1 _ w12 (Hr12.out.clss (by simp)) (by omega) (by have := HRl.out; omega)
    (with_reducible refine hcall.mono ?_)
    clear hcall
    rintro e w13 ⟨rfl, hg13⟩
    have Hg13 := hid (Hg12.out.trans hg13)
    have Hr13 := hid (Hr12.out.keep hg13 (by simp))
    have HrP := hid (HrO.out.gr hg13.any); have HvP := hid (HvO.out.gr hg13.any)
    have Hb13 := hid (hg13.obj Hb12.out (by simp))
    have fb13 := fld Hb13.out
    have hRl := HRl.out
    clear hg13 fb12
    go_wp2_with fail
    have hcall := toModel_c m _ w13 (HvP.out.sub (by simp)) Hs.out
    (with_reducible refine hcall.mono ?_)
    clear hcall
    rintro e w14 ⟨v14, rfl, hm14, hg14⟩
    obtain ⟨xo14, xc14, co14, cc14, rfl⟩ := (New.mod hm14).slices
    have Hm14 := hid (New.mod hm14)
    clear hm14 fb13
    go_wp2_with fail
    have hcall := ProveInfeasible_c m D _ _ Hm14.out HD.out
    (with_reducible refine hcall.mono ?_)
    clear hcall
    rw [← HR.out, ← HRb.out]
    rintro e w15 ⟨v15, rfl, hr15, hg15⟩
    have Hg1315 := hid (hg14.trans hg15)
    have Hr15 := hid (hr15.clss (S := []) (by simp))
    obtain ⟨ro15, rc15, rfl, -⟩ := hr15
    have Hr35 := hid (HrP.out.gr Hg1315.out.any)
    clear hg14 hg15
    go_wp2_with fail
    have hcall := eqLiteralSS_t R _ _ w15 Hr15.out (Hr35.out.sub (by simp))
    (with_reducible refine hcall.mono ?_)
    clear hcall
    rintro e w16 ⟨rfl, hg16⟩
    have Hg1316 := hid (Hg1315.out.trans hg16)
    have Hr16 := hid (Hr13.out.keep Hg1316.out (by simp))
    clear hg16
    go_wp2_with fail
    have hcall := heldLiteralSS_t R 1 _ w16 (Hr16.out.clss (by simp)) (by omega) (by omega)
    (with_reducible refine hcall.mono ?_)
    clear hcall
    rintro e w17 ⟨rfl, hg17⟩
    go_wp2_with fail
    go_ret
    exact ⟨rfl, (Hg13.out.trans Hg1316.out).trans hg17⟩
end Go.Proofs.YtlekngkcifgonaaGreat
