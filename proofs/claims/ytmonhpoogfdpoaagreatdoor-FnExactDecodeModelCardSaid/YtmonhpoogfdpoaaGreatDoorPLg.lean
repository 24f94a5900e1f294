/-
  Marks on models and stores, and the look at them.
-/
import Derived.Test.YtmonhpoogfdpoaaGreatDoorPLf
import Derived.Test.YtmonhpoogfdpoaaGreatDoorPSkEH
set_option linter.unusedVariables false
set_option linter.unusedSimpArgs false
namespace Go.Proofs.YtmonhpoogfdpoaaGreatDoor
open Go.RowKit

theorem markModel_w (M : Nat → Prop) (m : Mod) (k : Int) (dv cv : Value) (w : World) (hv : ModM M w (.agg #[dv, cv]) m) (hk : 0 ≤ k ∧ k ≤ 1000000) (hl : mkMo m ≤ 5000000) :
    Calls Tryz.prog 15 #[.agg #[dv, cv], .int .i64 k] w fun e w' => e = .returned (.int .i64 (k + mkMo m)) ∧ Mk M w w' ∧ Wr (leavesN dv ++ leavesCs w cv) k w w' := by
  obtain ⟨dv', cv', e, hd, hc⟩ := hv
  simp only [Value.agg.injEq, Array.mk.injEq, List.cons.injEq, and_true] at e
  obtain ⟨rfl, rfl⟩ := e
  have Hd := hid hd; have Hc := hid hc; have HLN := hid hd.leaves
  obtain ⟨xo, xc, rfl, -, -⟩ := hd
  obtain ⟨co, cc, rfl, -, -⟩ := hc
  have hg0 : Gr [] w (w.alloc (.cells #[.slice xo m.doms.length xc, .slice co m.cons.length cc] 27)) := (Gr.refl _ _).alloc _
  have hb0 : (w.alloc (.cells #[.slice xo m.doms.length xc, .slice co m.cons.length cc] 27)).heap[w.heap.size]? = some (.cells #[.slice xo m.doms.length xc, .slice co m.cons.length cc] 27 (0, 0)) := heap_alloc_new _ _
  have hfl := fld hb0
  have Hg0 := hid hg0; have Hb0 := hid hb0
  have hdl : m.doms.length ≤ 5000000 := by unfold mkMo at hl; omega
  have hcl : mkCs m.cons ≤ 5000000 := by unfold mkMo at hl; omega
  have Hcl := hid hcl
  clear hb0 hg0 hl hcl
  go_enter Tryz.func15, Tryz.ntmps15
  go_wp2_with fail
  have hcall := markIntS_w M m.doms k _ _ (Hd.out.gr' Hg0.out (by simp) (fun _ _ h => h)) (by omega) (by omega)
  (with_reducible refine hcall.mono ?_)
  clear hcall
  rintro e w2 ⟨rfl, hmk2, hw2⟩
  have hb2 := hmk2.same ⟨w.heap.size, 1, none⟩ _ (fld Hb0.out 1) (by intro x h; cases h)
  simp at hb2
  have Hc2 := (Hc.out.gr' Hg0.out (by simp) (fun _ _ h => h)).mk hmk2
  obtain ⟨cs', hcs1, hcs2, hcs3⟩ := Hc2
  have hmke : mkCs cs' = mkCs m.cons := by
    unfold mkCs
    congr 1
    refine List.ext_getElem? fun i => ?_
    rw [List.getElem?_map, List.getElem?_map]
    cases hi : m.cons[i]? with
    | none => rw [List.getElem?_eq_none (by have := List.getElem?_eq_none_iff.1 hi; omega)]
    | some c =>
      obtain ⟨c', hc'⟩ := get_some (xs := cs') (k := i) (by have := (List.getElem?_eq_some_iff.1 hi).1; omega)
      obtain ⟨s1, s2, s3⟩ := hcs2 i c c' hi hc'
      rw [hc']
      simp only [Option.map_some, mkC, mkR, s1, s2, s3]
  have Hcs3 := hid hcs3; have Hmk2 := hid ((Mk.of_gr Hg0.out).trans hmk2); have Hmke := hid hmke
  have Hw2 := hid (hw2.gr0 Hg0.out)
  have HLC := hid (Hc.out.leaves_mk ((Mk.of_gr (M := M) Hg0.out).trans hmk2))
  clear hmk2 hcs1 hcs2 hcs3 hmke hfl hw2
  go_wp2_with fail
  have hcall := markConstraintS_w M cs' (k + m.doms.length) _ _ Hcs3.out (by omega) (by rw [Hmke.out]; have := Hcl.out; omega)
  rw [Hmke.out] at hcall
  (with_reducible refine hcall.mono ?_)
  clear hcall
  rintro e w3 ⟨rfl, hmk3, hw3⟩
  have Hmk3 := hid (Hmk2.out.trans hmk3)
  have Hw3 := hid (Hw2.out.trans (HLC.out ▸ hw3) (by rw [HLN.out]))
  obtain ⟨z, hz⟩ : ∃ z, z = mkCs m.cons := ⟨_, rfl⟩
  rw [← hz]
  have Hz := hid hz
  clear hmk3 hz hb2 hw3
  go_wp2_with fail
  go_ret
  refine ⟨ret_int ?_, Hmk3.out, Hw3.out⟩
  have := Hz.out
  unfold mkMo
  rw [← this]
  omega

set_option maxRecDepth 100000 in
theorem heldConstraintS_w (M : Nat → Prop) (cs : List Con) (k : Int) (v : Value) (w : World) (hv : ConsM M w v cs) (hh : Held (leavesCs w v) k w) (hk : 0 ≤ k ∧ k ≤ 10000000) (hl : mkCs cs ≤ 10000000) :
    Calls Tryz.prog 47 #[v, .int .i64 k] w fun e w' => e = .returned (.int .i64 (k + mkCs cs)) ∧ Gr [] w w' := by
  have Hv := hid hv; have Hh := hid hh
  obtain ⟨ao, cap, rfl, ⟨h1, h2, _⟩, _⟩ := hv
  clear hh
  go_enter Tryz.func47, Tryz.ntmps47
  go_wp2_with fail
  go_loopw [1, 5] (fun kv i wr => ∃ (n : Nat) (q : Nat), n ≤ cs.length ∧ i = .int .i64 n ∧ kv = .int .i64 (k + q) ∧ q = ((cs.take n).map mkC).sum ∧ Gr [] w wr) (fun _ i _ => cs.length - (intOf i).toNat)
  case atStart => exact ⟨0, 0, Nat.zero_le _, rfl, by simp, by simp, Gr.refl _ _⟩
  case round =>
    obtain ⟨n, q, hn, rfl, rfl, hq, hg⟩ := hrel
    have hq2 : q ≤ 10000000 := by have := sum_take_le mkC cs n; unfold mkCs at hl; omega
    have Hq := hid hq; clear hq
    by_cases hlt : n < cs.length
    · obtain ⟨c, hc⟩ := get_some hlt
      have hst := sum_take mkC hc
      have hsl := sum_take_le mkC cs (n + 1)
      have hcl : mkC c ≤ 10000000 := by unfold mkCs at hl; omega
      obtain ⟨b, o, _, _, _, rfl, _⟩ := Hv.out.at hc
      obtain ⟨vv, av, rv, ⟨z0, z1, z2, z3, z4⟩, y1, y2, y3⟩ := Hv.out.cellE hc
      have hs := Held.seg (f := fun i => leavesE w b (o + i * 5)) (N := cs.length) (n := n) Hh.out hlt
      rw [Hv.out.leaves_take n (by omega), ← Hq.out] at hs
      unfold leavesE at hs
      rw [cellv_of z1, cellv_of z2, cellv_of z4] at hs
      have hR := hs.right
      have hB := hs.left.right
      have hA := hs.left.left.right
      have hV := hs.left.left.left.right
      have hK := hs.left.left.left.left 0 _ rfl
      have hB0 := hB 0 _ rfl
      simp only [List.length_append, List.length_singleton, y1.leaves, y2.leaves] at hR hA hV hB0
      obtain ⟨vo, vc, rfl, -, -⟩ := id y1
      obtain ⟨xo, xc, rfl, -, -⟩ := id y2
      obtain ⟨ro, rc, rfl, -, -⟩ := id y3
      have hvl : c.vars.length ≤ 10000000 := by unfold mkC at hcl; omega
      have hal : c.args.length ≤ 10000000 := by unfold mkC at hcl; omega
      have hrl : mkR c.rows ≤ 10000000 := by unfold mkC at hcl; omega
      have hcs : mkC c = 2 + c.vars.length + c.args.length + mkR c.rows := rfl
      have e0 : ∀ W, Gr [] w W → W.cell? ⟨b, o + n * 5, none⟩ = some (.int .i64 (k + q)) := fun W h => h.cell (by rw [hK]; congr 2 <;> omega) (by simp)
      have e1 : ∀ W, Gr [] w W → W.cell? ⟨b, o + n * 5 + 1, none⟩ = some (.slice vo c.vars.length vc) := fun W h => h.cell z1 (by simp)
      have e2 : ∀ W, Gr [] w W → W.cell? ⟨b, o + n * 5 + 2, none⟩ = some (.slice xo c.args.length xc) := fun W h => h.cell z2 (by simp)
      have e3 : ∀ W, Gr [] w W → W.cell? ⟨b, o + n * 5 + 3, none⟩ = some (.int .i64 (k + q + 1 + c.vars.length + c.args.length)) := fun W h => h.cell (by rw [hB0]; congr 2 <;> omega) (by simp)
      have e4 : ∀ W, Gr [] w W → W.cell? ⟨b, o + n * 5 + 4, none⟩ = some (.slice ro c.rows.length rc) := fun W h => h.cell z4 (by simp)
      have E0 := hid e0; have E1 := hid e1; have E2 := hid e2; have E3 := hid e3; have E4 := hid e4
      have HV : Hid (Held (leavesN (.slice vo c.vars.length vc)) (k + q + 1) w) := hid (by have h := hV; intro i a hi; rw [h i a hi]; congr 2 <;> omega)
      have HA : Hid (Held (leavesN (.slice xo c.args.length xc)) (k + q + 1 + c.vars.length) w) := hid (by have h := hA; intro i a hi; rw [h i a hi]; congr 2 <;> omega)
      have HR : Hid (Held (leavesR w (.slice ro c.rows.length rc)) (k + q + 1 + c.vars.length + c.args.length + 1) w) := hid (by have h := hR; intro i a hi; rw [h i a hi]; congr 2 <;> omega)
      have Y1 := hid y1; have Y2 := hid y2; have Y3 := hid y3
      have Hg := hid hg; have Hst := hid hst; have Hcs := hid hcs
      have f0 := e0 _ hg; have f1 := e1 _ hg
      clear hg hst hsl hc hs hR hB hA hV hK hB0 y1 y2 y3 z0 z1 z2 z3 z4 e0 e1 e2 e3 e4 hcl hcs
      go_wp2_with fail
      have hcall := heldIntS_w M c.vars (k + q + 1) _ wr (Y1.out.gr' Hg.out (by simp) (fun _ _ h => h)) (HV.out.gr Hg.out) (by omega) (by omega)
      (with_reducible refine hcall.mono ?_)
      clear hcall
      rintro e w2 ⟨rfl, hg2⟩
      have Hg2 := hid (Hg.out.trans hg2)
      have g2 := E2.out _ Hg2.out
      clear f0 f1 hg2
      go_wp2_with fail
      have hcall := heldIntS_w M c.args (k + q + 1 + c.vars.length) _ w2 (Y2.out.gr' Hg2.out (by simp) (fun _ _ h => h)) (HA.out.gr Hg2.out) (by omega) (by omega)
      (with_reducible refine hcall.mono ?_)
      clear hcall
      rintro e w3 ⟨rfl, hg3⟩
      have Hg3 := hid (Hg2.out.trans hg3)
      have f3 := E3.out _ Hg3.out; have f4 := E4.out _ Hg3.out
      have HRl : Hid (leavesR w3 (.slice ro c.rows.length rc) = leavesR w (.slice ro c.rows.length rc)) := hid (Y3.out.leaves_mk (Mk.of_gr (M := M) Hg3.out))
      clear g2 hg3
      go_wp2_with fail
      have hcall := heldIntSS_w M c.rows (k + q + 1 + c.vars.length + c.args.length + 1) _ w3 (Y3.out.gr' Hg3.out (by simp) (fun _ _ h => h)) (by rw [HRl.out]; exact HR.out.gr Hg3.out) (by omega) (by omega)
      (with_reducible refine hcall.mono ?_)
      clear hcall
      rintro e w4 ⟨rfl, hg4⟩
      obtain ⟨z, hz⟩ : ∃ z, z = mkR c.rows := ⟨_, rfl⟩
      rw [← hz] at hrl ⊢
      have Hz := hid hz; have Hg4 := hid (Hg3.out.trans hg4)
      clear hz f3 f4 hg4
      go_wp2_with fail
      refine ⟨⟨n + 1, q + mkC c, by omega, by go_num, ?_, by rw [Hst.out, Hq.out], Hg4.out⟩, by simp [intOf]; omega⟩
      rw [Hcs.out, ← Hz.out]
      congr 1
      omega
    · have hnl : q = mkCs cs := by rw [Hq.out, List.take_of_length_le (by omega)]; rfl
      have Hnl := hid hnl; have Hg := hid hg
      clear hnl hg
      go_wp2_with fail
      go_ret
      exact ⟨ret_int (by rw [Hnl.out]), Hg.out⟩

theorem heldModel_w (M : Nat → Prop) (m : Mod) (k : Int) (dv cv : Value) (w : World) (hv : ModM M w (.agg #[dv, cv]) m) (hh : Held (leavesN dv ++ leavesCs w cv) k w) (hk : 0 ≤ k ∧ k ≤ 1000000) (hl : mkMo m ≤ 5000000) :
    Calls Tryz.prog 16 #[.agg #[dv, cv], .int .i64 k] w fun e w' => e = .returned (.int .i64 (k + mkMo m)) ∧ Gr [] w w' := by
  obtain ⟨dv', cv', e, hd, hc⟩ := hv
  simp only [Value.agg.injEq, Array.mk.injEq, List.cons.injEq, and_true] at e
  obtain ⟨rfl, rfl⟩ := e
  have Hd := hid hd; have Hc := hid hc; have HLN := hid hd.leaves; have Hh := hid hh
  obtain ⟨xo, xc, rfl, -, -⟩ := hd
  obtain ⟨co, cc, rfl, -, -⟩ := hc
  have hg0 : Gr [] w (w.alloc (.cells #[.slice xo m.doms.length xc, .slice co m.cons.length cc] 27)) := (Gr.refl _ _).alloc _
  have hb0 : (w.alloc (.cells #[.slice xo m.doms.length xc, .slice co m.cons.length cc] 27)).heap[w.heap.size]? = some (.cells #[.slice xo m.doms.length xc, .slice co m.cons.length cc] 27 (0, 0)) := heap_alloc_new _ _
  have hfl := fld hb0
  have Hg0 := hid hg0; have Hb0 := hid hb0
  have hdl : m.doms.length ≤ 5000000 := by unfold mkMo at hl; omega
  have hcl : mkCs m.cons ≤ 5000000 := by unfold mkMo at hl; omega
  obtain ⟨z, hz⟩ : ∃ z, z = mkCs m.cons := ⟨_, rfl⟩
  have Hz := hid hz
  clear hb0 hg0 hl hh hz
  go_enter Tryz.func16, Tryz.ntmps16
  go_wp2_with fail
  have hcall := heldIntS_w M m.doms k _ _ (Hd.out.gr' Hg0.out (by simp) (fun _ _ h => h)) (Hh.out.left.gr Hg0.out) (by omega) (by omega)
  (with_reducible refine hcall.mono ?_)
  clear hcall
  rintro e w2 ⟨rfl, hg2⟩
  have Hg2 := hid (Hg0.out.trans hg2)
  have fb2 := fld (hg2.obj Hb0.out (by simp))
  have HLC := hid (Hc.out.leaves_mk (Mk.of_gr (M := M) Hg2.out))
  have HhR : Hid (Held (leavesCs w (.slice co m.cons.length cc)) (k + m.doms.length) w) := hid (by have h := Hh.out.right; rwa [HLN.out] at h)
  clear hfl hg2
  go_wp2_with fail
  have hcall := heldConstraintS_w M m.cons (k + m.doms.length) _ _ (Hc.out.gr' Hg2.out (by simp) (fun _ _ h => h)) (by rw [HLC.out]; exact HhR.out.gr Hg2.out) (by omega) (by omega)
  (with_reducible refine hcall.mono ?_)
  clear hcall
  rintro e w3 ⟨rfl, hg3⟩
  have Hg3 := hid (Hg2.out.trans hg3)
  rw [← Hz.out] at hcl ⊢
  clear hg3 fb2
  go_wp2_with fail
  go_ret
  refine ⟨ret_int ?_, Hg3.out⟩
  have := Hz.out
  unfold mkMo
  rw [← this]
  omega

/-! ### Stores -/

end Go.Proofs.YtmonhpoogfdpoaaGreatDoor
