/-
  Walk of the program's reading of a constraint.
-/
import Derived.Test.YtmonhpoogfdpoaaGreatDoorPV5
import Derived.Test.YtmonhpoogfdpoaaGreatDoorPU6
import Derived.Test.YtmonhpoogfdpoaaGreatDoorPCF
set_option linter.unusedVariables false
set_option linter.unusedSimpArgs false
namespace Go.Proofs.YtmonhpoogfdpoaaGreatDoor
open Go.RowKit
attribute [local go_sem] ByteArray.mk_append_mk

theorem kindO_rng (X : Bs) : 0 ≤ kindO X ∧ kindO X ≤ 9 := by
  unfold kindO
  repeat' split
  all_goals decide
theorem idxKw_c (b : Nat) (X : Bs) (w : World) (hc : ∀ k, k < 10 → w.cell? ⟨b, k, none⟩ = some (.string ⟨(kws.getD k []).toArray⟩)) :
    Calls Tryz.prog 55 #[.slice (some ⟨b, 0, none⟩) 10 10, .string ⟨X.toArray⟩] w fun e w' => (∃ k : Int, e = .returned (.int .i64 k) ∧ max k 0 = kindO X) ∧ w' = w := by
  refine (Go.Proofs.Any.slices_Index_string lays109 b 0 10 10 (kws.map fun x => (⟨x.toArray⟩ : ByteArray)) ⟨X.toArray⟩ w (by decide) (by decide) ?_).mono ?_
  · intro j hj
    have hj : j < 10 := by simpa [kws] using hj
    rw [Nat.zero_add, hc j hj]
    have : ∀ k : Fin 10, (kws.map fun x => (⟨x.toArray⟩ : ByteArray)).getD k.val ByteArray.empty = ⟨(kws.getD k.val []).toArray⟩ := by decide +kernel
    rw [this ⟨j, hj⟩]
  · rintro e w' ⟨rfl, rfl⟩
    refine ⟨⟨_, rfl, ?_⟩, rfl⟩
    rw [List.take_of_length_le (by decide)]
    by_cases h : X = []
    · subst h; decide +kernel
    · rw [idxFrom_kind X h]
      have := kindO_rng X
      split <;> omega
theorem strs_cell {W : World} {b n c : Nat} {ps : List Bs} (h : Strs [] W (.slice (some ⟨b, 0, none⟩) n c) ps) (j : Nat) (x : Bs) (hj : ps[j]? = some x) : W.cell? ⟨b, j, none⟩ = some (.string ⟨x.toArray⟩) := by
  obtain ⟨ao, cap, e, _, h⟩ := h
  cases e
  obtain ⟨b', o, e, hs, hc⟩ := h j x hj
  cases e
  simpa using hc
theorem strs_cap {W : World} {b n c : Nat} {ps : List Bs} (h : Strs [] W (.slice (some ⟨b, 0, none⟩) n c) ps) : ps.length ≤ c ∧ c ≤ 9223372036854775807 := by
  obtain ⟨ao, cap, e, ⟨h1, h2, _⟩, h⟩ := h
  cases e
  exact ⟨h1, h2⟩
set_option maxRecDepth 100000 in
set_option maxHeartbeats 2000000 in
theorem readConstraint_c (s : Bs) (n : Nat) (w : World) (hs : s.length ≤ 1100000) (hT : TabT w) :
    Calls Tryz.prog 24 #[.string ⟨s.toArray⟩, .int .i64 n] w fun e w' => ∃ vo vc xo xc ro rc c, e = .returned (.tuple #[.agg #[.int .i64 c.kind, .slice vo c.vars.length vc, .slice xo c.args.length xc, .int .i64 c.bound, .slice ro c.rows.length rc], .bool (rdC s n).isSome]) ∧
      c = (rdC s n).getD zeroCon ∧ ConM (New w.heap.size w') w' (.agg #[.int .i64 c.kind, .slice vo c.vars.length vc, .slice xo c.args.length xc, .int .i64 c.bound, .slice ro c.rows.length rc]) c ∧ Gr [] w w' := by
  have HT := hid hT; clear hT
  obtain ⟨ps, hps⟩ : ∃ ps, ps = sp 32 s := ⟨_, rfl⟩
  have Hps := hid hps
  clear hps
  have hpl : ∀ x ∈ ps, x.length ≤ 1100000 := by rw [Hps.out]; exact fun x hx => Nat.le_trans (sp_piece 32 s x hx) hs
  have hpn : ps.length ≤ 1100001 := by
    rw [Hps.out, sp_len]
    have := List.count_le_length (a := (32 : UInt8)) (l := s)
    omega
  have Hpl := hid hpl; clear hpl
  obtain ⟨w0, hw0⟩ : ∃ w0, w0 = w.alloc (.cells #[.int .i64 0, .slice none 0 0, .slice none 0 0, .int .i64 0, .slice none 0 0] 49) := ⟨_, rfl⟩
  have hg0 : Gr [] w w0 := by rw [hw0]; exact (Gr.refl _ _).alloc _
  have hs0 : w0.heap.size = w.heap.size + 1 := by rw [hw0]; simp
  have hb0 : w0.heap[w.heap.size]? = some (.cells #[.int .i64 0, .slice none 0 0, .slice none 0 0, .int .i64 0, .slice none 0 0] 49 (0, 0)) := by rw [hw0]; exact heap_alloc_new _ _
  have Hb0 := hid hb0; have Hg0 := hid hg0; have Hs0 := hid hs0
  clear hb0 hg0 hs0
  by_cases h4 : ps.length < 4 ∨ 12 < ps.length
  · have hC : Hid (rdC s n = none) := hid (by unfold rdC; rw [← Hps.out, if_pos h4])
    go_enter Tryz.func24, Tryz.ntmps24
    by_cases h5 : ps.length < 4
    · have hlt : (ps.length : Int) < 4 := by omega
      go_wp2_with (go_at_call 21; rw [← hw0]; refine (Split_c s 32 _ (by omega)).mono ?_; rw [← Hps.out]; rintro e w1 ⟨pc, rfl, hst, hg1⟩; have Hst := hid hst; have Hg1 := hid hg1; have hR2 := hg1.obj Hb0.out (by simp); have fR := fld hR2; have ffR := fldF hR2; clear hst hg1 hw0)
      have h5 := sets5 _ _ _ _ _ (.int .i64 0) (.slice none 0 0) (.slice none 0 0) (.int .i64 0) (.slice none 0 0) hR2
      have hG := setsG (w := w1) w.heap.size (.int .i64 0) (.slice none 0 0) (.slice none 0 0) (.int .i64 0) (.slice none 0 0)
      generalize (((((w1.setCell ⟨w.heap.size, 0, none⟩ (.int .i64 0)).setCell ⟨w.heap.size, 1, none⟩ (.slice none 0 0)).setCell ⟨w.heap.size, 2, none⟩ (.slice none 0 0)).setCell ⟨w.heap.size, 3, none⟩ (.int .i64 0)).setCell ⟨w.heap.size, 4, none⟩ (.slice none 0 0)) = WE at h5 hG ⊢
      have flE := fld h5
      refine bodyPost_ret (v := .tuple #[.agg #[.int .i64 0, .slice none 0 0, .slice none 0 0, .int .i64 0, .slice none 0 0], .bool false]) ?_ rfl ?_
      · simp [results, Tryz.results24, go_sem, flE]
      · rw [hC.out]
        refine ⟨none, 0, none, 0, none, 0, zeroCon, rfl, rfl, zeroConM _ _, ?_⟩
        exact (Hg0.out.trans Hg1.out).step hG (fun i hi => .inr (by simp at hi; omega))
    · have hge : ¬ (ps.length : Int) < 4 := by omega
      have hgt : ¬ (ps.length : Int) ≤ 12 := by omega
      have hgt2 : (12 : Int) < (ps.length : Int) := by omega
      go_wp2_with (go_at_call 21; rw [← hw0]; refine (Split_c s 32 _ (by omega)).mono ?_; rw [← Hps.out]; rintro e w1 ⟨pc, rfl, hst, hg1⟩; have Hst := hid hst; have Hg1 := hid hg1; have hR2 := hg1.obj Hb0.out (by simp); have fR := fld hR2; have ffR := fldF hR2; clear hst hg1 hw0)
      have h5 := sets5 _ _ _ _ _ (.int .i64 0) (.slice none 0 0) (.slice none 0 0) (.int .i64 0) (.slice none 0 0) hR2
      have hG := setsG (w := w1) w.heap.size (.int .i64 0) (.slice none 0 0) (.slice none 0 0) (.int .i64 0) (.slice none 0 0)
      generalize (((((w1.setCell ⟨w.heap.size, 0, none⟩ (.int .i64 0)).setCell ⟨w.heap.size, 1, none⟩ (.slice none 0 0)).setCell ⟨w.heap.size, 2, none⟩ (.slice none 0 0)).setCell ⟨w.heap.size, 3, none⟩ (.int .i64 0)).setCell ⟨w.heap.size, 4, none⟩ (.slice none 0 0)) = WE at h5 hG ⊢
      have flE := fld h5
      refine bodyPost_ret (v := .tuple #[.agg #[.int .i64 0, .slice none 0 0, .slice none 0 0, .int .i64 0, .slice none 0 0], .bool false]) ?_ rfl ?_
      · simp [results, Tryz.results24, go_sem, flE]
      · rw [hC.out]
        refine ⟨none, 0, none, 0, none, 0, zeroCon, rfl, rfl, zeroConM _ _, ?_⟩
        exact (Hg0.out.trans Hg1.out).step hG (fun i hi => .inr (by simp at hi; omega))
  · have hge : ¬ (ps.length : Int) < 4 := by omega
    have hgt2 : ¬ (12 : Int) < (ps.length : Int) := by omega
    have hp4 : 4 ≤ ps.length ∧ ps.length ≤ 12 := by omega
    obtain ⟨X0, hX0⟩ : ∃ x, ps[0]? = some x := ⟨_, List.getElem?_eq_getElem (by omega)⟩
    obtain ⟨X1, hX1⟩ : ∃ x, ps[1]? = some x := ⟨_, List.getElem?_eq_getElem (by omega)⟩
    obtain ⟨X2, hX2⟩ : ∃ x, ps[2]? = some x := ⟨_, List.getElem?_eq_getElem (by omega)⟩
    obtain ⟨X3, hX3⟩ : ∃ x, ps[3]? = some x := ⟨_, List.getElem?_eq_getElem (by omega)⟩
    have hl0 := Hpl.out X0 (List.mem_of_getElem? hX0); have hl1 := Hpl.out X1 (List.mem_of_getElem? hX1); have hl2 := Hpl.out X2 (List.mem_of_getElem? hX2); have hl3 := Hpl.out X3 (List.mem_of_getElem? hX3)
    obtain ⟨RW, hRW⟩ : ∃ RW, RW = (ps.drop 4) := ⟨_, rfl⟩
    have hrwl : RW.length + 4 = ps.length := by rw [hRW]; simp; omega
    have hrwx : ∀ (j : Nat), RW[j]? = ps[j + 4]? := fun j => by rw [hRW, List.getElem?_drop, Nat.add_comm]
    have hC : Hid (rdC s n = if ((rdL X1).2 && RW.all (fun w => (rdL w).2) && (rdL X2).2 && (atoiO X3).isSome) = true ∧ validCon ⟨kindO X0, (rdL X1).1, (rdL X2).1, atoiV X3, RW.map fun w => (rdL w).1⟩ n = true ∧ conT ⟨kindO X0, (rdL X1).1, (rdL X2).1, atoiV X3, RW.map fun w => (rdL w).1⟩ = s then some ⟨kindO X0, (rdL X1).1, (rdL X2).1, atoiV X3, RW.map fun w => (rdL w).1⟩ else none) := hid (by
      have e0 : wd (sp 32 s) 0 = X0 := by rw [← Hps.out]; unfold wd; rw [List.getD_eq_getElem?_getD, hX0]; rfl
      have e1 : wd (sp 32 s) 1 = X1 := by rw [← Hps.out]; unfold wd; rw [List.getD_eq_getElem?_getD, hX1]; rfl
      have e2 : wd (sp 32 s) 2 = X2 := by rw [← Hps.out]; unfold wd; rw [List.getD_eq_getElem?_getD, hX2]; rfl
      have e3 : wd (sp 32 s) 3 = X3 := by rw [← Hps.out]; unfold wd; rw [List.getD_eq_getElem?_getD, hX3]; rfl
      have e4 : (sp 32 s).drop 4 = RW := by rw [← Hps.out, hRW]
      unfold rdC
      rw [← Hps.out] at e0 e1 e2 e3 e4 ⊢
      rw [if_neg h4]
      unfold mkOk mkCon
      rw [e0, e1, e2, e3, e4])
    clear h4
    go_enter Tryz.func24, Tryz.ntmps24
    go_wp2_with (go_at_call 21; rw [← hw0]; refine (Split_c s 32 _ (by omega)).mono ?_; rw [← Hps.out]; rintro e w1 ⟨pc, rfl, hst, hg1⟩; have Hg1 := hid hg1; have Hb1 := hid (hg1.obj Hb0.out (by simp)); have HcP : Hid (∀ (j : Nat) x, ps[j]? = some x → w1.cell? ⟨w0.heap.size, j, none⟩ = some (.string ⟨x.toArray⟩)) := hid (strs_cell hst); have k1 := HcP.out 1 X1 hX1; have hpc := strs_cap hst; clear hst hg1 hw0)
    refine (readList_c X1 w1 hl1 (HT.out.gr (Hg0.out.trans Hg1.out))).mono ?_
    rintro e w2 ⟨v1, rfl, hown1, hg2⟩
    obtain ⟨vo, vc, rfl, -, -⟩ := hown1.nums' (S := []) (by simp)
    have Hown1 := hid hown1; have Hg2 := hid hg2
    have k2 := hg2.cell (HcP.out 2 X2 hX2) (by simp)
    have hs2 := hg2.size
    clear hown1 hg2 k1
    go_wp2_with fail
    refine (readList_c X2 w2 hl2 (HT.out.gr ((Hg0.out.trans Hg1.out).trans Hg2.out))).mono ?_
    rintro e w3 ⟨v2, rfl, hown2, hg3⟩
    obtain ⟨xo, xc, rfl, -, -⟩ := hown2.nums' (S := []) (by simp)
    have Hown2 := hid hown2; have Hg3 := hid hg3
    have k3 := (Hg2.out.trans hg3).cell (HcP.out 3 X3 hX3) (by simp)
    have hs3 := hg3.size
    clear hown2 hg3 k2
    go_wp2_with fail
    refine (Atoi_c X3 (by omega) w3 (HT.out.gr (((Hg0.out.trans Hg1.out).trans Hg2.out).trans Hg3.out))).mono ?_
    rintro e w4 ⟨⟨er, rfl, her⟩, hg4⟩
    have hs4 := hg4.size
    have Hg4 := hid hg4; have Her := hid her
    have Hg14 : Hid (Gr [] w1 w4) := hid ((Hg2.out.trans Hg3.out).trans hg4)
    clear hg4 k3 her
    go_wp2_with fail
    have hw01 : w0.heap.size < w1.heap.size := World.block_lt_of_cell? w1 _ (HcP.out 0 X0 hX0)
    have hx0 : w4.cell? ⟨w0.heap.size, 0, none⟩ = some (.string ⟨X0.toArray⟩) := Hg14.out.cell (HcP.out 0 X0 hX0) (by simp)
    have HX0 := hid hx0
    have hps0 : 0 < ps.length := by omega
    obtain ⟨Kz, hKz⟩ : ∃ Kz, Kz = kindO X0 := ⟨_, rfl⟩
    have HKz := hid hKz
    clear hKz
    go_cut [13] from 50 to 59 (fun p wx => ∃ bc : Nat, p = .pointer (some ⟨bc, 0, none⟩) ∧ w4.heap.size ≤ bc ∧ wx.heap[bc]? = some (.cells #[.int .i64 Kz, .slice vo (rdL X1).1.length vc, .slice xo (rdL X2).1.length xc, .int .i64 (atoiV X3), .slice none 0 0] 49 (0, 0)) ∧ Gr [] w4 wx)
    case first =>
      refine wp_region_held_drew (S := (fun W => W.cell? ⟨w0.heap.size, 0, none⟩ = some (.string ⟨X0.toArray⟩))) (by kernel_rfl) ?_ (fun hHeld => ?_)
      · exact hx0
      refine wpAnyH_take (i := 1) (v := ?_) rfl (by kernel_rfl) (by kernel_rfl) (by kernel_rfl) (fun _ _ _ h => h) (Or.inl ⟨by rfl, ?_⟩) (by assumption) ?_
      rotate_left
      · intro Wx hSw; (try dsimp only at hSw); go_simp; (try with_reducible rfl)
      try simp only [Act.put, List.setIfInBounds_toArray, List.set_cons_zero, List.set_cons_succ, List.getElem_toArray, List.getElem_cons_zero, List.getElem_cons_succ]
      refine wpAnyH_take (i := 2) (v := ?_) rfl (by kernel_rfl) (by kernel_rfl) (by kernel_rfl) (fun _ _ _ h => h) (Or.inl ⟨by rfl, ?_⟩) (by assumption) ?_
      rotate_left
      · intro Wx hSw; (try dsimp only at hSw); go_simp; (try with_reducible rfl)
      try simp only [Act.put, List.setIfInBounds_toArray, List.set_cons_zero, List.set_cons_succ, List.getElem_toArray, List.getElem_cons_zero, List.getElem_cons_succ]
      refine wpAnyH_take (i := 3) (v := ?_) rfl (by kernel_rfl) (by kernel_rfl) (by kernel_rfl) (fun _ _ _ h => h) (Or.inl ⟨by rfl, ?_⟩) (by assumption) ?_
      rotate_left
      · intro Wx hSw; (try dsimp only at hSw); go_simp; (try with_reducible rfl)
      try simp only [Act.put, List.setIfInBounds_toArray, List.set_cons_zero, List.set_cons_succ, List.getElem_toArray, List.getElem_cons_zero, List.getElem_cons_succ]
      refine wpAnyH_take (i := 6) (v := ?_) rfl (by kernel_rfl) (by kernel_rfl) (by kernel_rfl) (fun _ _ _ h => h) (Or.inl ⟨by rfl, ?_⟩) (by assumption) ?_
      rotate_left
      · intro Wx hSw; (try dsimp only at hSw); go_simp; (try with_reducible rfl)
      try simp only [Act.put, List.setIfInBounds_toArray, List.set_cons_zero, List.set_cons_succ, List.getElem_toArray, List.getElem_cons_zero, List.getElem_cons_succ]
      refine wpAnyH_take (i := 7) (v := ?_) rfl (by kernel_rfl) (by kernel_rfl) (by kernel_rfl) (fun _ _ _ h => h) (Or.inl ⟨by rfl, ?_⟩) (by assumption) ?_
      rotate_left
      · intro Wx hSw; (try dsimp only at hSw); go_simp; (try with_reducible rfl)
      try simp only [Act.put, List.setIfInBounds_toArray, List.set_cons_zero, List.set_cons_succ, List.getElem_toArray, List.getElem_cons_zero, List.getElem_cons_succ]
      refine wpAnyH_take (i := 8) (v := ?_) rfl (by kernel_rfl) (by kernel_rfl) (by kernel_rfl) (fun _ _ _ h => h) (Or.inl ⟨by rfl, ?_⟩) (by assumption) ?_
      rotate_left
      · intro Wx hSw; (try dsimp only at hSw); go_simp; (try with_reducible rfl)
      try simp only [Act.put, List.setIfInBounds_toArray, List.set_cons_zero, List.set_cons_succ, List.getElem_toArray, List.getElem_cons_zero, List.getElem_cons_succ]
      refine wpAnyH_ready (rs := [0, 10]) (by kernel_rfl) (by simp) ?_
      refine AllReadyH.cons rfl (fun Kx hKx => ?_) (AllReadyH.cons rfl (fun Kx hKx => ?_) AllReadyH.nil)
      ·
        go_simp; go_at_call 56; (with_reducible refine (implKeywords_c _).mono ?_); rintro e wa ⟨rfl, hw⟩; have hgwa : Gr [] w4 wa := (by rw [hw]; exact (((Gr.refl [] w4).drew)).alloc _); have hk : ∀ k, k < 10 → wa.cell? ⟨(w4.drew).heap.size, k, none⟩ = some (.string ⟨(kws.getD k []).toArray⟩) := (by intro k hk; rw [hw]; exact kwCells_nat hk _); have hgu : Gr [] (w4.drew) wa := (by rw [hw]; exact (Gr.refl [] _).alloc _); clear hw; (try dsimp only)
        refine hKx.out _ _ ?_ (fun hHeld => ?_)
        · (try dsimp only); (exact hgwa.cell HX0.out (by simp))
        clear hKx Kx
        try simp only [Act.put, List.setIfInBounds_toArray, List.set_cons_zero, List.set_cons_succ, List.getElem_toArray, List.getElem_cons_zero, List.getElem_cons_succ]
        have hsa : w4.heap.size ≤ wa.heap.size := hgwa.size
        have hk : ∀ k, k < 10 → wa.cell? ⟨w4.heap.size, k, none⟩ = some (.string ⟨(kws.getD k []).toArray⟩) := hk
        refine wpAnyH_ready (rs := [4, 10]) (by kernel_rfl) (by simp) ?_
        refine AllReadyH.cons rfl (fun Kx hKx => ?_) (AllReadyH.cons rfl (fun Kx hKx => ?_) AllReadyH.nil)
        ·
          go_simp; refine (idxKw_c _ X0 _ hk).mono ?_; rintro e wq ⟨⟨kv, rfl, hkv⟩, hwq⟩; subst hwq; (try dsimp only)
          refine hKx.out _ _ ?_ (fun hHeld => ?_)
          · (try dsimp only); (exact hHeld)
          clear hKx Kx
          try simp only [Act.put, List.setIfInBounds_toArray, List.set_cons_zero, List.set_cons_succ, List.getElem_toArray, List.getElem_cons_zero, List.getElem_cons_succ]
          refine wpAnyH_take (i := 5) (v := ?_) rfl (by kernel_rfl) (by kernel_rfl) (by kernel_rfl) (fun _ _ _ h => h) (Or.inl ⟨by rfl, ?_⟩) (by assumption) ?_
          rotate_left
          · intro Wx hSw; (try dsimp only at hSw); go_simp; (try with_reducible rfl)
          try simp only [Act.put, List.setIfInBounds_toArray, List.set_cons_zero, List.set_cons_succ, List.getElem_toArray, List.getElem_cons_zero, List.getElem_cons_succ]
          refine wpAnyH_take (i := 9) (v := ?_) rfl (by kernel_rfl) (by kernel_rfl) (by kernel_rfl) (fun _ _ _ h => h) (Or.inl ⟨by rfl, ?_⟩) (by assumption) ?_
          rotate_left
          · intro Wx hSw; (try dsimp only at hSw); go_simp; (try with_reducible rfl)
          try simp only [Act.put, List.setIfInBounds_toArray, List.set_cons_zero, List.set_cons_succ, List.getElem_toArray, List.getElem_cons_zero, List.getElem_cons_succ]
          refine wpAnyH_ready (rs := [10]) (by kernel_rfl) (by simp) ?_
          refine AllReadyH.cons rfl (fun Kx hKx => ?_) AllReadyH.nil
          go_simp
          refine hKx.out _ _ ?_ (fun hHeld => ?_)
          · (try dsimp only); (exact (hgwa.alloc _).cell HX0.out (by simp))
          clear hKx Kx
          try simp only [Act.put, List.setIfInBounds_toArray, List.set_cons_zero, List.set_cons_succ, List.getElem_toArray, List.getElem_cons_zero, List.getElem_cons_succ]
          refine wpAnyH_ready (rs := [11]) (by kernel_rfl) (by simp) ?_
          refine AllReadyH.cons rfl (fun Kx hKx => ?_) AllReadyH.nil
          go_simp
          refine hKx.out _ _ ?_ (fun hHeld => ?_)
          · (try dsimp only); (exact (hgwa.alloc _).cell HX0.out (by simp))
          clear hKx Kx
          try simp only [Act.put, List.setIfInBounds_toArray, List.set_cons_zero, List.set_cons_succ, List.getElem_toArray, List.getElem_cons_zero, List.getElem_cons_succ]
          refine wpAnyH_done (by kernel_rfl) ?_ _
          go_wp2_with fail
          go_meet
          refine ⟨wq.heap.size, rfl, by omega, ?_, hgwa.alloc _⟩
          rw [HKz.out]; exact heap_alloc_new _ _
        ·
          go_simp
          refine hKx.out _ _ ?_ (fun hHeld => ?_)
          · (try dsimp only); (exact (hgwa.alloc _).cell HX0.out (by simp))
          clear hKx Kx
          try simp only [Act.put, List.setIfInBounds_toArray, List.set_cons_zero, List.set_cons_succ, List.getElem_toArray, List.getElem_cons_zero, List.getElem_cons_succ]
          refine wpAnyH_ready (rs := [4]) (by kernel_rfl) (by simp) ?_
          refine AllReadyH.cons rfl (fun Kx hKx => ?_) AllReadyH.nil
          go_simp; refine (idxKw_c _ X0 _ (fun k hk' => ((Gr.refl [] wa).alloc (.cells #[.int .i64 0, .slice none 0 0, .slice none 0 0, .int .i64 0, .slice none 0 0] 49)).cell (hk k hk') (by simp))).mono ?_; rintro e wq ⟨⟨kv, rfl, hkv⟩, hwq⟩; subst hwq; (try dsimp only)
          refine hKx.out _ _ ?_ (fun hHeld => ?_)
          · (try dsimp only); (exact hHeld)
          clear hKx Kx
          try simp only [Act.put, List.setIfInBounds_toArray, List.set_cons_zero, List.set_cons_succ, List.getElem_toArray, List.getElem_cons_zero, List.getElem_cons_succ]
          refine wpAnyH_take (i := 5) (v := ?_) rfl (by kernel_rfl) (by kernel_rfl) (by kernel_rfl) (fun _ _ _ h => h) (Or.inl ⟨by rfl, ?_⟩) (by assumption) ?_
          rotate_left
          · intro Wx hSw; (try dsimp only at hSw); go_simp; (try with_reducible rfl)
          try simp only [Act.put, List.setIfInBounds_toArray, List.set_cons_zero, List.set_cons_succ, List.getElem_toArray, List.getElem_cons_zero, List.getElem_cons_succ]
          refine wpAnyH_take (i := 9) (v := ?_) rfl (by kernel_rfl) (by kernel_rfl) (by kernel_rfl) (fun _ _ _ h => h) (Or.inl ⟨by rfl, ?_⟩) (by assumption) ?_
          rotate_left
          · intro Wx hSw; (try dsimp only at hSw); go_simp; (try with_reducible rfl)
          try simp only [Act.put, List.setIfInBounds_toArray, List.set_cons_zero, List.set_cons_succ, List.getElem_toArray, List.getElem_cons_zero, List.getElem_cons_succ]
          refine wpAnyH_ready (rs := [11]) (by kernel_rfl) (by simp) ?_
          refine AllReadyH.cons rfl (fun Kx hKx => ?_) AllReadyH.nil
          go_simp
          refine hKx.out _ _ ?_ (fun hHeld => ?_)
          · (try dsimp only); (exact (hgwa.alloc _).cell HX0.out (by simp))
          clear hKx Kx
          try simp only [Act.put, List.setIfInBounds_toArray, List.set_cons_zero, List.set_cons_succ, List.getElem_toArray, List.getElem_cons_zero, List.getElem_cons_succ]
          refine wpAnyH_done (by kernel_rfl) ?_ _
          go_wp2_with fail
          go_meet
          refine ⟨wa.heap.size, rfl, by omega, ?_, hgwa.alloc _⟩
          rw [HKz.out]; exact heap_alloc_new _ _
      ·
        go_simp
        refine hKx.out _ _ ?_ (fun hHeld => ?_)
        · (try dsimp only); (exact (((Gr.refl [] w4).drew).alloc _).cell HX0.out (by simp))
        clear hKx Kx
        try simp only [Act.put, List.setIfInBounds_toArray, List.set_cons_zero, List.set_cons_succ, List.getElem_toArray, List.getElem_cons_zero, List.getElem_cons_succ]
        refine wpAnyH_ready (rs := [0]) (by kernel_rfl) (by simp) ?_
        refine AllReadyH.cons rfl (fun Kx hKx => ?_) AllReadyH.nil
        go_simp; go_at_call 56; (with_reducible refine (implKeywords_c _).mono ?_); rintro e wa ⟨rfl, hw⟩; have hgwa : Gr [] w4 wa := (by rw [hw]; exact (((Gr.refl [] w4).drew).alloc (.cells #[.int .i64 0, .slice none 0 0, .slice none 0 0, .int .i64 0, .slice none 0 0] 49)).alloc _); have hk : ∀ k, k < 10 → wa.cell? ⟨(w4.drew.alloc (.cells #[.int .i64 0, .slice none 0 0, .slice none 0 0, .int .i64 0, .slice none 0 0] 49)).heap.size, k, none⟩ = some (.string ⟨(kws.getD k []).toArray⟩) := (by intro k hk; rw [hw]; exact kwCells_nat hk _); have hgu : Gr [] (w4.drew.alloc (.cells #[.int .i64 0, .slice none 0 0, .slice none 0 0, .int .i64 0, .slice none 0 0] 49)) wa := (by rw [hw]; exact (Gr.refl [] _).alloc _); clear hw; (try dsimp only)
        refine hKx.out _ _ ?_ (fun hHeld => ?_)
        · (try dsimp only); (exact hgwa.cell HX0.out (by simp))
        clear hKx Kx
        try simp only [Act.put, List.setIfInBounds_toArray, List.set_cons_zero, List.set_cons_succ, List.getElem_toArray, List.getElem_cons_zero, List.getElem_cons_succ]
        have hsa : w4.heap.size ≤ wa.heap.size := hgwa.size
        have hnb : (w4.drew.alloc (.cells #[.int .i64 0, .slice none 0 0, .slice none 0 0, .int .i64 0, .slice none 0 0] 49)).heap[w4.heap.size]? = some (.cells #[.int .i64 0, .slice none 0 0, .slice none 0 0, .int .i64 0, .slice none 0 0] 49 (0, 0)) := heap_alloc_new w4.drew _
        have hk : ∀ k, k < 10 → wa.cell? ⟨w4.heap.size + 1, k, none⟩ = some (.string ⟨(kws.getD k []).toArray⟩) := by simpa using hk
        refine wpAnyH_ready (rs := [4]) (by kernel_rfl) (by simp) ?_
        refine AllReadyH.cons rfl (fun Kx hKx => ?_) AllReadyH.nil
        go_simp; refine (idxKw_c _ X0 _ hk).mono ?_; rintro e wq ⟨⟨kv, rfl, hkv⟩, hwq⟩; subst hwq; (try dsimp only)
        refine hKx.out _ _ ?_ (fun hHeld => ?_)
        · (try dsimp only); (exact hHeld)
        clear hKx Kx
        try simp only [Act.put, List.setIfInBounds_toArray, List.set_cons_zero, List.set_cons_succ, List.getElem_toArray, List.getElem_cons_zero, List.getElem_cons_succ]
        refine wpAnyH_take (i := 5) (v := ?_) rfl (by kernel_rfl) (by kernel_rfl) (by kernel_rfl) (fun _ _ _ h => h) (Or.inl ⟨by rfl, ?_⟩) (by assumption) ?_
        rotate_left
        · intro Wx hSw; (try dsimp only at hSw); go_simp; (try with_reducible rfl)
        try simp only [Act.put, List.setIfInBounds_toArray, List.set_cons_zero, List.set_cons_succ, List.getElem_toArray, List.getElem_cons_zero, List.getElem_cons_succ]
        refine wpAnyH_take (i := 9) (v := ?_) rfl (by kernel_rfl) (by kernel_rfl) (by kernel_rfl) (fun _ _ _ h => h) (Or.inl ⟨by rfl, ?_⟩) (by assumption) ?_
        rotate_left
        · intro Wx hSw; (try dsimp only at hSw); go_simp; (try with_reducible rfl)
        try simp only [Act.put, List.setIfInBounds_toArray, List.set_cons_zero, List.set_cons_succ, List.getElem_toArray, List.getElem_cons_zero, List.getElem_cons_succ]
        have hB : (wq).heap[w4.heap.size]? = some (.cells #[.int .i64 0, .slice none 0 0, .slice none 0 0, .int .i64 0, .slice none 0 0] 49 (0, 0)) := hgu.obj hnb (by simp)
        have hG0 : Gr [] w4 (wq) := hgwa
        refine wpAnyH_ready (rs := [11]) (by kernel_rfl) (by simp) ?_
        refine AllReadyH.cons rfl (fun Kx hKx => ?_) AllReadyH.nil
        have fB := fld hB; have fBF := fldF hB
        go_simp
        have h5 := sets5 _ _ _ _ _ (.int .i64 (kindO X0)) (.slice vo (rdL X1).1.length vc) (.slice xo (rdL X2).1.length xc) (.int .i64 (atoiV X3)) (.slice none 0 0) hB
        have hG := setsG (w := wq) (w4.heap.size) (.int .i64 (kindO X0)) (.slice vo (rdL X1).1.length vc) (.slice xo (rdL X2).1.length xc) (.int .i64 (atoiV X3)) (.slice none 0 0)
        generalize (((((wq).setCell ⟨w4.heap.size, 0, none⟩ (.int .i64 (kindO X0))).setCell ⟨w4.heap.size, 1, none⟩ (.slice vo (rdL X1).1.length vc)).setCell ⟨w4.heap.size, 2, none⟩ (.slice xo (rdL X2).1.length xc)).setCell ⟨w4.heap.size, 3, none⟩ (.int .i64 (atoiV X3))).setCell ⟨w4.heap.size, 4, none⟩ (.slice none 0 0) = WE at h5 hG ⊢
        have hGE : Gr [] w4 WE := hG0.step hG (fun i hi => .inr (by simp at hi; omega))
        refine hKx.out _ _ ?_ (fun hHeld => ?_)
        · (try dsimp only); (exact hGE.cell HX0.out (by simp))
        clear hKx Kx
        try simp only [Act.put, List.setIfInBounds_toArray, List.set_cons_zero, List.set_cons_succ, List.getElem_toArray, List.getElem_cons_zero, List.getElem_cons_succ]
        refine wpAnyH_done (by kernel_rfl) ?_ _
        go_wp2_with fail
        go_meet
        refine ⟨w4.heap.size, rfl, by omega, ?_, hGE⟩
        rw [h5, HKz.out]
    case rest =>
      obtain ⟨bc, rfl, hbc, hB, hgc⟩ := hcut
      have HBc := hid hB; have Hgc := hid hgc
      have HcC : Hid (∀ (j : Nat) x, ps[j]? = some x → wc.cell? ⟨w0.heap.size, j, none⟩ = some (.string ⟨x.toArray⟩)) := hid fun j x hj => (Hg14.out.trans hgc).cell (HcP.out j x hj) (by simp)
      have hsc := hgc.size
      clear hB hgc HX0 hx0
      have hpc4 : ps.length ≤ pc := hpc.1
      have hsub : 4 ≤ ps.length := hp4.1
      obtain ⟨rows, hrows⟩ : ∃ rows, rows = RW.map fun w => (rdL w).1 := ⟨_, rfl⟩
      have hrowl : rows.length = RW.length := by rw [hrows]; simp
      rw [← hrows] at hC
      have Hrows := hid hrows; have Hrowl := hid hrowl
      clear hrows hrowl
      have hs0 := Hs0.out
      have HV : Hid (NumsM (fun b => New (w.heap.size + 1) wc b ∧ b ≠ bc) wc (.slice vo (rdL X1).1.length vc) (rdL X1).1) := hid (Hown1.out.numsM.to (S := []) ((Hg3.out.trans Hg4.out).trans Hgc.out) (by simp) (.inr (by omega)) (by omega))
      have HA : Hid (NumsM (fun b => New (w.heap.size + 1) wc b ∧ b ≠ bc) wc (.slice xo (rdL X2).1.length xc) (rdL X2).1) := hid (Hown2.out.numsM.to (S := []) (Hg4.out.trans Hgc.out) (by simp) (.inr (by omega)) (by omega))
      clear hs0
      have hbcl := lt_of_block HBc.out
      have Hpsl : Hid (ps.length = RW.length + 4) := hid (by omega)
      have Hhrx := hid hrwx
      have Hrw : Hid (∀ x ∈ RW, x.length ≤ 1100000) := hid (by intro x hx; rw [hRW] at hx; exact Hpl.out x (List.mem_of_mem_drop hx))
      clear hRW hrwx hX0 hX1 hX2 hX3
      go_wp2_with fail
      all_goals
        go_loopw [8, 63] (fun u i wr => ∃ (k : Nat) (ov : Value), k ≤ RW.length ∧ i = .int .i64 (k : Int) ∧ u = .bool ((rdL X1).2 && (RW.take k).all (fun w => (rdL w).2)) ∧ OwnG 1 elRowM (wc.heap.size) wr 24 ov (rows.take k) ∧ wr.heap[bc]? = some (.cells #[.int .i64 Kz, .slice vo (rdL X1).1.length vc, .slice xo (rdL X2).1.length xc, .int .i64 (atoiV X3), ov] 49 (0, 0)) ∧ Gr [bc] wc wr) (fun _ i _ => RW.length - (intOf i).toNat)
        case atStart => exact ⟨0, _, Nat.zero_le _, rfl, by simp, by rw [List.take_zero]; exact OwnG.nil _ _ _, HBc.out, Gr.refl _ _⟩
        case round =>
          obtain ⟨k, ov, hk, rfl, rfl, hown, hb, hg⟩ := hrel
          have hsg := hg.size
          have hov : ∀ b, ov.ownBlock = some b → wc.heap.size ≤ b := fun b h => (hown.own h).1
          have hgw : Gr [] w0 wr := (Hg1.out.trans (Hg14.out.trans Hgc.out)).step hg (fun i hi => .inr (by simp at hi; have := Hg1.out.size; have := Hg14.out.size; omega))
          have hoc : (rows.take k).length = k := by rw [List.length_take]; have := Hrowl.out; omega
          have Hown := hid hown; have Hb := hid hb; have Hg := hid hg; have Hov := hid hov; have Hgw := hid hgw
          clear hown hb hg hov hgw
          have hpl0 := Hpsl.out
          by_cases hlt : k < RW.length
          · obtain ⟨x, hx⟩ : ∃ x, RW[k]? = some x := ⟨_, List.getElem?_eq_getElem hlt⟩
            have hxl := Hrw.out x (List.mem_of_getElem? hx)
            have hcr : wr.cell? ⟨w0.heap.size, 4 + k, none⟩ = some (.string ⟨x.toArray⟩) := Hg.out.cell (HcC.out (4 + k) x (by rw [Nat.add_comm, ← Hhrx.out, hx])) (by simp; omega)
            have hrx : rows[k]? = some (rdL x).1 := by rw [Hrows.out, List.getElem?_map, hx]; rfl
            have Hx := hid hx; have Hrx := hid hrx; have Hpl0 := hid hpl0
            have k1 : (k : Int) < (RW.length : Int) := by omega
            have k2 : k < ps.length - 4 := by omega
            have k3 : (k : Int) < ((ps.length - 4 : Nat) : Int) := by omega
            have k4 : (k : Int) < (ps.length : Int) - 4 := by omega
            have k5 : k + 4 < ps.length := by omega
            clear hx hrx hpl0
            first
              | (exfalso; have := Hpsl.out; have := hpc.1; omega)
              | (obtain ⟨o, ho⟩ : ∃ o, o = ((rdL X1).2 && (RW.take k).all (fun w => (rdL w).2)) := ⟨_, rfl⟩
                 rw [← ho]
                 have Ho := hid ho; clear ho
                 go_wp2_with fail
                 refine (readList_c x wr hxl (HT.out.gr (Hg0.out.trans Hgw.out))).mono ?_
                 rintro e w5 ⟨v5, rfl, ho5, hg5⟩
                 obtain ⟨uo, uc, rfl, -, -⟩ := ho5.nums' (S := []) (by simp)
                 have Ho5 := hid (Own.numsM ho5); have Hg5 := hid hg5
                 have hs5 := hg5.size
                 have HO5 := hid (Hown.out.gr elRowM_ok hg5 (by simp))
                 have hb5 := hg5.obj Hb.out (by simp)
                 have Hb5 := hid hb5; have fb5 := fld hb5; have fb5F := fldF hb5
                 have Hown' := hid (fun b hb => Hown.out.own (b := b) hb)
                 clear ho5 hg5 hb5
                 obtain ⟨ok, hok⟩ : ∃ ok, ok = (rdL x).2 := ⟨_, rfl⟩
                 rw [← hok]
                 have Hok := hid hok; clear hok
                 cases o
                 all_goals
                   go_wp2_with (at_builtin; go_loud (refine wp_appH rfl _ _ 47 rfl 1 elRowM elRowM_ok wc.heap.size 24 (.slice none 0 0) 24 infoR rfl (by omega) (by omega) Tryz.underlying47 ov (rows.take k) rfl (HO5.out.gr elRowM_ok ((Gr.refl [] w5).alloc _) (by simp)) w5.heap.size 1 (rdL x).1 [.slice uo (rdL x).1.length uc] rfl rfl (by simp [Value.oneCell']) (fun j q hj => by match j, hj with | 0, hj => (simp at hj; subst hj; exact cell_one _ _ _) | j + 1, hj => simp at hj) (fun S hS => ⟨_, rfl, Ho5.out.gr' ((Gr.refl [] w5).alloc _) (by simp) (fun b hlt hb hm => by rcases hS b hm with h | h | h; (have := hb.1; omega); (simp at h; omega); (have := (Hown'.out b h).2; have := hb.1; omega))⟩) (by omega) (by simp; omega) ?_; intro v7 w7 hown7 hg7; have hsl7 := hown7.slice; have Hq7 : Hid (w7.heap[bc]? = some (.cells #[.int .i64 Kz, .slice vo (rdL X1).1.length vc, .slice xo (rdL X2).1.length xc, .int .i64 (atoiV X3), ov] 49 (0, 0))) := hid (hg7.obj (((Gr.refl [] w5).alloc _).obj Hb5.out (by simp)) (fun hm => by have := (Hown'.out bc (by simpa using hm)).1; omega)); have HO7 := hid hown7; have HG7 := hid hg7; have fb7 := fld Hq7.out; have fb7F := fldF Hq7.out; obtain ⟨g7, c7, rfl, _, _, _⟩ := hsl7; clear hown7 hg7 fb5 fb5F))
                 have hrl := Hrowl.out
                 have hE := block_cells (cur' := #[]) Hq7.out 4 (.slice g7 (rows.take k ++ [(rdL x).1]).length c7)
                 all_goals
                   have hrl := Hrowl.out
                   have e7 : (rows.take k ++ [(rdL x).1]).length = k + 1 := by simp; omega
                   have HO8 := HO7.out
                   rw [e7] at HO8
                   have hE := block_cells (cur' := #[]) Hq7.out 4 (.slice g7 (k + 1) c7)
                   refine ⟨⟨k + 1, .slice g7 (k + 1) c7, by omega, by go_num, ?_, ?_, ?_, ?_⟩, by simp [intOf]; omega⟩
                   · rw [List.take_add_one, Hx.out, List.all_append, ← Bool.and_assoc, ← Ho.out]; simp [Hok.out]
                   · rw [List.take_add_one, Hrx.out]
                     exact HO8.gr elRowM_ok (Gr.cell1 [bc] w7 ⟨bc, 4, none⟩ _ (by simp)) (by simp; omega)
                   · simpa using hE
                   · exact (((Hg.out.trans (Gr.any Hg5.out)).alloc _).step HG7.out (fun i hi => .inr ((Hown'.out _ (by simpa using hi)).1))).setCell _ _ (.inl (by simp)))
          · have e1 : k = RW.length := by omega
            subst e1
            have hrl := Hrowl.out
            rw [show RW.length = rows.length from hrl.symm, List.take_length] at Hown
            rw [List.take_length]
            have Hrm := hid (OwnG.rowsM Hown.out)
            obtain ⟨oo, oc, rfl, ho1, ho2, -⟩ := Hown.out.slice
            have hrr : wr.heap[w.heap.size]? = some (.cells #[.int .i64 0, .slice none 0 0, .slice none 0 0, .int .i64 0, .slice none 0 0] 49 (0, 0)) := Hgw.out.obj Hb0.out (by simp)
            have Hrr := hid hrr; have frr := fld hrr; have ffr := fldF hrr
            have fbc := fld Hb.out
            have k2 : ¬ RW.length < ps.length - 4 := by omega
            have k4 : ¬ (RW.length : Int) < (ps.length : Int) - 4 := by omega
            have k3 : ¬ (RW.length : Int) < ((ps.length - 4 : Nat) : Int) := by omega
            have k6 : ps.length - 4 ≤ RW.length := by omega
            have Hpl0 := hid hpl0
            clear hrr hpl0
            obtain ⟨o1, ho1⟩ : ∃ o, o = ((rdL X1).2 && RW.all (fun w => (rdL w).2)) := ⟨_, rfl⟩
            obtain ⟨o2, ho2⟩ : ∃ o, o = (rdL X2).2 := ⟨_, rfl⟩
            obtain ⟨o3, ho3⟩ : ∃ o, o = (atoiO X3).isSome := ⟨_, rfl⟩
            have hC2 := hC.out
            have her := Her.out
            rw [← ho3] at her
            rw [← ho1, ← ho2, ← ho3, ← HKz.out] at hC2
            rw [← ho1, ← ho2]
            have HC2 := hid hC2
            clear ho1 ho2 ho3 hC2
            have gwr : Gr [] w wr := Hg0.out.trans Hgw.out
            have Gwr := hid gwr; clear gwr
            have hs0x : w.heap.size + 1 ≤ w0.heap.size := by have := Hs0.out; omega
            obtain ⟨cc, hcc⟩ : ∃ cc : Con, cc = ⟨Kz, (rdL X1).1, (rdL X2).1, atoiV X3, rows⟩ := ⟨_, rfl⟩
            have hcV : ConM (fun b => New (w.heap.size + 1) wr b ∧ b ≠ bc) wr (.agg #[.int .i64 Kz, .slice vo (rdL X1).1.length vc, .slice xo (rdL X2).1.length xc, .int .i64 (atoiV X3), .slice oo rows.length oc]) cc := by
              rw [hcc]
              refine ⟨_, _, _, rfl, ?_, ?_, ?_⟩
              · exact HV.out.gr' Hg.out (fun b hb hm => hm.2 (by simpa using hb)) (fun b hl hm => ⟨⟨hm.1.1, by have := hm.1.2; omega⟩, hm.2⟩)
              · exact HA.out.gr' Hg.out (fun b hb hm => hm.2 (by simpa using hb)) (fun b hl hm => ⟨⟨hm.1.1, by have := hm.1.2; omega⟩, hm.2⟩)
              · exact Hrm.out.gr' (S := []) (Gr.refl _ _) (by simp) (fun b hl hm => ⟨⟨by have := hm.1; omega, hm.2⟩, by have := hm.1; omega⟩)
            rw [← hcc] at HC2
            rw [hrl] at hcV
            have HcV := hid hcV
            have Hcc := hid hcc
            clear hcV hcc
            cases o1
            · have hCn : rdC s n = none := by rw [HC2.out]; simp
              clear her
              go_wp2_with fail
              have h5 := sets5 _ _ _ _ _ (.int .i64 0) (.slice none 0 0) (.slice none 0 0) (.int .i64 0) (.slice none 0 0) Hrr.out
              have hG := setsG (w := wr) w.heap.size (.int .i64 0) (.slice none 0 0) (.slice none 0 0) (.int .i64 0) (.slice none 0 0)
              generalize (((((wr.setCell ⟨w.heap.size, 0, none⟩ (.int .i64 0)).setCell ⟨w.heap.size, 1, none⟩ (.slice none 0 0)).setCell ⟨w.heap.size, 2, none⟩ (.slice none 0 0)).setCell ⟨w.heap.size, 3, none⟩ (.int .i64 0)).setCell ⟨w.heap.size, 4, none⟩ (.slice none 0 0)) = WE at h5 hG ⊢
              have flE := fld h5
              refine bodyPost_ret (v := .tuple #[.agg #[.int .i64 0, .slice none 0 0, .slice none 0 0, .int .i64 0, .slice none 0 0], .bool false]) ?_ rfl ?_
              · simp [results, Tryz.results24, go_sem, flE]
              · (try rw [hCn])
                refine ⟨none, 0, none, 0, none, 0, zeroCon, rfl, rfl, zeroConM _ _, ?_⟩
                exact (Gwr.out).step hG (fun i hi => .inr (by simp at hi; omega))
            · cases o2
              · have hCn : rdC s n = none := by rw [HC2.out]; simp
                clear her
                go_wp2_with fail
                have h5 := sets5 _ _ _ _ _ (.int .i64 0) (.slice none 0 0) (.slice none 0 0) (.int .i64 0) (.slice none 0 0) Hrr.out
                have hG := setsG (w := wr) w.heap.size (.int .i64 0) (.slice none 0 0) (.slice none 0 0) (.int .i64 0) (.slice none 0 0)
                generalize (((((wr.setCell ⟨w.heap.size, 0, none⟩ (.int .i64 0)).setCell ⟨w.heap.size, 1, none⟩ (.slice none 0 0)).setCell ⟨w.heap.size, 2, none⟩ (.slice none 0 0)).setCell ⟨w.heap.size, 3, none⟩ (.int .i64 0)).setCell ⟨w.heap.size, 4, none⟩ (.slice none 0 0)) = WE at h5 hG ⊢
                have flE := fld h5
                refine bodyPost_ret (v := .tuple #[.agg #[.int .i64 0, .slice none 0 0, .slice none 0 0, .int .i64 0, .slice none 0 0], .bool false]) ?_ rfl ?_
                · simp [results, Tryz.results24, go_sem, flE]
                · (try rw [hCn])
                  refine ⟨none, 0, none, 0, none, 0, zeroCon, rfl, rfl, zeroConM _ _, ?_⟩
                  exact (Gwr.out).step hG (fun i hi => .inr (by simp at hi; omega))
              · cases o3
                · have hCn : rdC s n = none := by rw [HC2.out]; simp
                  obtain ⟨t, p, rfl⟩ := by simpa using her
                  go_wp2_with fail
                  have h5 := sets5 _ _ _ _ _ (.int .i64 0) (.slice none 0 0) (.slice none 0 0) (.int .i64 0) (.slice none 0 0) Hrr.out
                  have hG := setsG (w := wr) w.heap.size (.int .i64 0) (.slice none 0 0) (.slice none 0 0) (.int .i64 0) (.slice none 0 0)
                  generalize (((((wr.setCell ⟨w.heap.size, 0, none⟩ (.int .i64 0)).setCell ⟨w.heap.size, 1, none⟩ (.slice none 0 0)).setCell ⟨w.heap.size, 2, none⟩ (.slice none 0 0)).setCell ⟨w.heap.size, 3, none⟩ (.int .i64 0)).setCell ⟨w.heap.size, 4, none⟩ (.slice none 0 0)) = WE at h5 hG ⊢
                  have flE := fld h5
                  refine bodyPost_ret (v := .tuple #[.agg #[.int .i64 0, .slice none 0 0, .slice none 0 0, .int .i64 0, .slice none 0 0], .bool false]) ?_ rfl ?_
                  · simp [results, Tryz.results24, go_sem, flE]
                  · (try rw [hCn])
                    refine ⟨none, 0, none, 0, none, 0, zeroCon, rfl, rfl, zeroConM _ _, ?_⟩
                    exact (Gwr.out).step hG (fun i hi => .inr (by simp at hi; omega))
                · obtain rfl := by simpa using her
                  go_wp2_with fail
                  refine (ValidConstraint_c cc n _ wr (HcV.out.con (S := []) (by simp))).mono ?_
                  rintro e w6 ⟨rfl, hg6⟩
                  have hr6 := hg6.obj Hrr.out (by simp)
                  have fr6 := fld hr6; have fr6F := fldF hr6
                  have Hr6 := hid hr6; have Hg6 := hid hg6
                  have fb6 := fld (hg6.obj Hb.out (by simp))
                  have hs6 := hg6.size
                  clear hr6 hg6 frr ffr fbc
                  cases hvc : validCon cc n
                  · have hCn : rdC s n = none := by rw [HC2.out, hvc]; simp
                    go_wp2_with fail
                    have h5 := sets5 _ _ _ _ _ (.int .i64 0) (.slice none 0 0) (.slice none 0 0) (.int .i64 0) (.slice none 0 0) Hr6.out
                    have hG := setsG (w := w6) w.heap.size (.int .i64 0) (.slice none 0 0) (.slice none 0 0) (.int .i64 0) (.slice none 0 0)
                    generalize (((((w6.setCell ⟨w.heap.size, 0, none⟩ (.int .i64 0)).setCell ⟨w.heap.size, 1, none⟩ (.slice none 0 0)).setCell ⟨w.heap.size, 2, none⟩ (.slice none 0 0)).setCell ⟨w.heap.size, 3, none⟩ (.int .i64 0)).setCell ⟨w.heap.size, 4, none⟩ (.slice none 0 0)) = WE at h5 hG ⊢
                    have flE := fld h5
                    refine bodyPost_ret (v := .tuple #[.agg #[.int .i64 0, .slice none 0 0, .slice none 0 0, .int .i64 0, .slice none 0 0], .bool false]) ?_ rfl ?_
                    · simp [results, Tryz.results24, go_sem, flE]
                    · (try rw [hCn])
                      refine ⟨none, 0, none, 0, none, 0, zeroCon, rfl, rfl, zeroConM _ _, ?_⟩
                      exact ((Gwr.out.trans Hg6.out)).step hG (fun i hi => .inr (by simp at hi; omega))
                  · have hok := con_ok hvc
                    have Hvc := hid hvc; clear hvc
                    go_wp2_with fail
                    refine (text_c cc _ w6 ((HcV.out.con (S := []) (by simp)).gr Hg6.out) hok (HT.out.gr (Gwr.out.trans Hg6.out))).mono ?_
                    rintro e w7 ⟨rfl, hg7⟩
                    have hr7 := hg7.obj Hr6.out (by simp)
                    have fr7 := fld hr7; have fr7F := fldF hr7
                    have Hr7 := hid hr7; have Hg7 := hid hg7
                    have fb7 := fld (hg7.obj (Hg6.out.obj Hb.out (by simp)) (by simp))
                    have hs7 := hg7.size
                    clear hr7 hg7 fr6 fr6F fb6
                    cases heq : (conT cc == s)
                    · have hne : conT cc ≠ s := by intro h; rw [h] at heq; simp at heq
                      have hCn : rdC s n = none := by rw [HC2.out, Hvc.out]; simp [hne]
                      go_wp2_with fail
                      have h5 := sets5 _ _ _ _ _ (.int .i64 0) (.slice none 0 0) (.slice none 0 0) (.int .i64 0) (.slice none 0 0) Hr7.out
                      have hG := setsG (w := w7) w.heap.size (.int .i64 0) (.slice none 0 0) (.slice none 0 0) (.int .i64 0) (.slice none 0 0)
                      generalize (((((w7.setCell ⟨w.heap.size, 0, none⟩ (.int .i64 0)).setCell ⟨w.heap.size, 1, none⟩ (.slice none 0 0)).setCell ⟨w.heap.size, 2, none⟩ (.slice none 0 0)).setCell ⟨w.heap.size, 3, none⟩ (.int .i64 0)).setCell ⟨w.heap.size, 4, none⟩ (.slice none 0 0)) = WE at h5 hG ⊢
                      have flE := fld h5
                      refine bodyPost_ret (v := .tuple #[.agg #[.int .i64 0, .slice none 0 0, .slice none 0 0, .int .i64 0, .slice none 0 0], .bool false]) ?_ rfl ?_
                      · simp [results, Tryz.results24, go_sem, flE]
                      · (try rw [hCn])
                        refine ⟨none, 0, none, 0, none, 0, zeroCon, rfl, rfl, zeroConM _ _, ?_⟩
                        exact (((Gwr.out.trans Hg6.out).trans Hg7.out)).step hG (fun i hi => .inr (by simp at hi; omega))
                    · have hee : conT cc = s := by simpa using heq
                      have hCs : rdC s n = some cc := by rw [HC2.out, Hvc.out]; simp [hee]
                      have Heq := hid hee
                      clear hee
                      go_wp2_with fail
                      have h5 := sets5 _ _ _ _ _ (.int .i64 Kz) (.slice vo (rdL X1).1.length vc) (.slice xo (rdL X2).1.length xc) (.int .i64 (atoiV X3)) (.slice oo RW.length oc) Hr7.out
                      have hG := setsG (w := w7) w.heap.size (.int .i64 Kz) (.slice vo (rdL X1).1.length vc) (.slice xo (rdL X2).1.length xc) (.int .i64 (atoiV X3)) (.slice oo RW.length oc)
                      generalize (((((w7.setCell ⟨w.heap.size, 0, none⟩ (.int .i64 Kz)).setCell ⟨w.heap.size, 1, none⟩ (.slice vo (rdL X1).1.length vc)).setCell ⟨w.heap.size, 2, none⟩ (.slice xo (rdL X2).1.length xc)).setCell ⟨w.heap.size, 3, none⟩ (.int .i64 (atoiV X3))).setCell ⟨w.heap.size, 4, none⟩ (.slice oo RW.length oc)) = WE at h5 hG ⊢
                      have flE := fld h5
                      have hsE := hG.size
                      refine bodyPost_ret (v := .tuple #[.agg #[.int .i64 Kz, .slice vo (rdL X1).1.length vc, .slice xo (rdL X2).1.length xc, .int .i64 (atoiV X3), .slice oo RW.length oc], .bool true]) ?_ rfl ?_
                      · simp [results, Tryz.results24, go_sem, flE]
                      · (try rw [hCs])
                        have hg67 : Gr [w.heap.size] wr WE := (Hg6.out.trans Hg7.out).any.trans hG
                        have hfin := HcV.out.gr' (M' := New w.heap.size WE) hg67 (fun b hb hm => by have := hm.1.1; simp at hb; omega) (fun b hl hm => ⟨by have := hm.1.1; omega, by have := hm.1.2; omega⟩)
                        refine ⟨vo, vc, xo, xc, oo, oc, cc, ?_, rfl, ?_, ((Gwr.out.trans Hg6.out).trans Hg7.out).step hG (fun i hi => .inr (by simp at hi; omega))⟩
                        · rw [Hcc.out]; simp [hrl]
                        · rw [Hcc.out] at hfin ⊢
                          simpa [hrl] using hfin
end Go.Proofs.YtmonhpoogfdpoaaGreatDoor
