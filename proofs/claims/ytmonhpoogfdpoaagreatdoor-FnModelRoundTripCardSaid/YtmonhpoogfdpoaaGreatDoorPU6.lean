/-
  Walk of the reference's reading of a constraint.
-/
import Derived.Test.YtmonhpoogfdpoaaGreatDoorPCpCt
import Derived.Test.YtmonhpoogfdpoaaGreatDoorPU5
set_option linter.unusedVariables false
set_option linter.unusedSimpArgs false
namespace Go.Proofs.YtmonhpoogfdpoaaGreatDoor
open Go.RowKit

def zeroCon : Con := ⟨0, [], [], 0, []⟩
/-- The kind that the reference has found before keyword k. -/
def kindU : Nat → Bs → Int
  | 0, _ => 0
  | k + 1, w => if kws.getD k [] = w ∧ 1 ≤ k then (k : Int) else kindU k w
theorem kindU_eq (w : Bs) : kindU 10 w = kindO w := by
  by_cases h : ∃ k : Fin 10, 1 ≤ k.val ∧ w = kws.getD k.val []
  · obtain ⟨k, hk, rfl⟩ := h
    have : ∀ k : Fin 10, 1 ≤ k.val → kindU 10 (kws.getD k.val []) = kindO (kws.getD k.val []) := by decide +kernel
    exact this k hk
  · have hn : ∀ k : Nat, 1 ≤ k → k < 10 → w ≠ kws.getD k [] := fun k h1 h2 e => h ⟨⟨k, h2⟩, h1, e⟩
    have hu : ∀ k : Nat, k ≤ 10 → kindU k w = 0 := by
      intro k
      induction k with
      | zero => intro _; rfl
      | succ k ih =>
        intro hk
        rw [kindU, if_neg, ih (by omega)]
        rintro ⟨h1, h2⟩
        exact hn k h2 (by omega) h1.symm
    rw [hu 10 (Nat.le_refl _)]
    unfold kindO
    rw [if_neg (hn 1 (by decide) (by decide)), if_neg (hn 2 (by decide) (by decide)), if_neg (hn 3 (by decide) (by decide)), if_neg (hn 4 (by decide) (by decide)), if_neg (hn 5 (by decide) (by decide)),
      if_neg (hn 6 (by decide) (by decide)), if_neg (hn 7 (by decide) (by decide)), if_neg (hn 8 (by decide) (by decide)), if_neg (hn 9 (by decide) (by decide))]
theorem kwCells_nat {k : Nat} (h : k < 10) (w : World) : (w.alloc (.cells kwCells 9)).cell? ⟨w.heap.size, k, none⟩ = some (.string ⟨(kws.getD k []).toArray⟩) := by
  have := kwCells_at (k := (k : Int)) (by omega) w
  simpa [kwT] using this

theorem zeroConM (M : Nat → Prop) (w : World) : ConM M w (.agg #[.int .i64 0, .slice none 0 0, .slice none 0 0, .int .i64 0, .slice none 0 0]) zeroCon := by
  refine ⟨_, _, _, rfl, ?_, ?_, ?_⟩
  · exact ⟨none, 0, rfl, by simp [zeroCon], fun i x hi => by simp [zeroCon] at hi⟩
  · exact ⟨none, 0, rfl, by simp [zeroCon], fun i x hi => by simp [zeroCon] at hi⟩
  · exact ⟨none, 0, rfl, by simp [zeroCon], fun i x hi => by simp [zeroCon] at hi⟩
set_option maxRecDepth 100000 in
set_option maxHeartbeats 4000000 in
theorem parseConstraint_c (s : Bs) (w : World) (hs : s.length ≤ 1000000000) :
    Calls Tryz.prog 28 #[.string ⟨s.toArray⟩] w fun e w' => ∃ vo vc xo xc ro rc, e = .returned (.agg #[.int .i64 (parC s).kind, .slice vo (parC s).vars.length vc, .slice xo (parC s).args.length xc, .int .i64 (parC s).bound, .slice ro (parC s).rows.length rc]) ∧
      ConM (New w.heap.size w') w' (.agg #[.int .i64 (parC s).kind, .slice vo (parC s).vars.length vc, .slice xo (parC s).args.length xc, .int .i64 (parC s).bound, .slice ro (parC s).rows.length rc]) (parC s) ∧ Gr [] w w' := by
  obtain ⟨w0, hw0⟩ : ∃ w0, w0 = w.alloc (.cells #[.int .i64 0, .slice none 0 0, .slice none 0 0, .int .i64 0, .slice none 0 0] 49) := ⟨_, rfl⟩
  have hg0 : Gr [] w w0 := by rw [hw0]; exact (Gr.refl _ _).alloc _
  have hs0 : w0.heap.size = w.heap.size + 1 := by rw [hw0]; simp
  have hb0 : w0.heap[w.heap.size]? = some (.cells #[.int .i64 0, .slice none 0 0, .slice none 0 0, .int .i64 0, .slice none 0 0] 49 (0, 0)) := by rw [hw0]; exact heap_alloc_new _ _
  have Hb0 := hid hb0; have Hg0 := hid hg0; have Hs0 := hid hs0
  clear hb0 hg0 hs0
  obtain ⟨ps, hps⟩ : ∃ ps, ps = spN 32 12 s := ⟨_, rfl⟩
  have hpn := spN_len 32 s 12
  have hpl : ∀ x ∈ ps, x.length ≤ 1000000000 := by rw [hps]; exact fun x hx => Nat.le_trans (spN_piece 32 s 12 x hx) hs
  rw [← hps] at hpn
  have Hps := hid hps; have Hpl := hid hpl
  clear hps hpl
  by_cases h4 : ps.length < 4
  · have hC : Hid (parC s = zeroCon) := hid (by unfold parC; rw [← Hps.out, if_pos h4]; rfl)
    go_enter Tryz.func28, Tryz.ntmps28
    go_wp2_with (go_at_call 26; rw [← hw0]; refine (splitN_c 32 12 s _ hs (by decide)).mono ?_; rw [← Hps.out]; rintro e w1 ⟨v1, rfl, hown1, hg1⟩; obtain ⟨po, pc, rfl⟩ := hown1.form; have hs1 := hg1.size; have Hg1 := hid hg1; have Hown1 := hid hown1; have hR1 := hg1.obj Hb0.out (by simp); have hR2 := ((Gr.refl [] w1).alloc (.cells #[.int .i64 0, .slice none 0 0, .slice none 0 0, .int .i64 0, .slice none 0 0] 49)).obj hR1 (by simp); have fR := fld hR2; have ffR := fldF hR2; clear hg1 hown1 hw0)
    have h5 := sets5 _ _ _ _ _ (.int .i64 0) (.slice none 0 0) (.slice none 0 0) (.int .i64 0) (.slice none 0 0) hR2
    have hG := setsG (w := w1.alloc (.cells #[.int .i64 0, .slice none 0 0, .slice none 0 0, .int .i64 0, .slice none 0 0] 49)) w.heap.size (.int .i64 0) (.slice none 0 0) (.slice none 0 0) (.int .i64 0) (.slice none 0 0)
    generalize ((((((w1.alloc (.cells #[.int .i64 0, .slice none 0 0, .slice none 0 0, .int .i64 0, .slice none 0 0] 49)).setCell ⟨w.heap.size, 0, none⟩ (.int .i64 0)).setCell ⟨w.heap.size, 1, none⟩ (.slice none 0 0)).setCell ⟨w.heap.size, 2, none⟩ (.slice none 0 0)).setCell ⟨w.heap.size, 3, none⟩ (.int .i64 0)).setCell ⟨w.heap.size, 4, none⟩ (.slice none 0 0)) = WE at h5 hG ⊢
    have flE := fld h5
    refine bodyPost_ret (v := .agg #[.int .i64 0, .slice none 0 0, .slice none 0 0, .int .i64 0, .slice none 0 0]) ?_ rfl ?_
    · simp [results, Tryz.results28, go_sem, flE]
    · rw [hC.out]
      refine ⟨none, 0, none, 0, none, 0, rfl, zeroConM _ _, ?_⟩
      exact ((Hg0.out.trans Hg1.out).alloc _).step hG (fun i hi => .inr (by simp at hi; omega))
  · have hC : Hid (parC s = ⟨kindO (wd ps 0), parL (wd ps 1), parL (wd ps 2), parI (wd ps 3), (ps.drop 4).map parL⟩) := hid (by unfold parC; rw [← Hps.out, if_neg h4])
    go_enter Tryz.func28, Tryz.ntmps28
    go_wp2_with (go_at_call 26; rw [← hw0]; refine (splitN_c 32 12 s _ hs (by decide)).mono ?_; rw [← Hps.out]; rintro e w1 ⟨v1, rfl, hown1, hg1⟩; obtain ⟨po, pc, rfl⟩ := hown1.form; have hs1 := hg1.size; have Hg1 := hid hg1; have Hown1 := hid hown1; clear hg1 hown1 hw0)
    have hg2 : Gr [] w1 (w1.alloc (.cells #[.int .i64 0, .slice none 0 0, .slice none 0 0, .int .i64 0, .slice none 0 0] 49)) := (Gr.refl [] _).alloc _
    have hB2 := heap_alloc_new w1 (.cells #[.int .i64 0, .slice none 0 0, .slice none 0 0, .int .i64 0, .slice none 0 0] 49)
    generalize w1.alloc (.cells #[.int .i64 0, .slice none 0 0, .slice none 0 0, .int .i64 0, .slice none 0 0] 49) = wz at hg2 hB2 ⊢
    have hsz := hg2.size
    obtain ⟨bc, hbc⟩ : ∃ bc, bc = w1.heap.size := ⟨_, rfl⟩
    have hpz : SCells [bc] wz po ps := by
      obtain ⟨ao, cap, e, _, h⟩ := Hown1.out.strs (S := [bc]) (by intro b hb; simp at hb; subst hb; exact .inr (by omega))
      cases e
      exact fun i x hi => let ⟨b, o, e, hs, hc⟩ := h i x hi; ⟨b, o, e, hs, hg2.cell hc (by simp)⟩
    have hpcap : ps.length ≤ pc ∧ pc ≤ 9223372036854775807 := by
      obtain ⟨ao, cap, e, ⟨h1, h2, _⟩, h⟩ := Hown1.out.strs (S := []) (by simp)
      cases e
      exact ⟨h1, h2⟩
    rw [← hbc] at hB2
    have hbcw : bc < wz.heap.size := lt_of_block hB2
    have hbc0 : w.heap.size + 1 ≤ bc := by have := Hs0.out; omega
    have Hz := hid hg2; have HB2 := hid hB2; have Hpz := hid hpz
    clear hg2 hB2 hpz Hown1 hsz
    obtain ⟨X0, hX0⟩ : ∃ x, ps[0]? = some x := ⟨_, List.getElem?_eq_getElem (by omega)⟩
    have hwd0 : wd ps 0 = X0 := by unfold wd; rw [List.getD_eq_getElem?_getD, hX0]; rfl
    obtain ⟨pb, pq, rfl, hpb, hcX0⟩ := Hpz.out 0 X0 hX0
    rw [Nat.add_zero] at hcX0
    have HcX0 := hid hcX0; have Hwd0 := hid hwd0; have Hpb := hid hpb
    have hpbl : pb < wz.heap.size := World.block_lt_of_cell? wz _ hcX0
    have hpbc : pb ≠ bc := by intro e; exact hpb (by simp [e])
    clear hX0 hwd0 hcX0 hpb
    rw [← hbc]
    clear hbc
    go_loopw [5] (fun i wr => ∃ k : Nat, 1 ≤ k ∧ k ≤ 10 ∧ i = .int .i64 k ∧ wr.heap[bc]? = some (.cells #[.int .i64 (kindU k X0), .slice none 0 0, .slice none 0 0, .int .i64 0, .slice none 0 0] 49 (0, 0)) ∧ Gr [bc] wz wr) (fun i _ => 10 - (intOf i).toNat)
    case atStart => exact ⟨1, Nat.le_refl _, by omega, rfl, by rw [show kindU (0 + 1) X0 = 0 by rw [kindU, if_neg (by simp)]; rfl]; exact HB2.out, Gr.refl _ _⟩
    case round =>
      obtain ⟨k, hk1, hkt, rfl, hbk, hg⟩ := hrel
      have HX : Hid (wr.cell? ⟨pb, pq, none⟩ = some (.string ⟨X0.toArray⟩)) := hid (hg.cell HcX0.out Hpb.out)
      have Hbk := hid hbk; have Hg := hid hg
      have hsr := hg.size
      clear hbk hg
      by_cases hk10 : k < 10
      · have k10 : decide (k < 10) = true := decide_eq_true hk10
        have k10' : decide ((k : Int) < 10) = true := decide_eq_true (by omega)
        have k10i : (k : Int) < 10 := by omega
        have hps0 : 0 < ps.length := by omega
        go_wp2_with (go_at_call 60; (with_reducible refine (specKeywords_c _).mono ?_); rintro e wb ⟨rfl, hwb⟩; have HGb : Hid (Gr [] wr wb) := hid (by rw [hwb]; exact (Gr.refl [] wr).alloc _); clear hwb)
        obtain ⟨Kk, hKk⟩ : ∃ Kk, Kk = kws.getD k [] := ⟨_, rfl⟩
        have HKk := hid hKk; clear hKk
        have HX0 : Hid (wb.cell? ⟨pb, pq, none⟩ = some (.string ⟨X0.toArray⟩)) := hid (HGb.out.cell HX.out (by simp))
        have HBb : Hid (wb.heap[bc]? = _) := hid (HGb.out.obj Hbk.out (by simp))
        go_cut [27] from 20 to 27 (fun p wx => p = .bool (Kk == X0) ∧ Gr [] wb wx)
        case first =>
          refine wp_region_held_drew (S := (fun W => W.cell? ⟨pb, pq, none⟩ = some (.string ⟨X0.toArray⟩))) (by kernel_rfl) ?_ (fun hHeld => ?_)
          · exact HX0.out
          refine wpAnyH_take (i := 1) (v := ?_) rfl (by kernel_rfl) (by kernel_rfl) (by kernel_rfl) (fun _ _ _ h => h) (Or.inl ⟨by rfl, ?_⟩) (by assumption) ?_
          rotate_left
          · intro Wx hSw; (try dsimp only at hSw); go_simp; (try with_reducible rfl)
          try simp only [Act.put, List.setIfInBounds_toArray, List.set_cons_zero, List.set_cons_succ, List.getElem_toArray, List.getElem_cons_zero, List.getElem_cons_succ]
          refine wpAnyH_take (i := 4) (v := ?_) rfl (by kernel_rfl) (by kernel_rfl) (by kernel_rfl) (fun _ _ _ h => h) (Or.inl ⟨by rfl, ?_⟩) (by assumption) ?_
          rotate_left
          · intro Wx hSw; (try dsimp only at hSw); go_simp; (try with_reducible rfl)
          try simp only [Act.put, List.setIfInBounds_toArray, List.set_cons_zero, List.set_cons_succ, List.getElem_toArray, List.getElem_cons_zero, List.getElem_cons_succ]
          refine wpAnyH_take (i := 5) (v := ?_) rfl (by kernel_rfl) (by kernel_rfl) (by kernel_rfl) (fun _ _ _ h => h) (Or.inl ⟨by rfl, ?_⟩) (by assumption) ?_
          rotate_left
          · intro Wx hSw; (try dsimp only at hSw); go_simp; (try with_reducible rfl)
          try simp only [Act.put, List.setIfInBounds_toArray, List.set_cons_zero, List.set_cons_succ, List.getElem_toArray, List.getElem_cons_zero, List.getElem_cons_succ]
          refine wpAnyH_take (i := 6) (v := ?_) rfl (by kernel_rfl) (by kernel_rfl) (by kernel_rfl) (fun _ _ _ h => h) (Or.inl ⟨by rfl, ?_⟩) (by assumption) ?_
          rotate_left
          · intro Wx hSw; (try dsimp only at hSw); go_simp; (try with_reducible rfl)
          try simp only [Act.put, List.setIfInBounds_toArray, List.set_cons_zero, List.set_cons_succ, List.getElem_toArray, List.getElem_cons_zero, List.getElem_cons_succ]
          refine wpAnyH_ready (rs := [0]) (by kernel_rfl) (by simp) ?_
          refine AllReadyH.cons rfl (fun Kx hKx => ?_) AllReadyH.nil
          go_simp; go_at_call 60; (with_reducible refine (specKeywords_c _).mono ?_); rintro e wd ⟨rfl, hwd⟩; have hgd : Gr [] wb wd := (by rw [hwd]; exact ((Gr.refl [] wb).drew).alloc _); have hcd : wd.cell? ⟨wb.heap.size, k, none⟩ = some (.string ⟨Kk.toArray⟩) := (by rw [hwd, HKk.out]; exact kwCells_nat hk10 _); clear hwd; have HGd := hid hgd; clear hgd; (try dsimp only)
          refine hKx.out _ _ ?_ (fun hHeld => ?_)
          · (try dsimp only); (exact HGd.out.cell HX0.out (by simp))
          clear hKx Kx
          try simp only [Act.put, List.setIfInBounds_toArray, List.set_cons_zero, List.set_cons_succ, List.getElem_toArray, List.getElem_cons_zero, List.getElem_cons_succ]
          refine wpAnyH_mono (S' := (fun W => W.cell? ⟨wb.heap.size, k, none⟩ = some (.string ⟨Kk.toArray⟩) ∧ W.cell? ⟨pb, pq, none⟩ = some (.string ⟨X0.toArray⟩))) (fun W h => h.2) _ _ _ _ ?_
          clear hHeld
          have hHeld : (wd.cell? ⟨wb.heap.size, k, none⟩ = some (.string ⟨Kk.toArray⟩) ∧ wd.cell? ⟨pb, pq, none⟩ = some (.string ⟨X0.toArray⟩)) := ⟨hcd, HGd.out.cell HX0.out (by simp)⟩
          refine wpAnyH_take (i := 2) (v := ?_) rfl (by kernel_rfl) (by kernel_rfl) (by kernel_rfl) (fun _ _ _ h => h) (Or.inl ⟨by rfl, ?_⟩) (by assumption) ?_
          rotate_left
          · intro Wx hSw; (try dsimp only at hSw); go_simp; (try with_reducible rfl)
          try simp only [Act.put, List.setIfInBounds_toArray, List.set_cons_zero, List.set_cons_succ, List.getElem_toArray, List.getElem_cons_zero, List.getElem_cons_succ]
          refine wpAnyH_take (i := 3) (v := ?_) rfl (by kernel_rfl) (by kernel_rfl) (by kernel_rfl) (fun _ _ _ h => h) (Or.inl ⟨by rfl, ?_⟩) (by assumption) ?_
          rotate_left
          · intro Wx hSw; (try dsimp only at hSw); go_simp; (try with_reducible rfl)
          try simp only [Act.put, List.setIfInBounds_toArray, List.set_cons_zero, List.set_cons_succ, List.getElem_toArray, List.getElem_cons_zero, List.getElem_cons_succ]
          refine wpAnyH_take (i := 7) (v := ?_) rfl (by kernel_rfl) (by kernel_rfl) (by kernel_rfl) (fun _ _ _ h => h) (Or.inl ⟨by rfl, ?_⟩) (by assumption) ?_
          rotate_left
          · intro Wx hSw; (try dsimp only at hSw); go_simp; (try with_reducible rfl)
          try simp only [Act.put, List.setIfInBounds_toArray, List.set_cons_zero, List.set_cons_succ, List.getElem_toArray, List.getElem_cons_zero, List.getElem_cons_succ]
          refine wpAnyH_done (by kernel_rfl) ?_ _
          go_wp2_with fail
          go_meet
          exact ⟨rfl, HGd.out⟩
        case rest =>
          obtain ⟨rfl, hgc⟩ := hcut
          have HBc : Hid (wc.heap[bc]? = some (.cells #[.int .i64 (kindU k X0), .slice none 0 0, .slice none 0 0, .int .i64 0, .slice none 0 0] 49 (0, 0))) := hid (hgc.obj HBb.out (by simp))
          have fB := fld HBc.out; have ffB := fldF HBc.out
          have Hgc := hid hgc; clear hgc
          cases heq : (Kk == X0)
          all_goals
            have Heq := hid heq
            go_wp2_with fail
          · refine ⟨⟨k + 1, by omega, by omega, by go_num, ?_, ?_⟩, by simp [intOf]; omega⟩
            · rw [HBc.out, kindU, if_neg]
              rintro ⟨h, -⟩
              rw [← HKk.out] at h
              have := Heq.out
              rw [h] at this
              simp at this
            · exact Hg.out.trans ((HGb.out.trans Hgc.out).any)
          · refine ⟨⟨k + 1, by omega, by omega, by go_num, ?_, ?_⟩, by simp [intOf]; omega⟩
            · have := block_cells (cur' := #[]) HBc.out 0 (.int .i64 k)
              rw [kindU, if_pos ⟨by rw [← HKk.out]; simpa using Heq.out, hk1⟩]
              simpa using this
            · exact (Hg.out.trans ((HGb.out.trans Hgc.out).any)).setCell _ _ (.inl (by simp))
      · have hk : k = 10 := by omega
        have k10 : decide (k < 10) = false := decide_eq_false hk10
        have k10' : decide ((k : Int) < 10) = false := decide_eq_false (by omega)
        rw [hk, kindU_eq] at Hbk
        clear hk hk1 hkt hk10
        obtain ⟨Kz, hKz⟩ : ∃ Kz, Kz = kindO X0 := ⟨_, rfl⟩
        rw [← hKz] at Hbk
        have HKz := hid hKz; clear hKz
        obtain ⟨X1, hX1⟩ : ∃ x, ps[1]? = some x := ⟨_, List.getElem?_eq_getElem (by omega)⟩
        obtain ⟨X2, hX2⟩ : ∃ x, ps[2]? = some x := ⟨_, List.getElem?_eq_getElem (by omega)⟩
        obtain ⟨X3, hX3⟩ : ∃ x, ps[3]? = some x := ⟨_, List.getElem?_eq_getElem (by omega)⟩
        have hl1 := Hpl.out X1 (List.mem_of_getElem? hX1); have hl2 := Hpl.out X2 (List.mem_of_getElem? hX2); have hl3 := Hpl.out X3 (List.mem_of_getElem? hX3)
        have hC2 : Hid (parC s = ⟨Kz, parL X1, parL X2, parI X3, (ps.drop 4).map parL⟩) := hid (by
          rw [hC.out, Hwd0.out, HKz.out]; unfold wd; rw [List.getD_eq_getElem?_getD, List.getD_eq_getElem?_getD, List.getD_eq_getElem?_getD, hX1, hX2, hX3]; rfl)
        have HcP : Hid (∀ (j : Nat) x, ps[j]? = some x → wr.cell? ⟨pb, pq + j, none⟩ = some (.string ⟨x.toArray⟩)) := hid fun j x hj => by
          obtain ⟨b, o, e, hs, hc⟩ := Hpz.out j x hj
          cases e
          exact Hg.out.cell hc hs
        have H1 := hid (HcP.out 1 X1 hX1); have H2 := hid (HcP.out 2 X2 hX2); have H3 := hid (HcP.out 3 X3 hX3)
        clear hX1 hX2 hX3 hC
        have hps0 : 0 < ps.length := by omega
        have hps1 : 1 < ps.length := by omega
        have hps2 : 2 < ps.length := by omega
        have hps3 : 3 < ps.length := by omega
        go_wp2_with (go_at_call 60; (with_reducible refine (specKeywords_c _).mono ?_); rintro e wk ⟨rfl, hwk⟩; have hgk : Gr [] wr wk := (by rw [hwk]; exact (Gr.refl [] wr).alloc _); clear hwk; have hx1 := hgk.cell H1.out (by simp); have HGk := hid hgk; clear hgk)
        refine (parseInts_c X1 wk hl1).mono ?_
        rintro e w5 ⟨v5, rfl, hown5, hg5⟩
        obtain ⟨vo, vc, rfl, -, -⟩ := hown5.nums' (S := []) (by simp)
        have hGs : Gr [] wr w5 := HGk.out.trans hg5
        have hB5 := hGs.obj Hbk.out (by simp)
        have fB5 := fld hB5; have ffB5 := fldF hB5
        have hB6 := block_cells (cur' := #[]) hB5 1 (.slice vo (parL X1).length vc)
        have hx2 : (w5.setCell ⟨bc, 1, none⟩ (.slice vo (parL X1).length vc)).cell? ⟨pb, pq + 2, none⟩ = some (.string ⟨X2.toArray⟩) := (World.cell?_setCell_other _ _ _ _ (by simp [hpbc])).trans (hGs.cell H2.out (by simp))
        have hG6 : Gr [bc] w5 (w5.setCell ⟨bc, 1, none⟩ (.slice vo (parL X1).length vc)) := (Gr.refl _ _).setCell _ _ (.inl (by simp))
        go_wp2_with fail
        generalize (w5.setCell ⟨bc, 1, none⟩ (.slice vo (parL X1).length vc)) = w6 at hB6 hx2 hG6 ⊢
        have H56 := hid hG6; have HOV := hid hown5; have HG5 := hid hg5; have HGs := hid hGs
        have h36 := hG6.cell (hGs.cell H3.out (by simp)) (by simp [hpbc])
        have H36 := hid h36; have HB6 := hid hB6
        have hs56 := hG6.size; have hsk5 := hg5.size; have hsrk := HGk.out.size
        clear hown5 hg5 hGs hG6 h36 fB5 ffB5 hB5 hx1
        refine (parseInts_c X2 w6 hl2).mono ?_
        rintro e w7 ⟨v7, rfl, hown7, hg7⟩
        obtain ⟨xo, xc, rfl, -, -⟩ := hown7.nums' (S := []) (by simp)
        have hB7 := hg7.obj HB6.out (by simp)
        simp only [List.setIfInBounds_toArray, List.set_cons_zero, List.set_cons_succ] at hB7
        have fB7 := fld hB7; have ffB7 := fldF hB7
        have hB8 := block_cells (cur' := #[]) hB7 2 (.slice xo (parL X2).length xc)
        have hx3 : (w7.setCell ⟨bc, 2, none⟩ (.slice xo (parL X2).length xc)).cell? ⟨pb, pq + 3, none⟩ = some (.string ⟨X3.toArray⟩) := (World.cell?_setCell_other _ _ _ _ (by simp [hpbc])).trans (hg7.cell H36.out (by simp))
        have hG8 : Gr [bc] w7 (w7.setCell ⟨bc, 2, none⟩ (.slice xo (parL X2).length xc)) := (Gr.refl _ _).setCell _ _ (.inl (by simp))
        go_wp2_with fail
        generalize (w7.setCell ⟨bc, 2, none⟩ (.slice xo (parL X2).length xc)) = w8 at hB8 hx3 hG8 ⊢
        have HG8 := hid hG8; have HOX := hid hown7; have HG7 := hid hg7
        have hs78 := hG8.size; have hs67 := hg7.size
        simp only [List.setIfInBounds_toArray, List.set_cons_zero, List.set_cons_succ] at hB8
        have fB8 := fld hB8; have ffB8 := fldF hB8
        clear hown7 hg7 fB7 ffB7 hB7 hx2 hG8
        refine (parseInt_c X3 w8 hl3).mono ?_
        rintro e w8' ⟨rfl, hw8⟩
        subst hw8
        have hB9 := block_cells (cur' := #[]) hB8 3 (.int .i64 (parI X3))
        have hG9 : Gr [bc] w8' (w8'.setCell ⟨bc, 3, none⟩ (.int .i64 (parI X3))) := (Gr.refl _ _).setCell _ _ (.inl (by simp))
        go_wp2_with fail
        generalize (w8'.setCell ⟨bc, 3, none⟩ (.int .i64 (parI X3))) = wL at hB9 hG9 ⊢
        simp only [List.setIfInBounds_toArray, List.set_cons_zero, List.set_cons_succ] at hB9
        have hs9 := hG9.size
        have hbz := lt_of_block HB2.out
        have HV : Hid (NumsM (fun b => New (w.heap.size + 1) wL b ∧ b ≠ bc) wL (.slice vo (parL X1).length vc) (parL X1)) := hid (HOV.out.numsM.to (S := [bc]) (((H56.out.trans (HG7.out.any)).trans HG8.out).trans hG9) (by simp) (.inl (by omega)) (by omega))
        have HA : Hid (NumsM (fun b => New (w.heap.size + 1) wL b ∧ b ≠ bc) wL (.slice xo (parL X2).length xc) (parL X2)) := hid (HOX.out.numsM.to (S := [bc]) (HG8.out.trans hG9) (by simp) (.inl (by omega)) (by omega))
        have HgL : Hid (Gr [bc] wz wL) := hid (((((Hg.out.trans HGs.out.any).trans H56.out).trans HG7.out.any).trans HG8.out).trans hG9)
        have HBL := hid hB9
        have HcL : Hid (∀ (j : Nat) x, ps[j]? = some x → wL.cell? ⟨pb, pq + j, none⟩ = some (.string ⟨x.toArray⟩)) := hid fun j x hj => by
          obtain ⟨b, o, e, hs, hc⟩ := Hpz.out j x hj
          cases e
          exact HgL.out.cell hc hs
        have hrl : (ps.drop 4).length + 4 = ps.length := by rw [List.length_drop]; omega
        have hsL : w.heap.size + 2 ≤ wL.heap.size := by have := HgL.out.size; omega
        clear hB8 hB9 hG9 fB8 ffB8 hx3 HOV HOX H56 HG5 HGs H36 HB6 HG8 HG7 H1 H2 H3 HcP Hbk HX HGk hs56 hsk5 hsrk hs78 hs67 hs9 hB6
        obtain ⟨rows, hrows⟩ : ∃ rows, rows = (ps.drop 4).map parL := ⟨_, rfl⟩
        have hrowl : rows.length + 4 = ps.length := by rw [hrows]; simp; omega
        rw [← hrows] at hC2
        have Hrows := hid hrows; have Hrowl := hid hrowl
        clear hrl hrows
        have hbL := lt_of_block HBL.out
        go_loopw [6] (fun i wr => ∃ (n j : Nat) (ov : Value), j = n + 4 ∧ n ≤ rows.length ∧ i = .int .i64 (j : Int) ∧ OwnG 1 elRowM (wL.heap.size) wr 24 ov (rows.take n) ∧ wr.heap[bc]? = some (.cells #[.int .i64 Kz, .slice vo (parL X1).length vc, .slice xo (parL X2).length xc, .int .i64 (parI X3), ov] 49 (0, 0)) ∧ Gr [bc] wL wr) (fun i _ => ps.length - (intOf i).toNat)
        case atStart => exact ⟨0, 4, _, rfl, Nat.zero_le _, rfl, by rw [List.take_zero]; exact OwnG.nil _ _ _, HBL.out, Gr.refl _ _⟩
        case round =>
          obtain ⟨n, j, ov, hj, hn, rfl, hown, hb, hg⟩ := hrel
          have Hj := hid hj
          have hsg := hg.size
          have hov : ∀ b, ov.ownBlock = some b → wL.heap.size ≤ b := fun b h => (hown.own h).1
          have hgw : Gr [] w0 wr := ((Hg1.out.trans Hz.out).step (HgL.out.trans hg) (fun i hi => .inr (by simp at hi; have := Hs0.out; omega)))
          have Hown := hid hown; have Hb := hid hb; have Hg2 := hid hg; have Hov := hid hov; have Hgw := hid hgw
          have fbc := fld hb
          have hoc : (rows.take n).length = n := by rw [List.length_take]; omega
          clear hown hb hg hov hgw
          by_cases hlt : n < rows.length
          · have hnp : j < ps.length := by omega
            obtain ⟨x, hx⟩ : ∃ x, ps[j]? = some x := ⟨_, List.getElem?_eq_getElem hnp⟩
            have hxl := Hpl.out x (List.mem_of_getElem? hx)
            have hrx : rows[n]? = some (parL x) := by rw [Hrows.out, List.getElem?_map, List.getElem?_drop, Nat.add_comm 4 n, ← hj, hx]; rfl
            have hc0 := HcL.out _ x hx
            have hcr : wr.cell? ⟨pb, pq + j, none⟩ = some (.string ⟨x.toArray⟩) := Hg2.out.cell hc0 (by simp [hpbc])
            have hpbw : pb < wL.heap.size := World.block_lt_of_cell? wL _ hc0
            have Hx := hid hrx
            clear hx hrx hc0
            have HS : Hid (∀ W, Gr (bc :: ov.ownBlock.toList) wr W → W.cell? ⟨pb, pq + j, none⟩ = some (.string ⟨x.toArray⟩)) :=
              hid fun W h => h.cell hcr (by simp; exact ⟨hpbc, fun h => by have := Hov.out _ h; omega⟩)
            have HBK : Hid (∀ W, Gr [] wr W → W.heap[bc]? = some (.cells #[.int .i64 Kz, .slice vo (parL X1).length vc, .slice xo (parL X2).length xc, .int .i64 (parI X3), ov] 49 (0, 0))) := hid fun W h => h.obj Hb.out (by simp)
            clear hj
            go_wp2_with fail
            go_region_law (first
                | (go_simp; go_at_call 61; refine (parseInts_c x _ hxl).mono ?_; rintro e w5 ⟨v5, rfl, ho5, hg5⟩; obtain ⟨uo, uc, rfl, -, -⟩ := ho5.nums' (S := []) (by simp); have hgx : Gr [] wr w5 := ((Gr.refl [] wr).drew).trans hg5; have hq5 : Gr (bc :: ov.ownBlock.toList) wr w5 := Gr.any hgx; have HGX := hid hgx; have Ho5 := hid (Own.numsM ho5); have HO5 := hid (Hown.out.gr elRowM_ok hgx (by simp)); have fb5 := fld (HBK.out _ hgx); have hs5 := hgx.size; have fa5 := fld (HBK.out _ (hgx.alloc (.cells #[.slice uo (parL x).length uc] 24))); have Hown' := hid (fun b hb => Hown.out.own (b := b) hb); clear ho5 hg5 hgx)
                | (refine step_appH rfl _ _ 47 rfl 1 elRowM elRowM_ok wL.heap.size 24 (.slice none 0 0) 24 infoR rfl (by omega) (by omega) Tryz.underlying47 ov (rows.take n) rfl (HO5.out.gr elRowM_ok ((Gr.refl [] w5).alloc _) (by simp)) w5.heap.size 1 (parL x) [.slice uo (parL x).length uc] rfl rfl (by simp [Value.oneCell']) (fun j q hj => by match j, hj with | 0, hj => (simp at hj; subst hj; exact cell_one _ _ _) | j + 1, hj => simp at hj) (fun S hS => ⟨_, rfl, Ho5.out.gr' ((Gr.refl [] w5).alloc _) (by simp) (fun b hlt hb hm => by rcases hS b hm with h | h | h; (have := hb.1; simp at this; omega); (simp at h; omega); (have := (Hown'.out b h).2; have := hb.1; simp at this; omega))⟩) (by omega) (by simp; omega) ?_; intro g7 c7 w7 hown7 hg7; have HO7 := hid hown7; have HG7 := hid hg7; have hq7 : Gr (bc :: ov.ownBlock.toList) wr w7 := Gr.trans (hq5.alloc _) (hg7.sub (fun k _ hk => by simp at hk ⊢; exact .inr hk)); have hr7 := hg7.obj (HBK.out _ (HGX.out.alloc _)) (fun hm => by have := Hov.out bc (by simpa using hm); omega); have Hr7 := hid hr7; have fb7 := fld hr7; have ff7 := fldF hr7; clear hown7 hg7 hr7))
            all_goals
              go_wp2_with fail
              refine ⟨⟨n + 1, j + 1, .slice (some ⟨g7, 0, none⟩) (n + 1) c7, by have := Hj.out; omega, by omega, by go_num, ?_, ?_, ?_⟩, by simp [intOf]; omega⟩
              · rw [List.take_add_one, Hx.out]
                have := HO7.out.gr elRowM_ok (Gr.cell1 [bc] w7 ⟨bc, 4, none⟩ (.slice (some ⟨g7, 0, none⟩) (n + 1) c7) (by simp)) (by simp; omega)
                rw [hoc] at this
                exact this
              · have := block_cells (cur' := #[]) Hr7.out 4 (.slice (some ⟨g7, 0, none⟩) (n + 1) c7)
                simpa using this
              · exact (((Hg2.out.trans (Gr.any HGX.out)).alloc _).step HG7.out (fun i hi => .inr (Hov.out _ (by simpa using hi)))).setCell _ _ (.inl (by simp))
          · have e1 : n = rows.length := by omega
            subst e1
            rw [List.take_length] at Hown
            have Hrm := hid (OwnG.rowsM Hown.out)
            obtain ⟨oo, oc, rfl, ho1, ho2, -⟩ := Hown.out.slice
            have hrr : wr.heap[w.heap.size]? = some (.cells #[.int .i64 0, .slice none 0 0, .slice none 0 0, .int .i64 0, .slice none 0 0] 49 (0, 0)) := Hgw.out.obj Hb0.out (by simp)
            have Hrr := hid hrr; have frr := fld hrr; have ffr := fldF hrr
            have hjn : decide ((j : Int) < (ps.length : Int)) = false := decide_eq_false (by omega)
            have hjn2 : decide (j < ps.length) = false := decide_eq_false (by omega)
            clear hrr hj
            go_wp2_with fail
            have h5 := sets5 _ _ _ _ _ (.int .i64 Kz) (.slice vo (parL X1).length vc) (.slice xo (parL X2).length xc) (.int .i64 (parI X3)) (.slice oo rows.length oc) Hrr.out
            have hG := setsG (w := wr) w.heap.size (.int .i64 Kz) (.slice vo (parL X1).length vc) (.slice xo (parL X2).length xc) (.int .i64 (parI X3)) (.slice oo rows.length oc)
            generalize (((((wr.setCell ⟨w.heap.size, 0, none⟩ (.int .i64 Kz)).setCell ⟨w.heap.size, 1, none⟩ (.slice vo (parL X1).length vc)).setCell ⟨w.heap.size, 2, none⟩ (.slice xo (parL X2).length xc)).setCell ⟨w.heap.size, 3, none⟩ (.int .i64 (parI X3))).setCell ⟨w.heap.size, 4, none⟩ (.slice oo rows.length oc)) = WE at h5 hG ⊢
            have flE := fld h5
            have hsE := hG.size
            refine bodyPost_ret (v := .agg #[.int .i64 Kz, .slice vo (parL X1).length vc, .slice xo (parL X2).length xc, .int .i64 (parI X3), .slice oo rows.length oc]) ?_ rfl ?_
            · simp [results, Tryz.results28, go_sem, flE]
            · rw [hC2.out]
              refine ⟨_, _, _, _, _, _, rfl, ⟨_, _, _, rfl, ?_, ?_, ?_⟩, (Hg0.out.trans Hgw.out).step hG (fun i hi => .inr (by simp at hi; omega))⟩
              · exact ((HV.out.gr' (M' := New (w.heap.size + 1) wr) Hg2.out (fun b hb hm => hm.2 (by simpa using hb)) (fun b hl hm => ⟨by have := hm.1.1; omega, by have := hm.1.2; omega⟩)).gr' (M' := New w.heap.size WE) hG (fun b hb hm => by have := hm.1; simp at hb; omega) (fun b hl hm => ⟨by have := hm.1; omega, by have := hm.2; omega⟩))
              · exact ((HA.out.gr' (M' := New (w.heap.size + 1) wr) Hg2.out (fun b hb hm => hm.2 (by simpa using hb)) (fun b hl hm => ⟨by have := hm.1.1; omega, by have := hm.1.2; omega⟩)).gr' (M' := New w.heap.size WE) hG (fun b hb hm => by have := hm.1; simp at hb; omega) (fun b hl hm => ⟨by have := hm.1; omega, by have := hm.2; omega⟩))
              · exact (Hrm.out.gr' (M' := New w.heap.size WE) hG (fun b hb hm => by have := hm.1; simp at hb; omega) (fun b hl hm => ⟨by have := hm.1; omega, by have := hm.2; omega⟩))
end Go.Proofs.YtmonhpoogfdpoaaGreatDoor
