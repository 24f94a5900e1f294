/-
  Walks: the generators of Minimize's and LowerBound's arguments.
-/
import Derived.Test.YtilcicoekpmelaaGreatDoorPG14
set_option linter.unusedVariables false
set_option linter.unusedSimpArgs false
namespace Go.Proofs.YtilcicoekpmelaaGreatDoor
open Go.RowKit


set_option maxRecDepth 100000 in
set_option maxHeartbeats 4000000 in
theorem DrawMinimize_s (S : List Nat) (v : Value) (bs : List Int) (w : World) (ao : Option Addr) (cap : Nat) (hv : v = .slice ao bs.length cap) (hlen : bs.length ≤ 9223372036854775807) (hcap : bs.length ≤ cap) (hc : Cells [] w .u8 ao bs) (hb : ∀ b ∈ bs, 0 ≤ b ∧ b ≤ 255) (hS : ∀ b ∈ S, b < w.heap.size) :
    Calls Tryz.prog 12 #[v] w fun e w' => ∃ (m : Mod) (mv ov : Value) (o : List Int), e = .returned (.tuple #[mv, ov]) ∧ ModV S w' mv m ∧ m.Small ∧ (1 ≤ m.doms.length ∧ m.doms.length ≤ 4) ∧ Nums S w' .i64 ov o ∧ (o.length ≤ 5 ∧ ∀ y ∈ o, -9 ≤ y ∧ y ≤ 10) ∧ Gr [] w w' := by
  subst hv
  have Hc := hid hc; have Hb := hid hb; clear hc hb
  have hg0 : Gr [] w (w.alloc (.cells #[.slice none 0 0, .slice none 0 0] 26)) := (Gr.refl _ _).alloc _
  have hr0 : (w.alloc (.cells #[.slice none 0 0, .slice none 0 0] 26)).heap[w.heap.size]? = some (.cells #[.slice none 0 0, .slice none 0 0] 26 (0, 0)) := heap_alloc_new _ _
  have Hr0 := hid hr0; have Hg0 := hid hg0; clear hr0 hg0
  go_enter Tryz.func12, Tryz.ntmps12
  go_wp2_with fail
  have hcall := newReader_c _ bs _ ao cap rfl hlen hcap (Hc.out.gr Hg0.out) Hb.out
  (with_reducible refine hcall.mono ?_)
  clear hcall
  rintro e w1 ⟨⟨R, cs, rfl, hR, hrd1⟩, hg1⟩
  go_wp2_with fail
  have hcall := anyModel_c R cs 0 _ hrd1 (by omega)
  (with_reducible refine hcall.mono ?_)
  clear hcall
  rintro e w2 ⟨m, M, bo, ac, co, cc, rfl, hown, hdM, ⟨hM1, hM2⟩, hcs, ⟨hd1, hd4⟩, hc4, htv, hrd2, hg2⟩
  simp only [World.size_alloc] at hR
  have hRw1 := hrd1.lt
  have hr2 := hg2.obj (hg1.obj Hr0.out (by simp)) (by simp; omega)
  have hs01 := hg1.size
  simp only [World.size_alloc] at hs01
  obtain ⟨T, hT⟩ : ∃ T, T = S ++ [w.heap.size, R] := ⟨_, rfl⟩
  have hTw1 : ∀ b ∈ T, b < w1.heap.size := by
    intro b hb
    rw [hT] at hb
    rcases List.mem_append.1 hb with h | h
    · have := hS b h; omega
    · simp at h; omega
  have hmv := ModPost.modv (S := T) (fun b hb => .inl (hTw1 b hb)) hM1 hown hcs
  have HTw : Hid (∀ b ∈ T, b < w2.heap.size) := hid (fun b hb => Nat.lt_of_lt_of_le (hTw1 b hb) hg2.size)
  have HTR : Hid (R ∈ T ∧ w.heap.size ∈ T ∧ ∀ b ∈ S, b ∈ T) := hid (by rw [hT]; exact ⟨by simp, by simp, fun b hb => List.mem_append.2 (.inl hb)⟩)
  clear hT hTw1
  have hms := mod_small hd4 hc4 htv
  have HG : Hid (Gr [] w w2) := hid ((Hg0.out.trans hg1).step hg2 (fun i hi => .inr (by simp at hi; omega)))
  have hRl := hrd2.lt
  have ha3 : Gr [] w2 (w2.alloc (.cells #[.slice bo m.doms.length ac, .slice co m.cons.length cc] 26)) := (Gr.refl _ _).alloc _
  have hb3 : (w2.alloc (.cells #[.slice bo m.doms.length ac, .slice co m.cons.length cc] 26)).heap[w2.heap.size]? = some (.cells #[.slice bo m.doms.length ac, .slice co m.cons.length cc] 26 (0, 0)) := heap_alloc_new _ _
  have hwl := lt_of_block hr2
  have hr3 := ha3.obj hr2 (by simp)
  have hs3 : w2.heap.size < (w2.alloc (.cells #[.slice bo m.doms.length ac, .slice co m.cons.length cc] 26)).heap.size := by simp
  have Hmv := hid (hmv.gr ha3.any); have Hms := hid hms; have Hr3 := hid hr3; have Hrd3 := hid (hrd2.gr ha3); have Hb3 := hid hb3
  have HG3 := hid (HG.out.trans ha3)
  have fl3 := fld hb3
  clear hown hcs htv hr2 hg1 hg2 hrd1 hrd2 hmv hms ha3 hb3 HG hdM hr3
  go_wp2_with fail
  generalize hW3 : w2.alloc (.cells #[.slice bo m.doms.length ac, .slice co m.cons.length cc] 26) = w3 at *
  clear hW3
  have flr := fld Hr3.out; have ffr := fldF Hr3.out
  go_region_law (first | (go_simp; go_at_call 37; refine (objective_c R cs (0 + 2000) m.doms.length _ (Hrd3.out.gr ((Gr.refl [] _).drew)) (by omega) (by omega)).mono ?_; rintro e w6 ⟨v6, o6, rfl, hown6, ⟨hl6, hv6⟩, hrd6, hg6⟩; have HS6 : Hid (Gr [R] w3 w6) := hid (Gr.trans (a := w3) (Gr.any ((Gr.refl [] _).drew)) hg6); have hn6 := hown6.nums' (S := T) (by intro b hb; have := HTw.out b hb; simp; omega); obtain ⟨vo6, vc6, rfl, -, -⟩ := id hn6; have Hn6 := hid hn6; have Hr6 := hid (HS6.out.obj Hr3.out (by simp; omega)); have fl6 := fld (HS6.out.obj Hb3.out (by simp; omega)); have flr6 := fld Hr6.out; have ffr6 := fldF Hr6.out; clear hg6 hrd6 hown6 hn6))
  all_goals
    go_wp2_with fail
    have hbE := block_cells (cur' := #[]) (block_cells (cur' := #[]) Hr6.out 0 (.slice bo m.doms.length ac)) 1 (.slice co m.cons.length cc)
    have flE := fld hbE
    refine bodyPost_ret (v := .tuple #[.agg #[.slice bo m.doms.length ac, .slice co m.cons.length cc], .slice vo6 o6.length vc6]) ?_ rfl ?_
    · simp [results, Tryz.results12, go_sem, flE]
    · have hgE1 : Gr [w.heap.size] w6 ((w6.setCell ⟨w.heap.size, 0, none⟩ (.slice bo m.doms.length ac)).setCell ⟨w.heap.size, 1, none⟩ (.slice co m.cons.length cc)) :=
        ((Gr.refl _ _).setCell _ _ (.inl (by simp))).setCell _ _ (.inl (by simp))
      have hgE : Gr T w6 ((w6.setCell ⟨w.heap.size, 0, none⟩ (.slice bo m.doms.length ac)).setCell ⟨w.heap.size, 1, none⟩ (.slice co m.cons.length cc)) :=
        ((Gr.refl _ _).setCell _ _ (.inl HTR.out.2.1)).setCell _ _ (.inl HTR.out.2.1)
      have hgF : Gr T w3 ((w6.setCell ⟨w.heap.size, 0, none⟩ (.slice bo m.doms.length ac)).setCell ⟨w.heap.size, 1, none⟩ (.slice co m.cons.length cc)) :=
        (HS6.out.sub (fun k _ hk => by simp at hk; rw [hk]; exact HTR.out.1)).trans hgE
      exact ⟨m, _, _, o6, rfl, (Hmv.out.gr hgF).sub (fun k _ hk => HTR.out.2.2 k hk), Hms.out, ⟨hd1, hd4⟩, (Hn6.out.gr hgE).sub (fun k _ hk => HTR.out.2.2 k hk), ⟨by omega, hv6⟩, (HG3.out.step HS6.out (fun i hi => .inr (by simp at hi; omega))).step hgE1 (fun i hi => .inr (by simp at hi; omega))⟩


set_option maxRecDepth 100000 in
theorem DrawLowerBound_c (v : Value) (bs : List Int) (w : World) (ao : Option Addr) (cap : Nat) (hv : v = .slice ao bs.length cap) (hlen : bs.length ≤ 9223372036854775807) (hcap : bs.length ≤ cap) (hc : Cells [] w .u8 ao bs) (hb : ∀ b ∈ bs, 0 ≤ b ∧ b ≤ 255) :
    Calls Tryz.prog 5 #[v] w fun e w' => ∃ (m : Mod) (mv ov : Value) (o : List Int), e = .returned (.tuple #[mv, ov]) ∧ ModV [] w' mv m ∧ m.Small ∧ (1 ≤ m.doms.length ∧ m.doms.length ≤ 4) ∧ Nums [] w' .i64 ov o ∧ (o.length ≤ 5 ∧ ∀ y ∈ o, -9 ≤ y ∧ y ≤ 10) ∧ Gr [] w w' := by
  subst hv
  have Hc := hid hc; have Hb := hid hb; clear hc hb
  have hg0 : Gr [] w (w.alloc (.cells #[.slice none 0 0, .slice none 0 0] 26)) := (Gr.refl _ _).alloc _
  have hr0 : (w.alloc (.cells #[.slice none 0 0, .slice none 0 0] 26)).heap[w.heap.size]? = some (.cells #[.slice none 0 0, .slice none 0 0] 26 (0, 0)) := heap_alloc_new _ _
  have Hr0 := hid hr0; have Hg0 := hid hg0; clear hr0 hg0
  go_enter Tryz.func5, Tryz.ntmps5
  go_wp2_with fail
  have hcall := DrawMinimize_s [w.heap.size] _ bs _ ao cap rfl hlen hcap (Hc.out.gr Hg0.out) Hb.out (by intro b hb; simp at hb; simp; omega)
  (with_reducible refine hcall.mono ?_)
  clear hcall
  rintro e w1 ⟨m, mv, ov, O, rfl, hmv, hms, hd, hO, hOl, hg1⟩
  have Hmv := hid hmv; have HO := hid hO; have HOl := hid hOl; have Hr1 := hid (hg1.obj Hr0.out (by simp)); have HG1 := hid (Hg0.out.trans hg1)
  obtain ⟨xo, xc, co, cc, rfl⟩ := hmv.slices
  obtain ⟨oo, oc, rfl, -, -⟩ := hO
  have flr := fld Hr1.out; have ffr := fldF Hr1.out
  clear hmv hg1 hOl
  go_wp2_with fail
  have hbE := block_cells (cur' := #[]) (block_cells (cur' := #[]) Hr1.out 0 (.slice xo m.doms.length xc)) 1 (.slice co m.cons.length cc)
  have flE := fld hbE
  refine bodyPost_ret (v := .tuple #[.agg #[.slice xo m.doms.length xc, .slice co m.cons.length cc], .slice oo O.length oc]) ?_ rfl ?_
  · simp [results, Tryz.results5, go_sem, flE]
  · have hgE : Gr [w.heap.size] w1 ((w1.setCell ⟨w.heap.size, 0, none⟩ (.slice xo m.doms.length xc)).setCell ⟨w.heap.size, 1, none⟩ (.slice co m.cons.length cc)) :=
      ((Gr.refl _ _).setCell _ _ (.inl (by simp))).setCell _ _ (.inl (by simp))
    exact ⟨m, _, _, O, rfl, (Hmv.out.gr hgE).sub0, hms, hd, (HO.out.gr hgE).sub (by simp), HOl.out, HG1.out.step hgE (fun i hi => .inr (by simp at hi; omega))⟩

end Go.Proofs.YtilcicoekpmelaaGreatDoor
