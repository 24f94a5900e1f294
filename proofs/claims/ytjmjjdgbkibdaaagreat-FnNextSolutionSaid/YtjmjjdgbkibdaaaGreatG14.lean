/-
  Walks of generators that return a model and lists of numbers.
-/
import Derived.Test.YtjmjjdgbkibdaaaGreatG13
import Derived.Test.YtjmjjdgbkibdaaaGreatO
import Derived.Test.YtjmjjdgbkibdaaaGreatAs
set_option linter.unusedVariables false
set_option linter.unusedSimpArgs false
namespace Go.Proofs.YtjmjjdgbkibdaaaGreat
open Go.RowKit


set_option maxRecDepth 100000 in
set_option maxHeartbeats 4000000 in
theorem DrawMinimize_c (v : Value) (bs : List Int) (w : World) (ao : Option Addr) (cap : Nat) (hv : v = .slice ao bs.length cap) (hlen : bs.length ≤ 9223372036854775807) (hcap : bs.length ≤ cap) (hc : Cells [] w .u8 ao bs) (hb : ∀ b ∈ bs, 0 ≤ b ∧ b ≤ 255) :
    Calls Tryz.prog 38 #[v] w fun e w' => ∃ (m : Mod) (mv ov : Value) (o : List Int), e = .returned (.tuple #[mv, ov]) ∧ ModV [] w' mv m ∧ m.Small ∧ (1 ≤ m.doms.length ∧ m.doms.length ≤ 4) ∧ Nums [] w' .i64 ov o ∧ (o.length ≤ 5 ∧ ∀ y ∈ o, -9 ≤ y ∧ y ≤ 10) ∧ Gr [] w w' := by
  subst hv
  have Hc := hid hc; have Hb := hid hb; clear hc hb
  have hg0 : Gr [] w (w.alloc (.cells #[.slice none 0 0, .slice none 0 0] 31)) := (Gr.refl _ _).alloc _
  have hr0 : (w.alloc (.cells #[.slice none 0 0, .slice none 0 0] 31)).heap[w.heap.size]? = some (.cells #[.slice none 0 0, .slice none 0 0] 31 (0, 0)) := heap_alloc_new _ _
  have Hr0 := hid hr0; have Hg0 := hid hg0; clear hr0 hg0
  go_enter Tryz.func38, Tryz.ntmps38
  go_wp2_with fail
  have hcall := newReader_c _ bs _ ao cap rfl hlen hcap (Hc.out.gr Hg0.out) Hb.out
  (with_reducible refine hcall.mono ?_)
  clear hcall
  rintro e w1 ⟨⟨R, cs, rfl, hR, hrd1⟩, hg1⟩
  go_wp2_with fail
  have hcall := anyModel_c R cs 0 _ hrd1 (by omega)
  (with_reducible refine hcall.mono ?_)
  clear hcall
  rintro e w2 ⟨m, M, bo, ac, co, cc, rfl, hown, hdM, ⟨hM1, hM2⟩, hcs, ⟨hd1, hd4⟩, hc4, htv, hrd2, hg2⟩
  simp only [World.size_alloc] at hR
  have hRw1 := hrd1.lt
  have hr2 := hg2.obj (hg1.obj Hr0.out (by simp)) (by simp; omega)
  have hmv := ModPost.modv (S := [w.heap.size, w2.heap.size, R]) (by have := hg1.size; simp at this ⊢; omega) hM1 hown hcs
  have hms := mod_small hd4 hc4 htv
  have HG : Hid (Gr [] w w2) := hid ((Hg0.out.trans hg1).step hg2 (fun i hi => .inr (by simp at hi; omega)))
  have hRl := hrd2.lt
  have ha3 : Gr [] w2 (w2.alloc (.cells #[.slice bo m.doms.length ac, .slice co m.cons.length cc] 31)) := (Gr.refl _ _).alloc _
  have hb3 : (w2.alloc (.cells #[.slice bo m.doms.length ac, .slice co m.cons.length cc] 31)).heap[w2.heap.size]? = some (.cells #[.slice bo m.doms.length ac, .slice co m.cons.length cc] 31 (0, 0)) := heap_alloc_new _ _
  have hwl := lt_of_block hr2
  have hr3 := ha3.obj hr2 (by simp)
  have hs3 : w2.heap.size < (w2.alloc (.cells #[.slice bo m.doms.length ac, .slice co m.cons.length cc] 31)).heap.size := by simp
  have Hmv := hid (hmv.gr ha3.any); have Hms := hid hms; have Hr3 := hid hr3; have Hrd3 := hid (hrd2.gr ha3); have Hb3 := hid hb3
  have HG3 := hid (HG.out.trans ha3)
  have fl3 := fld hb3
  clear hown hcs htv hr2 hg1 hg2 hrd1 hrd2 hmv hms ha3 hb3 HG hdM hr3
  go_wp2_with fail
  generalize hW3 : w2.alloc (.cells #[.slice bo m.doms.length ac, .slice co m.cons.length cc] 31) = w3 at *
  clear hW3
  have flr := fld Hr3.out; have ffr := fldF Hr3.out
  go_region_law (first | (go_simp; go_at_call 110; refine (objective_c R cs (0 + 2000) m.doms.length _ (Hrd3.out.gr ((Gr.refl [] _).drew)) (by omega) (by omega)).mono ?_; rintro e w6 ⟨v6, o6, rfl, hown6, ⟨hl6, hv6⟩, hrd6, hg6⟩; have HS6 : Hid (Gr [R] w3 w6) := hid (Gr.trans (a := w3) (Gr.any ((Gr.refl [] _).drew)) hg6); have hn6 := hown6.nums' (S := [w.heap.size, w2.heap.size, R]) (by intro b hb; simp at hb ⊢; omega); obtain ⟨vo6, vc6, rfl, -, -⟩ := id hn6; have Hn6 := hid hn6; have Hr6 := hid (HS6.out.obj Hr3.out (by simp; omega)); have fl6 := fld (HS6.out.obj Hb3.out (by simp; omega)); have flr6 := fld Hr6.out; have ffr6 := fldF Hr6.out; clear hg6 hrd6 hown6 hn6))
  all_goals
    go_wp2_with fail
    have hbE := block_cells (cur' := #[]) (block_cells (cur' := #[]) Hr6.out 0 (.slice bo m.doms.length ac)) 1 (.slice co m.cons.length cc)
    have flE := fld hbE
    refine bodyPost_ret (v := .tuple #[.agg #[.slice bo m.doms.length ac, .slice co m.cons.length cc], .slice vo6 o6.length vc6]) ?_ rfl ?_
    · simp [results, Tryz.results38, go_sem, flE]
    · have hgE : Gr [w.heap.size, w2.heap.size, R] w6 ((w6.setCell ⟨w.heap.size, 0, none⟩ (.slice bo m.doms.length ac)).setCell ⟨w.heap.size, 1, none⟩ (.slice co m.cons.length cc)) :=
        ((Gr.refl _ _).setCell _ _ (.inl (by simp))).setCell _ _ (.inl (by simp))
      have hgF : Gr [w.heap.size, w2.heap.size, R] w3 ((w6.setCell ⟨w.heap.size, 0, none⟩ (.slice bo m.doms.length ac)).setCell ⟨w.heap.size, 1, none⟩ (.slice co m.cons.length cc)) :=
        (HS6.out.sub (fun k _ hk => by simp at hk ⊢; exact .inr (.inr hk))).trans hgE
      exact ⟨m, _, _, o6, rfl, (Hmv.out.gr hgF).sub0, Hms.out, ⟨hd1, hd4⟩, (Hn6.out.gr hgE).sub (by simp), ⟨by omega, hv6⟩, HG3.out.step hgF (fun i hi => .inr (by simp at hi; omega))⟩


set_option maxRecDepth 100000 in
set_option maxHeartbeats 4000000 in
theorem DrawParetoFront_c (v : Value) (bs : List Int) (w : World) (ao : Option Addr) (cap : Nat) (hv : v = .slice ao bs.length cap) (hlen : bs.length ≤ 9223372036854775807) (hcap : bs.length ≤ cap) (hc : Cells [] w .u8 ao bs) (hb : ∀ b ∈ bs, 0 ≤ b ∧ b ≤ 255) :
    Calls Tryz.prog 43 #[v] w fun e w' => ∃ (m : Mod) (mv av ov : Value) (a o : List Int), e = .returned (.tuple #[mv, av, ov]) ∧ ModV [] w' mv m ∧ m.Small ∧ (1 ≤ m.doms.length ∧ m.doms.length ≤ 4) ∧ Nums [] w' .i64 av a ∧ Nums [] w' .i64 ov o ∧ (a.length ≤ 5 ∧ ∀ y ∈ a, -9 ≤ y ∧ y ≤ 10) ∧ (o.length ≤ 5 ∧ ∀ y ∈ o, -9 ≤ y ∧ y ≤ 10) ∧ Gr [] w w' := by
  subst hv
  have Hc := hid hc; have Hb := hid hb; clear hc hb
  have hg0 : Gr [] w (w.alloc (.cells #[.slice none 0 0, .slice none 0 0] 31)) := (Gr.refl _ _).alloc _
  have hr0 : (w.alloc (.cells #[.slice none 0 0, .slice none 0 0] 31)).heap[w.heap.size]? = some (.cells #[.slice none 0 0, .slice none 0 0] 31 (0, 0)) := heap_alloc_new _ _
  have Hr0 := hid hr0; have Hg0 := hid hg0; clear hr0 hg0
  go_enter Tryz.func43, Tryz.ntmps43
  go_wp2_with fail
  have hcall := newReader_c _ bs _ ao cap rfl hlen hcap (Hc.out.gr Hg0.out) Hb.out
  (with_reducible refine hcall.mono ?_)
  clear hcall
  rintro e w1 ⟨⟨R, cs, rfl, hR, hrd1⟩, hg1⟩
  go_wp2_with fail
  have hcall := smallModel_c R cs 0 _ hrd1 (by omega)
  (with_reducible refine hcall.mono ?_)
  clear hcall
  rintro e w2 ⟨m, M, bo, ac, co, cc, rfl, hown, hdM, ⟨hM1, hM2⟩, hcs, ⟨hd1, hd4⟩, hc4, htv, hrd2, hg2⟩
  simp only [World.size_alloc] at hR
  have hRw1 := hrd1.lt
  have hr2 := hg2.obj (hg1.obj Hr0.out (by simp)) (by simp; omega)
  have hmv := ModPost.modv (S := [w.heap.size, w2.heap.size, R]) (by have := hg1.size; simp at this ⊢; omega) hM1 hown hcs
  have hms := mod_small hd4 hc4 htv
  have HG : Hid (Gr [] w w2) := hid ((Hg0.out.trans hg1).step hg2 (fun i hi => .inr (by simp at hi; omega)))
  have hRl := hrd2.lt
  have ha3 : Gr [] w2 (w2.alloc (.cells #[.slice bo m.doms.length ac, .slice co m.cons.length cc] 31)) := (Gr.refl _ _).alloc _
  have hb3 : (w2.alloc (.cells #[.slice bo m.doms.length ac, .slice co m.cons.length cc] 31)).heap[w2.heap.size]? = some (.cells #[.slice bo m.doms.length ac, .slice co m.cons.length cc] 31 (0, 0)) := heap_alloc_new _ _
  have hwl := lt_of_block hr2
  have hr3 := ha3.obj hr2 (by simp)
  have hs3 : w2.heap.size < (w2.alloc (.cells #[.slice bo m.doms.length ac, .slice co m.cons.length cc] 31)).heap.size := by simp
  have Hmv := hid (hmv.gr ha3.any); have Hms := hid hms; have Hr3 := hid hr3; have Hrd3 := hid (hrd2.gr ha3); have Hb3 := hid hb3
  have HG3 := hid (HG.out.trans ha3)
  have fl3 := fld hb3
  clear hown hcs htv hr2 hg1 hg2 hrd1 hrd2 hmv hms ha3 hb3 HG hdM hr3
  go_wp2_with fail
  generalize hW3 : w2.alloc (.cells #[.slice bo m.doms.length ac, .slice co m.cons.length cc] 31) = w3 at *
  clear hW3
  have hcall := objective_c R cs (0 + 2000) m.doms.length _ Hrd3.out (by omega) (by omega)
  (with_reducible refine hcall.mono ?_)
  clear hcall
  rintro e w4 ⟨v4, a, rfl, hown4, ⟨hla, hva⟩, hrd4, hg4⟩
  have han := hown4.nums' (S := [w.heap.size, w2.heap.size, R]) (by intro b hb; simp at hb; omega)
  obtain ⟨vo4, vc4, rfl, -, -⟩ := id han
  have Hna := hid han
  have HG4 : Hid (Gr [] w w4) := hid (HG3.out.step hg4 (fun i hi => .inr (by simp at hi; omega)))
  have hgs4 : Gr [w.heap.size, w2.heap.size, R] w3 w4 := hg4.sub (fun k _ hk => by simp at hk ⊢; exact .inr (.inr hk))
  have Hmv4 := hid (Hmv.out.gr hgs4); have Hr4 := hid (hg4.obj Hr3.out (by simp; omega)); have Hb4 := hid (hg4.obj Hb3.out (by simp; omega)); have Hrd4 := hid hrd4
  have fl4 := fld Hb4.out
  have hs4 : w2.heap.size < w4.heap.size := lt_of_block Hb4.out
  have Hva := hid hva
  clear hgs4 hg4 hrd4 hown4 fl3 Hmv Hr3 Hrd3 Hb3 HG3 han hva
  go_wp2_with fail
  have flr := fld Hr4.out; have ffr := fldF Hr4.out
  go_region_law (first | (go_simp; go_at_call 110; refine (objective_c R cs (0 + 2000 + m.doms.length + 1) m.doms.length _ (Hrd4.out.gr ((Gr.refl [] _).drew)) (by omega) (by omega)).mono ?_; rintro e w6 ⟨v6, o6, rfl, hown6, ⟨hl6, hv6⟩, hrd6, hg6⟩; have HS6 : Hid (Gr [R] w4 w6) := hid (Gr.trans (a := w4) (Gr.any ((Gr.refl [] _).drew)) hg6); have hn6 := hown6.nums' (S := [w.heap.size, w2.heap.size, R]) (by intro b hb; simp at hb ⊢; omega); obtain ⟨vo6, vc6, rfl, -, -⟩ := id hn6; have Hn6 := hid hn6; have Hr6 := hid (HS6.out.obj Hr4.out (by simp; omega)); have fl6 := fld (HS6.out.obj Hb4.out (by simp; omega)); have flr6 := fld Hr6.out; have ffr6 := fldF Hr6.out; clear hg6 hrd6 hown6 hn6))
  all_goals
    go_wp2_with fail
    have hbE := block_cells (cur' := #[]) (block_cells (cur' := #[]) Hr6.out 0 (.slice bo m.doms.length ac)) 1 (.slice co m.cons.length cc)
    have flE := fld hbE
    refine bodyPost_ret (v := .tuple #[.agg #[.slice bo m.doms.length ac, .slice co m.cons.length cc], .slice vo4 a.length vc4, .slice vo6 o6.length vc6]) ?_ rfl ?_
    · simp [results, Tryz.results43, go_sem, flE]
    · have hgE : Gr [w.heap.size, w2.heap.size, R] w6 ((w6.setCell ⟨w.heap.size, 0, none⟩ (.slice bo m.doms.length ac)).setCell ⟨w.heap.size, 1, none⟩ (.slice co m.cons.length cc)) :=
        ((Gr.refl _ _).setCell _ _ (.inl (by simp))).setCell _ _ (.inl (by simp))
      have hgF : Gr [w.heap.size, w2.heap.size, R] w4 ((w6.setCell ⟨w.heap.size, 0, none⟩ (.slice bo m.doms.length ac)).setCell ⟨w.heap.size, 1, none⟩ (.slice co m.cons.length cc)) :=
        (HS6.out.sub (fun k _ hk => by simp at hk ⊢; exact .inr (.inr hk))).trans hgE
      exact ⟨m, _, _, _, a, o6, rfl, (Hmv4.out.gr hgF).sub0, Hms.out, ⟨hd1, hd4⟩, (Hna.out.gr hgF).sub (by simp), (Hn6.out.gr hgE).sub (by simp), ⟨by omega, Hva.out⟩, ⟨by omega, hv6⟩, HG4.out.step hgF (fun i hi => .inr (by simp at hi; omega))⟩


set_option maxRecDepth 100000 in
set_option maxHeartbeats 4000000 in
theorem DrawIsSolution_s (v : Value) (bs : List Int) (w : World) (ao : Option Addr) (cap : Nat) (hv : v = .slice ao bs.length cap) (hlen : bs.length ≤ 9223372036854775807) (hcap : bs.length ≤ cap) (hc : Cells [] w .u8 ao bs) (hb : ∀ b ∈ bs, 0 ≤ b ∧ b ≤ 255) :
    Calls Tryz.prog 123 #[v] w fun e w' => ∃ (m : Mod) (mv ov : Value) (o : List Int), e = .returned (.tuple #[mv, ov]) ∧ (∀ S : List Nat, (∀ b ∈ S, b < w.heap.size) → ModV S w' mv m ∧ Nums S w' .i64 ov o) ∧ m.Small ∧ (1 ≤ m.doms.length ∧ m.doms.length ≤ 4) ∧ (o.length ≤ 5 ∧ ∀ y ∈ o, 0 ≤ y ∧ y ≤ 6) ∧ Gr [] w w' := by
  subst hv
  have Hc := hid hc; have Hb := hid hb; clear hc hb
  have hg0 : Gr [] w (w.alloc (.cells #[.slice none 0 0, .slice none 0 0] 31)) := (Gr.refl _ _).alloc _
  have hr0 : (w.alloc (.cells #[.slice none 0 0, .slice none 0 0] 31)).heap[w.heap.size]? = some (.cells #[.slice none 0 0, .slice none 0 0] 31 (0, 0)) := heap_alloc_new _ _
  have Hr0 := hid hr0; have Hg0 := hid hg0; clear hr0 hg0
  go_enter Tryz.func123, Tryz.ntmps123
  go_wp2_with fail
  have hcall := newReader_c _ bs _ ao cap rfl hlen hcap (Hc.out.gr Hg0.out) Hb.out
  (with_reducible refine hcall.mono ?_)
  clear hcall
  rintro e w1 ⟨⟨R, cs, rfl, hR, hrd1⟩, hg1⟩
  go_wp2_with fail
  have hcall := anyModel_c R cs 0 _ hrd1 (by omega)
  (with_reducible refine hcall.mono ?_)
  clear hcall
  rintro e w2 ⟨m, M, bo, ac, co, cc, rfl, hown, hdM, ⟨hM1, hM2⟩, hcs, ⟨hd1, hd4⟩, hc4, htv, hrd2, hg2⟩
  simp only [World.size_alloc] at hR
  have hRw1 := hrd1.lt
  have hr2 := hg2.obj (hg1.obj Hr0.out (by simp)) (by simp; omega)
  have hmv := ModPost.modv (S := [w.heap.size, w2.heap.size, R]) (by have := hg1.size; simp at this ⊢; omega) hM1 hown hcs
  have hmvS : ∀ S : List Nat, (∀ b ∈ S, b < w.heap.size) → ModV (S ++ [w.heap.size, w2.heap.size, R]) w2 _ m := fun S hS => ModPost.modv (S := S ++ [w.heap.size, w2.heap.size, R]) (by
    intro b hb
    have := hg1.size
    simp at this
    rcases List.mem_append.1 hb with h | h
    · have := hS b h; first | omega | (simp; omega)
    · simp at h; first | omega | (simp; omega)) hM1 hown hcs
  have hms := mod_small hd4 hc4 htv
  have HG : Hid (Gr [] w w2) := hid ((Hg0.out.trans hg1).step hg2 (fun i hi => .inr (by simp at hi; omega)))
  have hRl := hrd2.lt
  have ha3 : Gr [] w2 (w2.alloc (.cells #[.slice bo m.doms.length ac, .slice co m.cons.length cc] 31)) := (Gr.refl _ _).alloc _
  have hb3 : (w2.alloc (.cells #[.slice bo m.doms.length ac, .slice co m.cons.length cc] 31)).heap[w2.heap.size]? = some (.cells #[.slice bo m.doms.length ac, .slice co m.cons.length cc] 31 (0, 0)) := heap_alloc_new _ _
  have hwl := lt_of_block hr2
  have hr3 := ha3.obj hr2 (by simp)
  have hs3 : w2.heap.size < (w2.alloc (.cells #[.slice bo m.doms.length ac, .slice co m.cons.length cc] 31)).heap.size := by simp
  have Hmv := hid (hmv.gr ha3.any); have HmvS : Hid (∀ S : List Nat, (∀ b ∈ S, b < w.heap.size) → ModV (S ++ [w.heap.size, w2.heap.size, R]) (w2.alloc (.cells #[.slice bo m.doms.length ac, .slice co m.cons.length cc] 31)) _ m) := hid (fun S hS => (hmvS S hS).gr ha3.any); have Hms := hid hms; have Hr3 := hid hr3; have Hrd3 := hid (hrd2.gr ha3); have Hb3 := hid hb3
  have HG3 := hid (HG.out.trans ha3)
  have fl3 := fld hb3
  clear hown hcs htv hr2 hg1 hg2 hrd1 hrd2 hmv hmvS hms ha3 hb3 HG hdM hr3
  go_wp2_with fail
  generalize hW3 : w2.alloc (.cells #[.slice bo m.doms.length ac, .slice co m.cons.length cc] 31) = w3 at *
  clear hW3
  have flr := fld Hr3.out; have ffr := fldF Hr3.out
  go_region_law (first | (go_simp; go_at_call 120; refine (assignment_c R cs (0 + 2000) m _ _ (Hrd3.out.gr ((Gr.refl [] _).drew)) ((Hmv.out.gr ((Gr.refl _ _).drew)).sub (S' := [R]) (by intro b _ hb; simp at hb ⊢; exact .inr (.inr hb))) Hms.out ⟨hd1, hd4⟩ (by omega)).mono ?_; rintro e w6 ⟨v6, o6, rfl, hown6, ⟨hl6, hv6⟩, hrd6, hg6⟩; have HS6 : Hid (Gr [R] w3 w6) := hid (Gr.trans (a := w3) (Gr.any ((Gr.refl [] _).drew)) hg6); have hn6 := hown6.nums' (S := [w.heap.size, w2.heap.size, R]) (by intro b hb; simp at hb ⊢; omega); have HnS : Hid (∀ S : List Nat, (∀ b ∈ S, b < w.heap.size) → Nums (S ++ [w.heap.size, w2.heap.size, R]) w6 .i64 v6 o6) := hid (fun S hS => hown6.nums' (by intro b hb; rcases List.mem_append.1 hb with h | h; (have := hS b h; simp; omega); (simp at h ⊢; omega))); obtain ⟨vo6, vc6, rfl, -, -⟩ := id hn6; have Hn6 := hid hn6; have Hr6 := hid (HS6.out.obj Hr3.out (by simp; omega)); have fl6 := fld (HS6.out.obj Hb3.out (by simp; omega)); have flr6 := fld Hr6.out; have ffr6 := fldF Hr6.out; clear hg6 hrd6 hown6 hn6))
  all_goals
    go_wp2_with fail
    have hbE := block_cells (cur' := #[]) (block_cells (cur' := #[]) Hr6.out 0 (.slice bo m.doms.length ac)) 1 (.slice co m.cons.length cc)
    have flE := fld hbE
    refine bodyPost_ret (v := .tuple #[.agg #[.slice bo m.doms.length ac, .slice co m.cons.length cc], .slice vo6 o6.length vc6]) ?_ rfl ?_
    · simp [results, Tryz.results123, go_sem, flE]
    · have hgE : Gr [w.heap.size, w2.heap.size, R] w6 ((w6.setCell ⟨w.heap.size, 0, none⟩ (.slice bo m.doms.length ac)).setCell ⟨w.heap.size, 1, none⟩ (.slice co m.cons.length cc)) :=
        ((Gr.refl _ _).setCell _ _ (.inl (by simp))).setCell _ _ (.inl (by simp))
      have hgF : Gr [w.heap.size, w2.heap.size, R] w3 ((w6.setCell ⟨w.heap.size, 0, none⟩ (.slice bo m.doms.length ac)).setCell ⟨w.heap.size, 1, none⟩ (.slice co m.cons.length cc)) :=
        (HS6.out.sub (fun k _ hk => by simp at hk ⊢; exact .inr (.inr hk))).trans hgE
      exact ⟨m, _, _, o6, rfl, fun S hS => ⟨((HmvS.out S hS).gr (hgF.sub (fun k _ hk => List.mem_append.2 (.inr hk)))).sub (fun k _ hk => List.mem_append.2 (.inl hk)), ((HnS.out S hS).gr (hgE.sub (fun k _ hk => List.mem_append.2 (.inr hk)))).sub (fun k _ hk => List.mem_append.2 (.inl hk))⟩, Hms.out, ⟨hd1, hd4⟩, ⟨by omega, hv6⟩, HG3.out.step hgF (fun i hi => .inr (by simp at hi; omega))⟩


set_option maxRecDepth 100000 in
theorem DrawNextSolution_c (v : Value) (bs : List Int) (w : World) (ao : Option Addr) (cap : Nat) (hv : v = .slice ao bs.length cap) (hlen : bs.length ≤ 9223372036854775807) (hcap : bs.length ≤ cap) (hc : Cells [] w .u8 ao bs) (hb : ∀ b ∈ bs, 0 ≤ b ∧ b ≤ 255) :
    Calls Tryz.prog 52 #[v] w fun e w' => ∃ (m : Mod) (mv ov : Value) (o : List Int), e = .returned (.tuple #[mv, ov]) ∧ ModV [] w' mv m ∧ m.Small ∧ (1 ≤ m.doms.length ∧ m.doms.length ≤ 4) ∧ Nums [] w' .i64 ov o ∧ (o.length ≤ 5 ∧ ∀ y ∈ o, 0 ≤ y ∧ y ≤ 6) ∧ Gr [] w w' := by
  subst hv
  have Hc := hid hc; have Hb := hid hb; clear hc hb
  have hg0 : Gr [] w (w.alloc (.cells #[.slice none 0 0, .slice none 0 0] 31)) := (Gr.refl _ _).alloc _
  have hr0 : (w.alloc (.cells #[.slice none 0 0, .slice none 0 0] 31)).heap[w.heap.size]? = some (.cells #[.slice none 0 0, .slice none 0 0] 31 (0, 0)) := heap_alloc_new _ _
  have Hr0 := hid hr0; have Hg0 := hid hg0; clear hr0 hg0
  go_enter Tryz.func52, Tryz.ntmps52
  go_wp2_with fail
  have hcall := DrawIsSolution_s _ bs _ ao cap rfl hlen hcap (Hc.out.gr Hg0.out) Hb.out
  (with_reducible refine hcall.mono ?_)
  clear hcall
  rintro e w1 ⟨m, mv, ov, o, rfl, hS, hms, hd, ho, hg1⟩
  obtain ⟨hmv, hn⟩ := hS [w.heap.size] (by intro b hb; simp at hb; simp; omega)
  have Hmv := hid hmv; have Hn := hid hn; have Ho := hid ho; have Hr1 := hid (hg1.obj Hr0.out (by simp)); have HG1 := hid (Hg0.out.trans hg1)
  obtain ⟨xo, xc, co, cc, rfl⟩ := hmv.slices
  obtain ⟨vo, vc, rfl, -, -⟩ := hn
  clear hmv ho hS hg1
  go_wp2_with ((with_reducible show wpList _ _ _ (⟨none, Op.store _ (Operand.tmp 2) (Operand.tmp 6), _, _, _, none⟩ :: _) _ _); refine wp_storeT 31 2 6 w.heap.size #[.slice xo m.doms.length xc, .slice co m.cons.length cc] 31 #[.slice none 0 0, .slice none 0 0] Hr1.out ⟨sizeM, rfl, rfl, rfl, one2 _ _ _ _ _ _⟩ ?_; intro wE hbE hgE)
  have flE := fld hbE
  refine bodyPost_ret (v := .tuple #[.agg #[.slice xo m.doms.length xc, .slice co m.cons.length cc], .slice vo o.length vc]) ?_ rfl ?_
  · simp [results, Tryz.results52, go_sem, flE]
  · exact ⟨m, _, _, o, rfl, (Hmv.out.gr hgE).sub0, hms, hd, (Hn.out.gr hgE).sub (by simp), Ho.out, HG1.out.step hgE (fun i hi => .inr (by simp at hi; omega))⟩

end Go.Proofs.YtjmjjdgbkibdaaaGreat
