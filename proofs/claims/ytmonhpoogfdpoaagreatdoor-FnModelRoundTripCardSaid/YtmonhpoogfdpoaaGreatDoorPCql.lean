/-
  Walk of the program's deep copy of a model: the cells of whole numbers that the copy holds and leads to are all different.
-/
import Derived.Test.YtmonhpoogfdpoaaGreatDoorPCq
import Derived.Test.YtmonhpoogfdpoaaGreatDoorPCpl
set_option linter.unusedVariables false
set_option linter.unusedSimpArgs false
namespace Go.Proofs.YtmonhpoogfdpoaaGreatDoor
open Go.RowKit

theorem con_leaf {M : Nat → Prop} {w : World} {k b : Int} {vv av rv : Value} {c : Con} (h : ConM M w (.agg #[.int .i64 k, vv, av, .int .i64 b, rv]) c) : ∀ a ∈ leavesN vv ++ leavesN av ++ leavesR w rv, M a.block := by
  obtain ⟨n1, n2, n3⟩ := h.parts
  intro a ha
  rcases List.mem_append.1 ha with ha | ha
  · rcases List.mem_append.1 ha with ha | ha
    · exact n1.leaf a ha
    · exact n2.leaf a ha
  · exact n3.leaf a ha


set_option maxRecDepth 100000 in
set_option maxHeartbeats 4000000 in
theorem modCopied_l (m : Mod) (v : Value) (w : World) (hv : ModV [] w v m) (hs : m.Small) :
    Calls Tryz.prog 25 #[v] w fun e w' => ∃ xo xc co cc, e = .returned (.agg #[.slice xo m.doms.length xc, .slice co m.cons.length cc]) ∧
      ModM (New w.heap.size w') w' (.agg #[.slice xo m.doms.length xc, .slice co m.cons.length cc]) m ∧
      (leavesN (.slice xo m.doms.length xc) ++ leavesCs w' (.slice co m.cons.length cc)).Nodup ∧ Gr [] w w' := by
  obtain ⟨dv, cv, rfl, n1, n2⟩ := hv
  obtain ⟨xo, xc, rfl, -, -⟩ := id n1
  obtain ⟨co, cc, rfl, hcc, -⟩ := id n2
  have H1 := hid n1; have H2 := hid n2; have Hs := hid hs
  have hdl := hs.doms; have hcl := hs.cons
  have h20 := heap2 w (.cells #[.slice xo m.doms.length xc, .slice co m.cons.length cc] 27) (.cells #[.slice none 0 0, .slice none 0 0] 27)
  have hg0 : Gr [] w ((w.alloc (.cells #[.slice xo m.doms.length xc, .slice co m.cons.length cc] 27)).alloc (.cells #[.slice none 0 0, .slice none 0 0] 27)) := ((Gr.refl [] w).alloc _).alloc _
  have fb0 := fld h20.1
  have Hb0 := hid h20.1; have Hr0 := hid h20.2; have Hg0 := hid hg0
  have hs0 : ((w.alloc (.cells #[.slice xo m.doms.length xc, .slice co m.cons.length cc] 27)).alloc (.cells #[.slice none 0 0, .slice none 0 0] 27)).heap.size = w.heap.size + 2 := by simp
  clear n1 n2 hs h20 hg0
  go_enter Tryz.func25, Tryz.ntmps25
  go_wp2_with fail
  generalize hW0 : (w.alloc (.cells #[.slice xo m.doms.length xc, .slice co m.cons.length cc] 27)).alloc (.cells #[.slice none 0 0, .slice none 0 0] 27) = w0 at *
  clear hW0
  have Hs0 := hid hs0
  clear hs0
  go_cut [3] from 6 to 13 (fun p wx => CpCut m w0 wx p)
  case first =>
    have HBX : Hid (∀ W, Gr [] w0 W → W.heap[w.heap.size]? = some (.cells #[.slice xo m.doms.length xc, .slice co m.cons.length cc] 27 (0, 0))) := hid fun W h => h.obj Hb0.out (by simp)
    have ne0 : w.heap.size ≠ w0.heap.size := (by have h2 := Hs0.out; omega)
    have ne0' := ne0.symm
    have ne1 : w.heap.size ≠ w0.heap.size + 1 := (by have h2 := Hs0.out; omega)
    have ne1' := ne1.symm
    have hmk := fun W => run_make0 (P := Tryz.prog) 25 49 (.agg #[.int .i64 0, .slice none 0 0, .slice none 0 0, .int .i64 0, .slice none 0 0]) 5 88 Tryz.underlying25 infoC m.cons.length (by omega) (by omega) W
    go_region_held_law (fun W => W.cell? ⟨w.heap.size, 0, none⟩ = some (.slice xo m.doms.length xc) ∧ W.cell? ⟨w.heap.size, 1, none⟩ = some (.slice co m.cons.length cc)) (go_keep) (first
      | (go_simp; go_at_call 57; refine (copied_c _ m.doms _ (by first | exact (H1.out.gr Hg0.out).gr ((Gr.refl [] w0).drew) | exact (H1.out.gr Hg0.out).gr (((Gr.refl [] w0).drew).alloc _) | exact (H1.out.gr Hg0.out).gr ((((Gr.refl [] w0).drew).alloc _).alloc _)) hdl).mono ?_; rintro e wa ⟨va, rfl, hoa, hga⟩; obtain ⟨ufo, ufc, rfl, -, -⟩ := hoa.nums' (S := []) (by simp); have hgx : Gr [] w0 wa := Gr.trans (by first | exact (Gr.refl [] w0).drew | exact ((Gr.refl [] w0).drew).alloc _ | exact (((Gr.refl [] w0).drew).alloc _).alloc _) hga; have HOa := hid (OwnC.numsM hoa); have HGa := hid hgx; have Hga := hid hga; have nea : w.heap.size ≠ wa.heap.size := (by have h1 := hgx.size; have h2 := Hs0.out; omega); have nea' := nea.symm; have neb : w.heap.size ≠ wa.heap.size + 1 := (by have h1 := hgx.size; have h2 := Hs0.out; omega); have neb' := neb.symm; have fba := fld (HBX.out _ hgx); have fAa := fld (HBX.out _ (hgx.alloc (.cells #[.slice none 0 0, .slice none 0 0] 27))); have fCa := fld (HBX.out _ (hgx.alloc (.cells (madeCells (Value.cells (.agg #[.int .i64 0, .slice none 0 0, .slice none 0 0, .int .i64 0, .slice none 0 0])) (m.cons.length * 5)) 49))); (try (have hz : wa.heap[w0.heap.size]? = some (.cells #[.slice none 0 0, .slice none 0 0] 27 (0, 0)) := hga.obj (heap_alloc_new w0.drew (.cells #[.slice none 0 0, .slice none 0 0] 27)) (by simp); have HZ := hid hz; have foz := fld hz; have ffz := fldF hz; have fozc := fld (((Gr.refl [] wa).alloc (.cells (madeCells (Value.cells (.agg #[.int .i64 0, .slice none 0 0, .slice none 0 0, .int .i64 0, .slice none 0 0])) (m.cons.length * 5)) 49)).obj hz (by simp)); have ffzc := fldF (((Gr.refl [] wa).alloc (.cells (madeCells (Value.cells (.agg #[.int .i64 0, .slice none 0 0, .slice none 0 0, .int .i64 0, .slice none 0 0])) (m.cons.length * 5)) 49)).obj hz (by simp)); have fozc2 := fld (((Gr.refl [] wa).alloc (.cells (madeCells #[.int .i64 0, .slice none 0 0, .slice none 0 0, .int .i64 0, .slice none 0 0] (m.cons.length * 5)) 49)).obj hz (by simp)); have ffzc2 := fldF (((Gr.refl [] wa).alloc (.cells (madeCells #[.int .i64 0, .slice none 0 0, .slice none 0 0, .int .i64 0, .slice none 0 0] (m.cons.length * 5)) 49)).obj hz (by simp)); clear hz)); (try (have hz : wa.heap[w0.heap.size]? = some (.cells #[.slice none 0 0, .slice none 0 0] 27 (0, 0)) := hga.obj (((Gr.refl [] _).alloc (.cells (madeCells (Value.cells (.agg #[.int .i64 0, .slice none 0 0, .slice none 0 0, .int .i64 0, .slice none 0 0])) (m.cons.length * 5)) 49)).obj (heap_alloc_new w0.drew (.cells #[.slice none 0 0, .slice none 0 0] 27)) (by simp)) (by simp); have HZ := hid hz; have foz := fld hz; have ffz := fldF hz; have fozc := fld (((Gr.refl [] wa).alloc (.cells (madeCells (Value.cells (.agg #[.int .i64 0, .slice none 0 0, .slice none 0 0, .int .i64 0, .slice none 0 0])) (m.cons.length * 5)) 49)).obj hz (by simp)); have ffzc := fldF (((Gr.refl [] wa).alloc (.cells (madeCells (Value.cells (.agg #[.int .i64 0, .slice none 0 0, .slice none 0 0, .int .i64 0, .slice none 0 0])) (m.cons.length * 5)) 49)).obj hz (by simp)); have fozc2 := fld (((Gr.refl [] wa).alloc (.cells (madeCells #[.int .i64 0, .slice none 0 0, .slice none 0 0, .int .i64 0, .slice none 0 0] (m.cons.length * 5)) 49)).obj hz (by simp)); have ffzc2 := fldF (((Gr.refl [] wa).alloc (.cells (madeCells #[.int .i64 0, .slice none 0 0, .slice none 0 0, .int .i64 0, .slice none 0 0] (m.cons.length * 5)) 49)).obj hz (by simp)); clear hz)); (try (have hz : wa.heap[w0.heap.size + 1]? = some (.cells #[.slice none 0 0, .slice none 0 0] 27 (0, 0)) := hga.obj (by have := heap_alloc_new (w0.drew.alloc (.cells (madeCells (Value.cells (.agg #[.int .i64 0, .slice none 0 0, .slice none 0 0, .int .i64 0, .slice none 0 0])) (m.cons.length * 5)) 49)) (.cells #[.slice none 0 0, .slice none 0 0] 27); rw [World.size_alloc] at this; exact this) (by simp); have HZ := hid hz; have foz := fld hz; have ffz := fldF hz; have fozc := fld (((Gr.refl [] wa).alloc (.cells (madeCells (Value.cells (.agg #[.int .i64 0, .slice none 0 0, .slice none 0 0, .int .i64 0, .slice none 0 0])) (m.cons.length * 5)) 49)).obj hz (by simp)); have ffzc := fldF (((Gr.refl [] wa).alloc (.cells (madeCells (Value.cells (.agg #[.int .i64 0, .slice none 0 0, .slice none 0 0, .int .i64 0, .slice none 0 0])) (m.cons.length * 5)) 49)).obj hz (by simp)); have fozc2 := fld (((Gr.refl [] wa).alloc (.cells (madeCells #[.int .i64 0, .slice none 0 0, .slice none 0 0, .int .i64 0, .slice none 0 0] (m.cons.length * 5)) 49)).obj hz (by simp)); have ffzc2 := fldF (((Gr.refl [] wa).alloc (.cells (madeCells #[.int .i64 0, .slice none 0 0, .slice none 0 0, .int .i64 0, .slice none 0 0] (m.cons.length * 5)) 49)).obj hz (by simp)); clear hz)); have fozd := fld (((Gr.refl [] (wa.alloc (.cells #[.slice none 0 0, .slice none 0 0] 27))).alloc (.cells (madeCells (Value.cells (.agg #[.int .i64 0, .slice none 0 0, .slice none 0 0, .int .i64 0, .slice none 0 0])) (m.cons.length * 5)) 49)).obj (heap_alloc_new wa (.cells #[.slice none 0 0, .slice none 0 0] 27)) (by simp)); have ffzd := fldF (((Gr.refl [] (wa.alloc (.cells #[.slice none 0 0, .slice none 0 0] 27))).alloc (.cells (madeCells (Value.cells (.agg #[.int .i64 0, .slice none 0 0, .slice none 0 0, .int .i64 0, .slice none 0 0])) (m.cons.length * 5)) 49)).obj (heap_alloc_new wa (.cells #[.slice none 0 0, .slice none 0 0] 27)) (by simp)); clear hoa hga hgx))
    all_goals
      go_wp2_with fail
      go_meet
    · exact cp_meet (wc := w0) (gc := wa.heap.size) (by have := HGa.out.size; omega) (by have := heap_alloc_new (wa.alloc (.cells (madeCells #[.int .i64 0, .slice none 0 0, .slice none 0 0, .int .i64 0, .slice none 0 0] (m.cons.length * 5)) 49)) (.cells #[.slice ufo m.doms.length ufc, .slice (some ⟨wa.heap.size, 0, none⟩) 0 m.cons.length] 27); rwa [World.size_alloc] at this) HGa.out (Gr.any (((Gr.refl [] wa).alloc _).alloc _)) HOa.out (Nat.le_refl _) (.inr (by omega)) (.inr (Nat.le_refl _)) (((Gr.refl [] _).alloc _).obj (heap_alloc_new wa (.cells (madeCells #[.int .i64 0, .slice none 0 0, .slice none 0 0, .int .i64 0, .slice none 0 0] (m.cons.length * 5)) 49)) (by simp)) HGa.out.size (by omega)
    · have hc2 := heap_alloc_new (wa.alloc (.cells #[.slice ufo m.doms.length ufc, .slice (some ⟨wa.heap.size + 1, 0, none⟩) 0 m.cons.length] 27)) (.cells (madeCells #[.int .i64 0, .slice none 0 0, .slice none 0 0, .int .i64 0, .slice none 0 0] (m.cons.length * 5)) 49)
      rw [World.size_alloc] at hc2
      exact cp_meet (wc := w0) (gc := wa.heap.size + 1) HGa.out.size (((Gr.refl [] _).alloc (.cells (madeCells #[.int .i64 0, .slice none 0 0, .slice none 0 0, .int .i64 0, .slice none 0 0] (m.cons.length * 5)) 49)).obj (heap_alloc_new wa (.cells #[.slice ufo m.doms.length ufc, .slice (some ⟨wa.heap.size + 1, 0, none⟩) 0 m.cons.length] 27)) (by simp)) HGa.out (Gr.any (((Gr.refl [] wa).alloc _).alloc _)) HOa.out (Nat.le_refl _) (.inr (Nat.le_refl _)) (.inr (by omega)) hc2 (by have := HGa.out.size; omega) (by omega)
    · exact cp_meet (wc := w0.drew.alloc (.cells (madeCells #[.int .i64 0, .slice none 0 0, .slice none 0 0, .int .i64 0, .slice none 0 0] (m.cons.length * 5)) 49)) (gc := w0.heap.size) HGa.out.size (heap_alloc_new _ _) HGa.out (Gr.any ((Gr.refl [] wa).alloc _)) HOa.out (by simp <;> omega) (.inr (Nat.le_refl _)) (.inl (by simp <;> omega)) (((Gr.refl [] _).alloc _).obj (Hga.out.obj (heap_alloc_new w0.drew (.cells (madeCells #[.int .i64 0, .slice none 0 0, .slice none 0 0, .int .i64 0, .slice none 0 0] (m.cons.length * 5)) 49)) (by simp)) (by simp)) (Nat.le_refl _) (by have := Hga.out.size; simp at this; omega)
    · have h5 := set2 _ _ (.slice ufo m.doms.length ufc) (.slice (some ⟨w0.heap.size, 0, none⟩) 0 m.cons.length) HZ.out
      exact cp_meet (wc := (w0.drew.alloc (.cells (madeCells #[.int .i64 0, .slice none 0 0, .slice none 0 0, .int .i64 0, .slice none 0 0] (m.cons.length * 5)) 49)).alloc (.cells #[.slice none 0 0, .slice none 0 0] 27)) (gc := w0.heap.size) (by omega) h5.1 HGa.out h5.2 HOa.out (by simp <;> omega) (.inl (by simp <;> omega)) (.inl (by simp <;> omega)) (h5.2.obj (Hga.out.obj (((Gr.refl [] _).alloc _).obj (heap_alloc_new w0.drew (.cells (madeCells #[.int .i64 0, .slice none 0 0, .slice none 0 0, .int .i64 0, .slice none 0 0] (m.cons.length * 5)) 49)) (by simp)) (by simp)) (by simp)) (Nat.le_refl _) (by omega)
    · have h5 := set2 _ _ (.slice ufo m.doms.length ufc) (.slice (some ⟨wa.heap.size, 0, none⟩) 0 m.cons.length) (((Gr.refl [] wa).alloc (.cells (madeCells #[.int .i64 0, .slice none 0 0, .slice none 0 0, .int .i64 0, .slice none 0 0] (m.cons.length * 5)) 49)).obj HZ.out (by simp))
      have hlt : w0.heap.size < wa.heap.size := lt_of_block HZ.out
      exact cp_meet (wc := w0.drew.alloc (.cells #[.slice none 0 0, .slice none 0 0] 27)) (gc := wa.heap.size) (Nat.le_refl _) h5.1 HGa.out ((Gr.any ((Gr.refl [] wa).alloc (.cells (madeCells #[.int .i64 0, .slice none 0 0, .slice none 0 0, .int .i64 0, .slice none 0 0] (m.cons.length * 5)) 49))).trans h5.2) HOa.out (by simp <;> omega) (.inl (by simp <;> omega)) (.inr (Nat.le_refl _)) (h5.2.obj (heap_alloc_new wa (.cells (madeCells #[.int .i64 0, .slice none 0 0, .slice none 0 0, .int .i64 0, .slice none 0 0] (m.cons.length * 5)) 49)) (by simp; omega)) HGa.out.size (by omega)
    · have h5 := set2 _ _ (.slice ufo m.doms.length ufc) (.slice (some ⟨w0.heap.size + 1, 0, none⟩) 0 m.cons.length) HZ.out
      have hc2 := heap_alloc_new (w0.drew.alloc (.cells #[.slice none 0 0, .slice none 0 0] 27)) (.cells (madeCells #[.int .i64 0, .slice none 0 0, .slice none 0 0, .int .i64 0, .slice none 0 0] (m.cons.length * 5)) 49)
      rw [World.size_alloc] at hc2
      exact cp_meet (wc := (w0.drew.alloc (.cells #[.slice none 0 0, .slice none 0 0] 27)).alloc (.cells (madeCells #[.int .i64 0, .slice none 0 0, .slice none 0 0, .int .i64 0, .slice none 0 0] (m.cons.length * 5)) 49)) (gc := w0.heap.size + 1) (Nat.le_refl _) h5.1 HGa.out h5.2 HOa.out (by simp <;> omega) (.inl (by simp <;> omega)) (.inl (by simp <;> omega)) (h5.2.obj (Hga.out.obj hc2 (by simp)) (by simp)) (by omega) (by omega)
  case rest =>
    obtain ⟨bk, gc, ufo, ufc, rfl, hbk, hbb, hgc, hnd, hgb, hgcB, hne⟩ := hcut
    have hbw : bk < wc.heap.size := lt_of_block hbb
    have hgw : gc < wc.heap.size := lt_of_block hgb
    have hs00 := Hs0.out
    obtain ⟨X, hXd⟩ : ∃ X : Nat → Prop, ∀ b, X b ↔ b < wc.heap.size ∧ b ≠ gc := ⟨fun b => b < wc.heap.size ∧ b ≠ gc, fun _ => Iff.rfl⟩
    have hown0 : OwnGX X 5 elConL w0.heap.size wc 49 (.slice (some ⟨gc, 0, none⟩) 0 m.cons.length) ([] : List (Con × List Addr)) :=
      ⟨[], rfl, by simp, ⟨by simp, .inr ⟨gc, m.cons.length, _, rfl, hgcB, hgb, Nat.zero_le _, by simp only [maxLen]; omega, size_madeCells _ _, by simp⟩⟩, fun b hb hX => by simp [Value.ownBlock] at hb; subst hb; exact ((hXd gc).1 hX).2 rfl, by simp⟩
    have Hbb := hid hbb; have Hgc := hid hgc; have Hnd := hid hnd; have Hown0 := hid hown0; have HXd := hid hXd
    have fcc0 := fld (hgc.obj Hb0.out (by simp))
    clear hbb hgc hnd hown0 hXd hgb fb0
    go_wp2_with fail
    go_loopw [17] (fun i wr => ∃ (n : Nat) (ov : Value) (xs : List (Con × List Addr)), n ≤ m.cons.length ∧ i = .int .i64 n ∧ xs.map Prod.fst = m.cons.take n ∧ (xs.flatMap Prod.snd).Nodup ∧ (∀ a ∈ xs.flatMap Prod.snd, wc.heap.size ≤ a.block ∧ a.block < wr.heap.size) ∧ OwnGX X 5 elConL w0.heap.size wr 49 ov xs ∧ wr.heap[bk]? = some (.cells #[.slice ufo m.doms.length ufc, ov] 27 (0, 0)) ∧ Gr [bk, gc] wc wr) (fun i _ => m.cons.length - (intOf i).toNat)
    case atStart => exact ⟨0, _, [], Nat.zero_le _, rfl, by rw [List.take_zero]; rfl, by simp, by simp, Hown0.out, Hbb.out, Gr.refl _ _⟩
    case round =>
      obtain ⟨n, ov, xs, hn, rfl, hx1, hx2, hx3, hown, hb, hg⟩ := hrel
      have hsg := hg.size
      have hgw' : Gr [] w wr := (Hg0.out.trans Hgc.out).step hg (fun i hi => .inr (by simp at hi; omega))
      have hov : ∀ b, ov.ownBlock = some b → (b = gc ∨ wc.heap.size ≤ b) ∧ b < wr.heap.size := fun b h => by
        obtain ⟨h1, h2, h3⟩ := hown.own h
        refine ⟨?_, h3⟩
        rcases Nat.lt_or_ge b wc.heap.size with h4 | h4
        · left
          rcases Nat.eq_or_lt_of_le (Nat.le_refl b) with _ | _
          · rcases Decidable.em (b = gc) with h5 | h5
            · exact h5
            · exact absurd ((HXd.out b).2 ⟨h4, h5⟩) h1
          · omega
        · exact .inr h4
      have Hown := hid hown; have Hb := hid hb; have Hg := hid hg; have Hgw := hid hgw'; have Hov := hid hov
      have hoc : xs.length = n := by have := congrArg List.length hx1; simp at this; omega
      have Hx1 := hid hx1; have Hx2 := hid hx2; have Hx3 := hid hx3; have Hoc := hid hoc
      clear hx1 hx2 hx3 hoc
      clear hown hb hg hgw' hov
      by_cases hlt : n < m.cons.length
      · obtain ⟨c, hx⟩ := get_some hlt
        have hcm := List.mem_of_getElem? hx
        have hcs := Hs.out.con c hcm
        obtain ⟨b, oz, vo, vc, xo2, xc2, ro, rc, e1, -, ⟨k0, k1, k2, k3, k4⟩, hcv⟩ := H2.out.at2 hx
        subst e1
        have Hx := hid hx; have Hcv := hid hcv; have Hcs := hid hcs
        have r0 := Hgw.out.cell k0 (by simp); have r1 := Hgw.out.cell k1 (by simp); have r2 := Hgw.out.cell k2 (by simp); have r3 := Hgw.out.cell k3 (by simp); have r4 := Hgw.out.cell k4 (by simp)
        have hbx := heap_alloc_new wr (.cells #[.int .i64 c.kind, .slice vo c.vars.length vc, .slice xo2 c.args.length xc2, .int .i64 c.bound, .slice ro c.rows.length rc] 49)
        have hga : Gr [] wr (wr.alloc (.cells #[.int .i64 c.kind, .slice vo c.vars.length vc, .slice xo2 c.args.length xc2, .int .i64 c.bound, .slice ro c.rows.length rc] 49)) := (Gr.refl _ _).alloc _
        have hsb : (wr.alloc (.cells #[.int .i64 c.kind, .slice vo c.vars.length vc, .slice xo2 c.args.length xc2, .int .i64 c.bound, .slice ro c.rows.length rc] 49)).heap.size = wr.heap.size + 1 := by simp
        have hbkb := hga.obj Hb.out (by simp)
        have fbx := fld hbx; have fbk := fld hbkb
        have Hbkb := hid hbkb; have Hga := hid hga
        clear hx hcv hcs k0 k1 k2 k3 k4 hbx hbkb hga
        go_wp2_with fail
        generalize hWb : wr.alloc (.cells #[.int .i64 c.kind, .slice vo c.vars.length vc, .slice xo2 c.args.length xc2, .int .i64 c.bound, .slice ro c.rows.length rc] 49) = wb at *
        clear hWb
        have HBK : Hid (∀ W, Gr [] wb W → W.heap[bk]? = some (.cells #[.slice ufo m.doms.length ufc, ov] 27 (0, 0))) := hid fun W h => h.obj Hbkb.out (by simp)
        have HsB := hid hsb
        clear hsb
        go_region_law (first
          | (go_simp; go_at_call 58; refine (conCopied_l c _ _ (Hcv.out.gr ((Hgw.out.trans Hga.out).trans ((Gr.refl [] wb).drew))) Hcs.out).mono ?_; rintro e w5 ⟨uo, uc, po, pc, ro', rc', rfl, hm5, hnd5, hg5⟩; have Hnd5 := hid hnd5; have hgx : Gr [] wb w5 := ((Gr.refl [] wb).drew).trans hg5; have HGX := hid hgx; have Hm5 := hid hm5; have HO5 := hid (Hown.out.gr elConL_ok (Hga.out.trans hgx) (by simp)); have fb5 := fld (HBK.out _ hgx); have hs5 := hgx.size; have fa5 := fld (HBK.out _ (hgx.alloc (.cells #[.int .i64 c.kind, .slice uo c.vars.length uc, .slice po c.args.length pc, .int .i64 c.bound, .slice ro' c.rows.length rc'] 49))); clear hm5 hg5 hgx hnd5)
          | (refine step_appGX rfl _ _ 25 rfl 5 elConL elConL_ok w0.heap.size 49 (.agg #[.int .i64 0, .slice none 0 0, .slice none 0 0, .int .i64 0, .slice none 0 0]) 88 infoC rfl (by omega) (by omega) Tryz.underlying25 ov xs rfl X (fun b hb => by have := ((HXd.out b).1 hb).1; have := HsB.out; simp; omega) (HO5.out.gr elConL_ok ((Gr.refl [] w5).alloc _) (by simp)) w5.heap.size 1 (c, leavesN (.slice uo c.vars.length uc) ++ leavesN (.slice po c.args.length pc) ++ leavesR w5 (.slice ro' c.rows.length rc')) [.int .i64 c.kind, .slice uo c.vars.length uc, .slice po c.args.length pc, .int .i64 c.bound, .slice ro' c.rows.length rc'] rfl rfl (by simp [Value.oneCell']) (fun j q hj => by rw [fld (heap_alloc_new w5 _) j]; simpa using hj) (fun S hS => ⟨_, _, _, _, _, _, rfl, Hm5.out.gr' ((Gr.refl [] w5).alloc _) (by simp) (fun b hlt hb hm => by have hB := HsB.out; rcases hS b hm with h | h | h; (have h1 := hb.1; have h2 := ((HXd.out b).1 h).1; simp at h1; omega); (simp at h; omega); (have := (Hov.out b h).2; have := hb.1; simp at this; omega)), by rw [Hm5.out.parts.2.2.leaves_gr ((Gr.refl [] w5).alloc _) (by simp)]⟩) (by rw [Hoc.out]; omega) (by have hB := HsB.out; simp; omega) ?_; intro g7 c7 w7 hown7 hg7 hwh7 hlt7; rw [Hoc.out] at hown7 ⊢; have HO7 := hid hown7; have HG7 := hid hg7; have hr7 := hg7.obj (HBK.out _ (HGX.out.alloc _)) (fun hm => by have := (Hov.out bk (by simpa using hm)).1; omega); have Hr7 := hid hr7; have fb7 := fld hr7; have ff7 := fldF hr7; clear hown7 hg7 hr7 hwh7))
        all_goals
          go_wp2_with fail
          refine ⟨⟨n + 1, .slice (some ⟨g7, 0, none⟩) (n + 1) c7, xs ++ [(c, leavesN (.slice uo c.vars.length uc) ++ leavesN (.slice po c.args.length pc) ++ leavesR w5 (.slice ro' c.rows.length rc'))], by omega, by go_num, ?_, ?_, ?_, ?_, ?_, ?_⟩, by simp [intOf]; omega⟩
          · rw [List.take_add_one, Hx.out, List.map_append, Hx1.out]; rfl
          · rw [List.flatMap_append]
            refine List.nodup_append.2 ⟨Hx2.out, by simpa using Hnd5.out, fun a ha b hb e => ?_⟩
            subst e
            simp only [List.flatMap_cons, List.flatMap_nil, List.append_nil] at hb
            have h1 := (Hx3.out a ha).2
            have h2 := con_leaf Hm5.out a hb
            have hB := HsB.out
            have h3 := h2.1
            simp at h3
            omega
          · intro a ha
            have hB := HsB.out
            have hs7 := HG7.out.size
            simp only [World.size_alloc] at hs7
            rw [List.flatMap_append] at ha
            rcases List.mem_append.1 ha with ha | ha
            · have := Hx3.out a ha; simp; omega
            · simp only [List.flatMap_cons, List.flatMap_nil, List.append_nil] at ha
              have h2 := con_leaf Hm5.out a ha
              have h3 := h2.1; have h4 := h2.2
              simp at h3
              simp; omega
          · have := HO7.out.gr elConL_ok (Gr.cell1 [bk] w7 ⟨bk, 1, none⟩ (.slice (some ⟨g7, 0, none⟩) (n + 1) c7) (by simp)) (fun b hb => by simp at hb; subst hb; exact (HXd.out _).2 ⟨hbw, fun e => hne e.symm⟩)
            exact this
          · have := block_cells (cur' := #[]) Hr7.out 1 (.slice (some ⟨g7, 0, none⟩) (n + 1) c7)
            simpa using this
          · exact ((Hg.out.trans (Gr.any (Hga.out.trans (HGX.out.alloc _)))).step HG7.out (fun i hi => by rcases (Hov.out i (by simpa using hi)).1 with h | h; (left; simp [h]); (right; exact h))).setCell _ _ (.inl (by simp))
      · have e1 : n = m.cons.length := by omega
        subst e1
        have hOG := Hown.out.g (fun b hb => (HXd.out b).2 ⟨by have := Hgc.out.size; omega, by omega⟩)
        obtain ⟨oo, oc, rfl, ho1, ho2⟩ := Hown.out.slice
        have hcons := hOG.consL
        rw [Hx1.out, List.take_length, Hoc.out] at hcons
        have hlv := hOG.leavesC Hx2.out
        rw [Hoc.out] at Hown ho1 hlv Hov Hb
        have Hcons := hid hcons; have Hlv := hid hlv
        clear hcons hlv hOG
        have hrr : wr.heap[w.heap.size + 1]? = some (.cells #[.slice none 0 0, .slice none 0 0] 27 (0, 0)) := Hg.out.obj (Hgc.out.obj Hr0.out (by simp)) (by simp; omega)
        have Hrr := hid hrr; have frr := fld hrr; have ffr := fldF hrr; have fbk := fld Hb.out
        clear hrr
        go_wp2_with fail
        have h5 := set2 _ _ (.slice ufo m.doms.length ufc) (.slice oo m.cons.length oc) Hrr.out
        generalize ((wr.setCell ⟨w.heap.size + 1, 0, none⟩ (.slice ufo m.doms.length ufc)).setCell ⟨w.heap.size + 1, 1, none⟩ (.slice oo m.cons.length oc)) = WE at h5 ⊢
        obtain ⟨h5, hG⟩ := h5
        have flE := fld h5
        have hsE := hG.size
        refine bodyPost_ret (v := .agg #[.slice ufo m.doms.length ufc, .slice oo m.cons.length oc]) ?_ rfl ?_
        · simp [results, Tryz.results25, go_sem, flE]
        · refine ⟨_, _, _, _, rfl, ⟨_, _, rfl, ?_, ?_⟩, ?_, Hgw.out.step hG (fun i hi => .inr (by simp at hi; omega))⟩
          · exact (Hnd.out.gr' (M' := New w0.heap.size wr) Hg.out (fun b hb hm => by have h2 := hm.2; simp at hb; omega) (fun b hl hm => ⟨hm.1.1, by have := hm.1.2; omega⟩)).gr' (M' := New w.heap.size WE) hG (fun b hb hm => by have := hm.1; simp at hb; omega) (fun b hl hm => ⟨by have := hm.1; omega, by have := hm.2; omega⟩)
          · exact Hcons.out.gr' (M' := New w.heap.size WE) hG (fun b hb hm => by have := hm.1; simp at hb; omega) (fun b hl hm => ⟨by have := hm.1; omega, by have := hm.2; omega⟩)
          · rw [Hcons.out.leaves_gr hG (by intro b hb h; have := h.1; simp at hb; omega)]
            refine List.nodup_append.2 ⟨leavesN_nodup _, Hlv.out.1, fun a ha b hb e => ?_⟩
            subst e
            have h1 := Hnd.out.leaf a ha
            have h1b := h1.1.2
            rcases Hlv.out.2 a hb with h | h
            · rcases (Hov.out _ h).1 with h2 | h2
              · exact h1.2.2 h2
              · omega
            · have := (Hx3.out a h).1
              omega

end Go.Proofs.YtmonhpoogfdpoaaGreatDoor
