/-
  Walk of the program's deep copy of a store: the cells of whole numbers that the copy holds and leads to are all different.
-/
import Derived.Test.YtihkeihnpiddoaaGreatXSc
import Derived.Test.YtihkeihnpiddoaaGreatXStl
set_option linter.unusedVariables false
set_option linter.unusedSimpArgs false
namespace Go.Proofs.YtihkeihnpiddoaaGreat
open Go.RowKit

/-- What the opening of the copy leaves: the new store's box, its list of levels, still empty, its model. -/
def ScCutL (s : Sto) (w0 wx : World) (p : Value) : Prop :=
  ∃ (bk gc : Nat) (ufo : Option Addr) (ufc : Nat) (uco : Option Addr) (ucc : Nat), p = .pointer (some ⟨bk, 0, none⟩) ∧ w0.heap.size ≤ bk ∧ wx.heap[bk]? = some (.cells #[.slice ufo s.mod.doms.length ufc, .slice uco s.mod.cons.length ucc, .slice (some ⟨gc, 0, none⟩) 0 s.lv.length] 29 (0, 0)) ∧ Gr [] w0 wx ∧
    ModM (fun b => New w0.heap.size wx b ∧ b ≠ bk ∧ b ≠ gc) wx (.agg #[.slice ufo s.mod.doms.length ufc, .slice uco s.mod.cons.length ucc]) s.mod ∧ wx.heap[gc]? = some (.cells (madeCells #[.slice none 0 0] s.lv.length) 23 (0, 0)) ∧ w0.heap.size ≤ gc ∧ gc ≠ bk ∧ (leavesN (.slice ufo s.mod.doms.length ufc) ++ leavesCs wx (.slice uco s.mod.cons.length ucc)).Nodup
theorem sc_meetL {s : Sto} {w0 wc wa WE : World} {bk gc : Nat} {ufo : Option Addr} {ufc : Nat} {uco : Option Addr} {ucc : Nat} (hbk : w0.heap.size ≤ bk) (hbb : WE.heap[bk]? = some (.cells #[.slice ufo s.mod.doms.length ufc, .slice uco s.mod.cons.length ucc, .slice (some ⟨gc, 0, none⟩) 0 s.lv.length] 29 (0, 0)))
    (hg0 : Gr [] w0 wa) (hgE : Gr [bk] wa WE) (hn : ModM (New wc.heap.size wa) wa (.agg #[.slice ufo s.mod.doms.length ufc, .slice uco s.mod.cons.length ucc]) s.mod) (hB : w0.heap.size ≤ wc.heap.size) (hbk2 : bk < wc.heap.size ∨ wa.heap.size ≤ bk) (hgc2 : gc < wc.heap.size ∨ wa.heap.size ≤ gc)
    (hgc : WE.heap[gc]? = some (.cells (madeCells #[.slice none 0 0] s.lv.length) 23 (0, 0))) (hgcB : w0.heap.size ≤ gc) (hne : gc ≠ bk) (hnd : (leavesN (.slice ufo s.mod.doms.length ufc) ++ leavesCs wa (.slice uco s.mod.cons.length ucc)).Nodup) : ScCutL s w0 WE (.pointer (some ⟨bk, 0, none⟩)) :=
  ⟨bk, gc, ufo, ufc, uco, ucc, rfl, hbk, hbb, hg0.step hgE (fun i hi => .inr (by simp at hi; omega)),
    hn.gr' hgE (fun b hb hm => by have h1 := hm.1; have h2 := hm.2; simp at hb; omega) (fun b hlt hm => ⟨⟨Nat.le_trans hB hm.1, Nat.lt_of_lt_of_le hm.2 hgE.size⟩, by have h1 := hm.1; have h2 := hm.2; omega, by have h1 := hm.1; have h2 := hm.2; omega⟩), hgc, hgcB, hne, by rw [hn.parts.2.leaves_gr hgE (fun b hb hm => by have h1 := hm.1; have h2 := hm.2; simp at hb; omega)]; exact hnd⟩


set_option maxRecDepth 100000 in
set_option maxHeartbeats 4000000 in
theorem stoCopied_l (s : Sto) (v : Value) (w : World) (hv : StoV [] w v s) (hs : s.mod.Small) (hl : s.lv.length ≤ 1000) (hr : ∀ r ∈ s.lv, r.length ≤ 1000) :
    Calls Tryz.prog 37 #[v] w fun e w' => ∃ (xo : Option Addr) (xc : Nat) (co : Option Addr) (cc : Nat) (lo : Option Addr) (lc : Nat) (M : Nat → Prop) (xs : List (List Int × List Addr)), e = .returned (.agg #[.slice xo s.mod.doms.length xc, .slice co s.mod.cons.length cc, .slice lo s.lv.length lc]) ∧
      ModM M w' (.agg #[.slice xo s.mod.doms.length xc, .slice co s.mod.cons.length cc]) s.mod ∧ (∀ b, M b → (w.heap.size ≤ b ∧ b < w'.heap.size) ∧ (Value.slice lo s.lv.length lc).ownBlock ≠ some b ∧ ∀ a ∈ xs.flatMap Prod.snd, a.block ≠ b) ∧ (leavesN (.slice xo s.mod.doms.length xc) ++ leavesCs w' (.slice co s.mod.cons.length cc)).Nodup ∧
      xs.map Prod.fst = s.lv ∧ (xs.flatMap Prod.snd).Nodup ∧ (∀ a ∈ xs.flatMap Prod.snd, w.heap.size ≤ a.block ∧ a.block < w'.heap.size) ∧ OwnG 1 elRowL w.heap.size w' 23 (.slice lo s.lv.length lc) xs ∧ Gr [] w w' := by
  obtain ⟨xo, xc, co, cc, lo, lc, rfl, n1, n2⟩ := hv.open
  have H1 := hid n1; have H2 := hid n2; have Hs : Hid (Sto.Small ⟨s.mod, []⟩) := hid ⟨hs, by simp, by simp⟩; have HR := hid hr
  have h20 := heap2 w (.cells #[.slice xo s.mod.doms.length xc, .slice co s.mod.cons.length cc, .slice lo s.lv.length lc] 29) (.cells #[.slice none 0 0, .slice none 0 0, .slice none 0 0] 29)
  have hg0 : Gr [] w ((w.alloc (.cells #[.slice xo s.mod.doms.length xc, .slice co s.mod.cons.length cc, .slice lo s.lv.length lc] 29)).alloc (.cells #[.slice none 0 0, .slice none 0 0, .slice none 0 0] 29)) := ((Gr.refl [] w).alloc _).alloc _
  have fb0 := fld h20.1
  have Hb0 := hid h20.1; have Hr0 := hid h20.2; have Hg0 := hid hg0
  have hs0 : ((w.alloc (.cells #[.slice xo s.mod.doms.length xc, .slice co s.mod.cons.length cc, .slice lo s.lv.length lc] 29)).alloc (.cells #[.slice none 0 0, .slice none 0 0, .slice none 0 0] 29)).heap.size = w.heap.size + 2 := by simp
  clear n1 n2 hs h20 hg0 hr hv
  go_enter Tryz.func37, Tryz.ntmps37
  go_wp2_with fail
  generalize hW0 : (w.alloc (.cells #[.slice xo s.mod.doms.length xc, .slice co s.mod.cons.length cc, .slice lo s.lv.length lc] 29)).alloc (.cells #[.slice none 0 0, .slice none 0 0, .slice none 0 0] 29) = w0 at *
  clear hW0
  have Hs0 := hid hs0
  clear hs0
  go_cut [3] from 6 to 13 (fun p wx => ScCutL s w0 wx p)
  case first =>
    have HBX : Hid (∀ W, Gr [] w0 W → W.heap[w.heap.size]? = some (.cells #[.slice xo s.mod.doms.length xc, .slice co s.mod.cons.length cc, .slice lo s.lv.length lc] 29 (0, 0))) := hid fun W h => h.obj Hb0.out (by simp)
    have ne0 : w.heap.size ≠ w0.heap.size := (by have h2 := Hs0.out; omega)
    have ne0' := ne0.symm
    have ne1 : w.heap.size ≠ w0.heap.size + 1 := (by have h2 := Hs0.out; omega)
    have ne1' := ne1.symm
    have hmk : ∀ W : World, (Instr.makeSlice 27 (.int .i64 0) (.int .i64 (s.lv.length : Int))).run Tryz.prog W = .ok (.slice (some ⟨W.heap.size, 0, none⟩) 0 s.lv.length) (W.alloc (.cells (madeCells #[.slice none 0 0] s.lv.length) 23)) := fun W => by
      have := run_make0 (P := Tryz.prog) 27 23 (.slice none 0 0) 1 24 Tryz.underlying27 infoR s.lv.length (by omega) (by omega) W
      simpa [Value.cells] using this
    go_region_held_law (fun W => W.cell? ⟨w.heap.size, 0, none⟩ = some (.slice xo s.mod.doms.length xc) ∧ W.cell? ⟨w.heap.size, 1, none⟩ = some (.slice co s.mod.cons.length cc) ∧ W.cell? ⟨w.heap.size, 2, none⟩ = some (.slice lo s.lv.length lc)) (go_keep) (first
      | (go_simp; go_at_call 87; refine (modCopied_l s.mod _ _ (by first | exact (H1.out.gr Hg0.out).gr ((Gr.refl [] w0).drew) | exact (H1.out.gr Hg0.out).gr (((Gr.refl [] w0).drew).alloc _) | exact (H1.out.gr Hg0.out).gr ((((Gr.refl [] w0).drew).alloc _).alloc _)) Hs.out.mod).mono ?_; rintro e wa ⟨ufo, ufc, uco, ucc, rfl, hoa, hnda, hga⟩; have HNda := hid hnda; have hgx : Gr [] w0 wa := Gr.trans (by first | exact (Gr.refl [] w0).drew | exact ((Gr.refl [] w0).drew).alloc _ | exact (((Gr.refl [] w0).drew).alloc _).alloc _) hga; have HOa := hid hoa; have HGa := hid hgx; have Hga := hid hga; have nea : w.heap.size ≠ wa.heap.size := (by have h1 := hgx.size; have h2 := Hs0.out; omega); have nea' := nea.symm; have neb : w.heap.size ≠ wa.heap.size + 1 := (by have h1 := hgx.size; have h2 := Hs0.out; omega); have neb' := neb.symm; have fba := fld (HBX.out _ hgx); have fAa := fld (HBX.out _ (hgx.alloc (.cells #[.slice none 0 0, .slice none 0 0, .slice none 0 0] 29))); have fCa := fld (HBX.out _ (hgx.alloc (.cells (madeCells #[.slice none 0 0] s.lv.length) 23))); (try (have hz : wa.heap[w0.heap.size]? = some (.cells #[.slice none 0 0, .slice none 0 0, .slice none 0 0] 29 (0, 0)) := hga.obj (heap_alloc_new w0.drew (.cells #[.slice none 0 0, .slice none 0 0, .slice none 0 0] 29)) (by simp); have HZ := hid hz; have foz := fld hz; have ffz := fldF hz; have fozc := fld (((Gr.refl [] wa).alloc (.cells (madeCells #[.slice none 0 0] s.lv.length) 23)).obj hz (by simp)); have ffzc := fldF (((Gr.refl [] wa).alloc (.cells (madeCells #[.slice none 0 0] s.lv.length) 23)).obj hz (by simp)); have fozc2 := fld (((Gr.refl [] wa).alloc (.cells (madeCells #[.slice none 0 0] s.lv.length) 23)).obj hz (by simp)); have ffzc2 := fldF (((Gr.refl [] wa).alloc (.cells (madeCells #[.slice none 0 0] s.lv.length) 23)).obj hz (by simp)); clear hz)); (try (have hz : wa.heap[w0.heap.size]? = some (.cells #[.slice none 0 0, .slice none 0 0, .slice none 0 0] 29 (0, 0)) := hga.obj (((Gr.refl [] _).alloc (.cells (madeCells #[.slice none 0 0] s.lv.length) 23)).obj (heap_alloc_new w0.drew (.cells #[.slice none 0 0, .slice none 0 0, .slice none 0 0] 29)) (by simp)) (by simp); have HZ := hid hz; have foz := fld hz; have ffz := fldF hz; have fozc := fld (((Gr.refl [] wa).alloc (.cells (madeCells #[.slice none 0 0] s.lv.length) 23)).obj hz (by simp)); have ffzc := fldF (((Gr.refl [] wa).alloc (.cells (madeCells #[.slice none 0 0] s.lv.length) 23)).obj hz (by simp)); have fozc2 := fld (((Gr.refl [] wa).alloc (.cells (madeCells #[.slice none 0 0] s.lv.length) 23)).obj hz (by simp)); have ffzc2 := fldF (((Gr.refl [] wa).alloc (.cells (madeCells #[.slice none 0 0] s.lv.length) 23)).obj hz (by simp)); clear hz)); (try (have hz : wa.heap[w0.heap.size + 1]? = some (.cells #[.slice none 0 0, .slice none 0 0, .slice none 0 0] 29 (0, 0)) := hga.obj (by have := heap_alloc_new (w0.drew.alloc (.cells (madeCells #[.slice none 0 0] s.lv.length) 23)) (.cells #[.slice none 0 0, .slice none 0 0, .slice none 0 0] 29); rw [World.size_alloc] at this; exact this) (by simp); have HZ := hid hz; have foz := fld hz; have ffz := fldF hz; have fozc := fld (((Gr.refl [] wa).alloc (.cells (madeCells #[.slice none 0 0] s.lv.length) 23)).obj hz (by simp)); have ffzc := fldF (((Gr.refl [] wa).alloc (.cells (madeCells #[.slice none 0 0] s.lv.length) 23)).obj hz (by simp)); have fozc2 := fld (((Gr.refl [] wa).alloc (.cells (madeCells #[.slice none 0 0] s.lv.length) 23)).obj hz (by simp)); have ffzc2 := fldF (((Gr.refl [] wa).alloc (.cells (madeCells #[.slice none 0 0] s.lv.length) 23)).obj hz (by simp)); clear hz)); have fozd := fld (((Gr.refl [] (wa.alloc (.cells #[.slice none 0 0, .slice none 0 0, .slice none 0 0] 29))).alloc (.cells (madeCells #[.slice none 0 0] s.lv.length) 23)).obj (heap_alloc_new wa (.cells #[.slice none 0 0, .slice none 0 0, .slice none 0 0] 29)) (by simp)); have ffzd := fldF (((Gr.refl [] (wa.alloc (.cells #[.slice none 0 0, .slice none 0 0, .slice none 0 0] 29))).alloc (.cells (madeCells #[.slice none 0 0] s.lv.length) 23)).obj (heap_alloc_new wa (.cells #[.slice none 0 0, .slice none 0 0, .slice none 0 0] 29)) (by simp)); clear hoa hga hgx hnda))
    all_goals
      go_wp2_with fail
      go_meet
    · exact sc_meetL (wc := w0) (gc := wa.heap.size) (by have := HGa.out.size; omega) (by have := heap_alloc_new (wa.alloc (.cells (madeCells #[.slice none 0 0] s.lv.length) 23)) (.cells #[.slice ufo s.mod.doms.length ufc, .slice uco s.mod.cons.length ucc, .slice (some ⟨wa.heap.size, 0, none⟩) 0 s.lv.length] 29); rwa [World.size_alloc] at this) HGa.out (Gr.any (((Gr.refl [] wa).alloc _).alloc _)) HOa.out (Nat.le_refl _) (.inr (by omega)) (.inr (Nat.le_refl _)) (((Gr.refl [] _).alloc _).obj (heap_alloc_new wa (.cells (madeCells #[.slice none 0 0] s.lv.length) 23)) (by simp)) HGa.out.size (by omega) HNda.out
    · have hc2 := heap_alloc_new (wa.alloc (.cells #[.slice ufo s.mod.doms.length ufc, .slice uco s.mod.cons.length ucc, .slice (some ⟨wa.heap.size + 1, 0, none⟩) 0 s.lv.length] 29)) (.cells (madeCells #[.slice none 0 0] s.lv.length) 23)
      rw [World.size_alloc] at hc2
      exact sc_meetL (wc := w0) (gc := wa.heap.size + 1) HGa.out.size (((Gr.refl [] _).alloc (.cells (madeCells #[.slice none 0 0] s.lv.length) 23)).obj (heap_alloc_new wa (.cells #[.slice ufo s.mod.doms.length ufc, .slice uco s.mod.cons.length ucc, .slice (some ⟨wa.heap.size + 1, 0, none⟩) 0 s.lv.length] 29)) (by simp)) HGa.out (Gr.any (((Gr.refl [] wa).alloc _).alloc _)) HOa.out (Nat.le_refl _) (.inr (Nat.le_refl _)) (.inr (by omega)) hc2 (by have := HGa.out.size; omega) (by omega) HNda.out
    · exact sc_meetL (wc := w0.drew.alloc (.cells (madeCells #[.slice none 0 0] s.lv.length) 23)) (gc := w0.heap.size) HGa.out.size (heap_alloc_new _ _) HGa.out (Gr.any ((Gr.refl [] wa).alloc _)) HOa.out (by simp <;> omega) (.inr (Nat.le_refl _)) (.inl (by simp <;> omega)) (((Gr.refl [] _).alloc _).obj (Hga.out.obj (heap_alloc_new w0.drew (.cells (madeCells #[.slice none 0 0] s.lv.length) 23)) (by simp)) (by simp)) (Nat.le_refl _) (by have := Hga.out.size; simp at this; omega) HNda.out
    · have h5 := set3 (.slice ufo s.mod.doms.length ufc) (.slice uco s.mod.cons.length ucc) (.slice (some ⟨w0.heap.size, 0, none⟩) 0 s.lv.length) HZ.out
      exact sc_meetL (wc := (w0.drew.alloc (.cells (madeCells #[.slice none 0 0] s.lv.length) 23)).alloc (.cells #[.slice none 0 0, .slice none 0 0, .slice none 0 0] 29)) (gc := w0.heap.size) (by omega) h5.1 HGa.out h5.2 HOa.out (by simp <;> omega) (.inl (by simp <;> omega)) (.inl (by simp <;> omega)) (h5.2.obj (Hga.out.obj (((Gr.refl [] _).alloc _).obj (heap_alloc_new w0.drew (.cells (madeCells #[.slice none 0 0] s.lv.length) 23)) (by simp)) (by simp)) (by simp)) (Nat.le_refl _) (by omega) HNda.out
    · have h5 := set3 (.slice ufo s.mod.doms.length ufc) (.slice uco s.mod.cons.length ucc) (.slice (some ⟨wa.heap.size, 0, none⟩) 0 s.lv.length) (((Gr.refl [] wa).alloc (.cells (madeCells #[.slice none 0 0] s.lv.length) 23)).obj HZ.out (by simp))
      have hlt : w0.heap.size < wa.heap.size := lt_of_block HZ.out
      exact sc_meetL (wc := w0.drew.alloc (.cells #[.slice none 0 0, .slice none 0 0, .slice none 0 0] 29)) (gc := wa.heap.size) (Nat.le_refl _) h5.1 HGa.out ((Gr.any ((Gr.refl [] wa).alloc (.cells (madeCells #[.slice none 0 0] s.lv.length) 23))).trans h5.2) HOa.out (by simp <;> omega) (.inl (by simp <;> omega)) (.inr (Nat.le_refl _)) (h5.2.obj (heap_alloc_new wa (.cells (madeCells #[.slice none 0 0] s.lv.length) 23)) (by simp; omega)) HGa.out.size (by omega) HNda.out
    · have h5 := set3 (.slice ufo s.mod.doms.length ufc) (.slice uco s.mod.cons.length ucc) (.slice (some ⟨w0.heap.size + 1, 0, none⟩) 0 s.lv.length) HZ.out
      have hc2 := heap_alloc_new (w0.drew.alloc (.cells #[.slice none 0 0, .slice none 0 0, .slice none 0 0] 29)) (.cells (madeCells #[.slice none 0 0] s.lv.length) 23)
      rw [World.size_alloc] at hc2
      exact sc_meetL (wc := (w0.drew.alloc (.cells #[.slice none 0 0, .slice none 0 0, .slice none 0 0] 29)).alloc (.cells (madeCells #[.slice none 0 0] s.lv.length) 23)) (gc := w0.heap.size + 1) (Nat.le_refl _) h5.1 HGa.out h5.2 HOa.out (by simp <;> omega) (.inl (by simp <;> omega)) (.inl (by simp <;> omega)) (h5.2.obj (Hga.out.obj hc2 (by simp)) (by simp)) (by omega) (by omega) HNda.out
  case rest =>
    obtain ⟨bk, gc, ufo, ufc, uco, ucc, rfl, hbk, hbb, hgc, hnd, hgb, hgcB, hne, hndl⟩ := hcut
    have HNdl := hid hndl
    clear hndl
    have hbw : bk < wc.heap.size := lt_of_block hbb
    have hgw : gc < wc.heap.size := lt_of_block hgb
    have hs00 := Hs0.out
    obtain ⟨X, hXd⟩ : ∃ X : Nat → Prop, ∀ b, X b ↔ b < wc.heap.size ∧ b ≠ gc := ⟨fun b => b < wc.heap.size ∧ b ≠ gc, fun _ => Iff.rfl⟩
    have hown0 : OwnGX X 1 elRowL w0.heap.size wc 23 (.slice (some ⟨gc, 0, none⟩) 0 s.lv.length) ([] : List (List Int × List Addr)) :=
      ⟨[], rfl, by simp, ⟨by simp, .inr ⟨gc, s.lv.length, _, rfl, hgcB, hgb, Nat.zero_le _, by simp only [maxLen]; omega, by have := size_madeCells #[Value.slice none 0 0] s.lv.length; simpa using this, by simp⟩⟩, fun b hb hX => by simp [Value.ownBlock] at hb; subst hb; exact ((hXd gc).1 hX).2 rfl, by simp⟩
    have Hbb := hid hbb; have Hgc := hid hgc; have Hnd := hid hnd; have Hown0 := hid hown0; have HXd := hid hXd
    have fcc0 := fld (hgc.obj Hb0.out (by simp))
    clear hbb hgc hnd hown0 hXd hgb fb0
    go_wp2_with fail
    go_loopw [17] (fun i wr => ∃ (n : Nat) (ov : Value) (xs : List (List Int × List Addr)), n ≤ s.lv.length ∧ i = .int .i64 n ∧ xs.map Prod.fst = s.lv.take n ∧ (xs.flatMap Prod.snd).Nodup ∧ (∀ a ∈ xs.flatMap Prod.snd, wc.heap.size ≤ a.block ∧ a.block < wr.heap.size) ∧ OwnGX X 1 elRowL w0.heap.size wr 23 ov xs ∧ wr.heap[bk]? = some (.cells #[.slice ufo s.mod.doms.length ufc, .slice uco s.mod.cons.length ucc, ov] 29 (0, 0)) ∧ Gr [bk, gc] wc wr) (fun i _ => s.lv.length - (intOf i).toNat)
    case atStart => exact ⟨0, _, [], Nat.zero_le _, rfl, by rw [List.take_zero]; rfl, by simp, by simp, Hown0.out, Hbb.out, Gr.refl _ _⟩
    case round =>
      obtain ⟨n, ov, xs, hn, rfl, hx1, hx2, hx3, hown, hb, hg⟩ := hrel
      have hsg := hg.size
      have hgw' : Gr [] w wr := (Hg0.out.trans Hgc.out).step hg (fun i hi => .inr (by simp at hi; omega))
      have hov : ∀ b, ov.ownBlock = some b → (b = gc ∨ wc.heap.size ≤ b) ∧ b < wr.heap.size := fun b h => by
        obtain ⟨h1, h2, h3⟩ := hown.own h
        refine ⟨?_, h3⟩
        rcases Nat.lt_or_ge b wc.heap.size with h4 | h4
        · left
          rcases Decidable.em (b = gc) with h5 | h5
          · exact h5
          · exact absurd ((HXd.out b).2 ⟨h4, h5⟩) h1
        · exact .inr h4
      have Hown := hid hown; have Hb := hid hb; have Hg := hid hg; have Hgw := hid hgw'; have Hov := hid hov
      have hoc : xs.length = n := by have := congrArg List.length hx1; simp at this; omega
      have Hx1 := hid hx1; have Hx2 := hid hx2; have Hx3 := hid hx3; have Hoc := hid hoc
      clear hx1 hx2 hx3 hoc
      clear hown hb hg hgw' hov
      by_cases hlt : n < s.lv.length
      · obtain ⟨r, hx⟩ := get_some hlt
        have hrl := HR.out r (List.mem_of_getElem? hx)
        obtain ⟨b, oz, u, e1, hcell, hnu⟩ := (H2.out.gr Hgw.out).at0 hx
        subst e1
        obtain ⟨uo, uc, rfl⟩ : ∃ uo uc, u = .slice uo r.length uc := by obtain ⟨a, c, e, -⟩ := hnu; exact ⟨a, c, e⟩
        have Hx := hid hx; have Hnu := hid hnu
        have fbk := fld Hb.out
        clear hx hnu
        go_wp2_with fail
        have HBK : Hid (∀ W, Gr [] wr W → W.heap[bk]? = some (.cells #[.slice ufo s.mod.doms.length ufc, .slice uco s.mod.cons.length ucc, ov] 29 (0, 0))) := hid fun W h => h.obj Hb.out (by simp)
        go_region_law (first
          | (go_simp; go_at_call 51; refine (copied_c _ r _ (Hnu.out.gr (Gr.refl [] wr).drew) (by omega)).mono ?_; rintro e w5 ⟨v5, rfl, ho5, hg5⟩; obtain ⟨po, pc, rfl⟩ := ho5.form; have Ho5 := hid (OwnC.numsM ho5); have hgx : Gr [] wr w5 := ((Gr.refl [] wr).drew).trans hg5; have HGX := hid hgx; have HO5 := hid (Hown.out.gr elRowL_ok hgx (by simp)); have fb5 := fld (HBK.out _ hgx); have hs5 := hgx.size; have fa5 := fld (HBK.out _ (hgx.alloc (.cells #[.slice po r.length pc] 23))); clear ho5 hg5 hgx)
          | (refine step_appGX rfl _ _ 27 rfl 1 elRowL elRowL_ok w0.heap.size 23 (.slice none 0 0) 24 infoR rfl (by omega) (by omega) Tryz.underlying27 ov xs rfl X (fun b hb => by have := ((HXd.out b).1 hb).1; simp; omega) (HO5.out.gr elRowL_ok ((Gr.refl [] w5).alloc _) (by simp)) w5.heap.size 1 (r, leavesN (.slice po r.length pc)) [.slice po r.length pc] rfl rfl (by simp [Value.oneCell']) (fun j q hj => by match j, hj with | 0, hj => (simp at hj; subst hj; exact cell_one _ _ _) | j + 1, hj => simp at hj) (fun S hS => ⟨_, rfl, Ho5.out.gr' ((Gr.refl [] w5).alloc _) (by simp) (fun b hlt hb hm => by rcases hS b hm with h | h | h; (have h1 := hb.1; have h2 := ((HXd.out b).1 h).1; simp at h1; omega); (simp at h; omega); (have := (Hov.out b h).2; have := hb.1; simp at this; omega)), rfl⟩) (by rw [Hoc.out]; omega) (by simp; omega) ?_; intro g7 c7 w7 hown7 hg7 hwh7 hlt7; rw [Hoc.out] at hown7 ⊢; have HO7 := hid hown7; have HG7 := hid hg7; have hr7 := hg7.obj (HBK.out _ (HGX.out.alloc _)) (fun hm => by have := (Hov.out bk (by simpa using hm)).1; omega); have Hr7 := hid hr7; have fb7 := fld hr7; have ff7 := fldF hr7; clear hown7 hg7 hr7 hwh7))
        all_goals
          go_wp2_with fail
          refine ⟨⟨n + 1, .slice (some ⟨g7, 0, none⟩) (n + 1) c7, xs ++ [(r, leavesN (.slice po r.length pc))], by omega, by go_num, ?_, ?_, ?_, ?_, ?_, ?_⟩, by simp [intOf]; omega⟩
          · rw [List.take_add_one, Hx.out, List.map_append, Hx1.out]; rfl
          · rw [List.flatMap_append]
            refine List.nodup_append.2 ⟨Hx2.out, by simpa using leavesN_nodup _, fun a ha b hb e => ?_⟩
            subst e
            simp only [List.flatMap_cons, List.flatMap_nil, List.append_nil] at hb
            have h1 := (Hx3.out a ha).2
            have h2 := (Ho5.out.leaf a hb).1
            simp at h2
            omega
          · intro a ha
            have hs7 := HG7.out.size
            simp only [World.size_alloc] at hs7
            rw [List.flatMap_append] at ha
            rcases List.mem_append.1 ha with ha | ha
            · have := Hx3.out a ha; simp; omega
            · simp only [List.flatMap_cons, List.flatMap_nil, List.append_nil] at ha
              have h2 := Ho5.out.leaf a ha
              have h3 := h2.1; have h4 := h2.2
              simp at h3
              simp; omega
          · have := HO7.out.gr elRowL_ok (Gr.cell1 [bk] w7 ⟨bk, 2, none⟩ (.slice (some ⟨g7, 0, none⟩) (n + 1) c7) (by simp)) (fun b hb => by simp at hb; subst hb; exact (HXd.out _).2 ⟨hbw, fun e => hne e.symm⟩)
            exact this
          · have := block_cells (cur' := #[]) Hr7.out 2 (.slice (some ⟨g7, 0, none⟩) (n + 1) c7)
            simpa using this
          · exact ((Hg.out.trans (Gr.any (HGX.out.alloc _))).step HG7.out (fun i hi => by rcases (Hov.out i (by simpa using hi)).1 with h | h; (left; simp [h]); (right; exact h))).setCell _ _ (.inl (by simp))
      · have e1 : n = s.lv.length := by omega
        subst e1
        have HG := hid ((Hown.out.g (fun b hb => (HXd.out b).2 ⟨by have := Hgc.out.size; omega, by omega⟩)).le (B' := w.heap.size + 2) (by omega))
        obtain ⟨oo, oc, rfl, ho1, ho2⟩ := Hown.out.slice
        rw [Hoc.out] at Hown ho1 Hov Hb HG
        have hrr : wr.heap[w.heap.size + 1]? = some (.cells #[.slice none 0 0, .slice none 0 0, .slice none 0 0] 29 (0, 0)) := Hg.out.obj (Hgc.out.obj Hr0.out (by simp)) (by simp; omega)
        have Hrr := hid hrr; have frr := fld hrr; have ffr := fldF hrr; have fbk := fld Hb.out
        clear hrr
        go_wp2_with fail
        have h5 := set3 (.slice ufo s.mod.doms.length ufc) (.slice uco s.mod.cons.length ucc) (.slice oo s.lv.length oc) Hrr.out
        generalize (((wr.setCell ⟨w.heap.size + 1, 0, none⟩ (.slice ufo s.mod.doms.length ufc)).setCell ⟨w.heap.size + 1, 1, none⟩ (.slice uco s.mod.cons.length ucc)).setCell ⟨w.heap.size + 1, 2, none⟩ (.slice oo s.lv.length oc)) = WE at h5 ⊢
        obtain ⟨h5, hG⟩ := h5
        have flE := fld h5
        have hsE := hG.size
        refine bodyPost_ret (v := .agg #[.slice ufo s.mod.doms.length ufc, .slice uco s.mod.cons.length ucc, .slice oo s.lv.length oc]) ?_ rfl ?_
        · simp [results, Tryz.results37, go_sem, flE]
        · refine ⟨_, _, _, _, _, _, fun b => New w0.heap.size wc b ∧ b ≠ bk ∧ b ≠ gc, xs, rfl, (Hnd.out.gr' (M' := fun b => New w0.heap.size wc b ∧ b ≠ bk ∧ b ≠ gc) Hg.out (fun b hb hm => by have h1 := hm.2; simp at hb; omega) (fun _ _ h => h)).gr' hG (fun b hb hm => by have := hm.1.1; simp at hb; omega) (fun _ _ h => h), fun b hm => ⟨⟨by have := hm.1.1; omega, by have := hm.1.2; omega⟩, fun h => ?_, fun a ha e => ?_⟩, ?_, by rw [Hx1.out, List.take_length], Hx2.out, fun a ha => by have := Hx3.out a ha; omega, ((HG.out.gr elRowL_ok hG (by simp)).le (by omega)), Hgw.out.step hG (fun i hi => .inr (by simp at hi; omega))⟩
          · have h1 := (Hov.out b h).1
            have h2 := hm.1.2
            have h3 := hm.2.2
            omega
          · have h1 := (Hx3.out a ha).1
            have h2 := hm.1.2
            omega
          · rw [((Hnd.out.gr' (M' := fun b => New w0.heap.size wc b ∧ b ≠ bk ∧ b ≠ gc) Hg.out (fun b hb hm => by have h1 := hm.2; simp at hb; omega) (fun _ _ h => h)).parts.2).leaves_gr hG (fun b hb hm => by have := hm.1.1; simp at hb; omega), Hnd.out.parts.2.leaves_gr Hg.out (fun b hb hm => by have h1 := hm.2; simp at hb; omega)]
            exact HNdl.out

end Go.Proofs.YtihkeihnpiddoaaGreat
