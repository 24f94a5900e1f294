/-
  Walk of the program's deep copy of a model.
-/
import Derived.Test.YtihkeihnpiddoaaECpCt
import Derived.Test.YtihkeihnpiddoaaEG13
import Derived.Deep.RegionHeldLaw
import Derived.Deep.CutRange
set_option linter.unusedVariables false
set_option linter.unusedSimpArgs false
namespace Go.Proofs.Ytihkeihnpiddoaa
open Go.RowKit

theorem run_make0 {P : Program} (t e : TypeId) (z : Value) (size bytes : Nat) (ht : P.underlying t = some (.slice e)) (hinfo : (P.info? e).map (fun i => (i.zero, i.size, i.bytes)) = some (some z, size, bytes)) (c : Nat) (hb : bytes * c ≤ 281474976710656) (h63 : c ≤ 9223372036854775807) (w : World) :
    (Instr.makeSlice t (.int .i64 0) (.int .i64 (c : Int))).run P w = .ok (.slice (some ⟨w.heap.size, 0, none⟩) 0 c) (w.alloc (.cells (madeCells z.cells (c * size)) e)) := by
  obtain ⟨i, hi, hz0, hz1, hz2⟩ := info_parts hinfo
  have hb' : (i.bytes : Int) * (c : Int) ≤ 281474976710656 := by
    have h : ((i.bytes * c : Nat) : Int) ≤ 281474976710656 := by rw [hz2]; omega
    rwa [Int.natCast_mul] at h
  have hr := run_make (P := P) w t e i z ht hi hz0 .i64 .i64 0 c (Int.le_refl _) (by omega) hb' (by omega)
  simp only [Int.toNat_zero, Int.toNat_natCast, hz1] at hr
  exact hr
/-- What the opening of the copy leaves: the new model's box, its list of constraints, still empty, its domains. -/
def CpCut (m : Mod) (w0 wx : World) (p : Value) : Prop :=
  ∃ (bk gc : Nat) (ufo : Option Addr) (ufc : Nat), p = .pointer (some ⟨bk, 0, none⟩) ∧ w0.heap.size ≤ bk ∧ wx.heap[bk]? = some (.cells #[.slice ufo m.doms.length ufc, .slice (some ⟨gc, 0, none⟩) 0 m.cons.length] 29 (0, 0)) ∧ Gr [] w0 wx ∧
    NumsM (fun b => New w0.heap.size wx b ∧ b ≠ bk ∧ b ≠ gc) wx (.slice ufo m.doms.length ufc) m.doms ∧ wx.heap[gc]? = some (.cells (madeCells #[.int .i64 0, .slice none 0 0, .slice none 0 0, .int .i64 0, .slice none 0 0] (m.cons.length * 5)) 57 (0, 0)) ∧ w0.heap.size ≤ gc ∧ gc ≠ bk
theorem cp_meet {m : Mod} {w0 wc wa WE : World} {bk gc : Nat} {ufo : Option Addr} {ufc : Nat} (hbk : w0.heap.size ≤ bk) (hbb : WE.heap[bk]? = some (.cells #[.slice ufo m.doms.length ufc, .slice (some ⟨gc, 0, none⟩) 0 m.cons.length] 29 (0, 0)))
    (hg0 : Gr [] w0 wa) (hgE : Gr [bk] wa WE) (hn : NumsM (New wc.heap.size wa) wa (.slice ufo m.doms.length ufc) m.doms) (hB : w0.heap.size ≤ wc.heap.size) (hbk2 : bk < wc.heap.size ∨ wa.heap.size ≤ bk) (hgc2 : gc < wc.heap.size ∨ wa.heap.size ≤ gc)
    (hgc : WE.heap[gc]? = some (.cells (madeCells #[.int .i64 0, .slice none 0 0, .slice none 0 0, .int .i64 0, .slice none 0 0] (m.cons.length * 5)) 57 (0, 0))) (hgcB : w0.heap.size ≤ gc) (hne : gc ≠ bk) : CpCut m w0 WE (.pointer (some ⟨bk, 0, none⟩)) :=
  ⟨bk, gc, ufo, ufc, rfl, hbk, hbb, hg0.step hgE (fun i hi => .inr (by simp at hi; omega)),
    hn.gr' hgE (fun b hb hm => by have h1 := hm.1; have h2 := hm.2; simp at hb; omega) (fun b hlt hm => ⟨⟨Nat.le_trans hB hm.1, Nat.lt_of_lt_of_le hm.2 hgE.size⟩, by have h1 := hm.1; have h2 := hm.2; omega, by have h1 := hm.1; have h2 := hm.2; omega⟩), hgc, hgcB, hne⟩


set_option maxRecDepth 100000 in
set_option maxHeartbeats 4000000 in
theorem modCopied_c (m : Mod) (v : Value) (w : World) (hv : ModV [] w v m) (hs : m.Small) :
    Calls Try.prog 44 #[v] w fun e w' => ∃ xo xc co cc, e = .returned (.agg #[.slice xo m.doms.length xc, .slice co m.cons.length cc]) ∧
      ModM (New w.heap.size w') w' (.agg #[.slice xo m.doms.length xc, .slice co m.cons.length cc]) m ∧ Gr [] w w' := by
  obtain ⟨dv, cv, rfl, n1, n2⟩ := hv
  obtain ⟨xo, xc, rfl, -, -⟩ := id n1
  obtain ⟨co, cc, rfl, hcc, -⟩ := id n2
  have H1 := hid n1; have H2 := hid n2; have Hs := hid hs
  have hdl := hs.doms; have hcl := hs.cons
  have h20 := heap2 w (.cells #[.slice xo m.doms.length xc, .slice co m.cons.length cc] 29) (.cells #[.slice none 0 0, .slice none 0 0] 29)
  have hg0 : Gr [] w ((w.alloc (.cells #[.slice xo m.doms.length xc, .slice co m.cons.length cc] 29)).alloc (.cells #[.slice none 0 0, .slice none 0 0] 29)) := ((Gr.refl [] w).alloc _).alloc _
  have fb0 := fld h20.1
  have Hb0 := hid h20.1; have Hr0 := hid h20.2; have Hg0 := hid hg0
  have hs0 : ((w.alloc (.cells #[.slice xo m.doms.length xc, .slice co m.cons.length cc] 29)).alloc (.cells #[.slice none 0 0, .slice none 0 0] 29)).heap.size = w.heap.size + 2 := by simp
  clear n1 n2 hs h20 hg0
  go_enter Try.func44, Try.ntmps44
  go_wp2_with fail
  generalize hW0 : (w.alloc (.cells #[.slice xo m.doms.length xc, .slice co m.cons.length cc] 29)).alloc (.cells #[.slice none 0 0, .slice none 0 0] 29) = w0 at *
  clear hW0
  have Hs0 := hid hs0
  clear hs0
  go_cut [3] from 6 to 13 (fun p wx => CpCut m w0 wx p)
  case first =>
    have HBX : Hid (∀ W, Gr [] w0 W → W.heap[w.heap.size]? = some (.cells #[.slice xo m.doms.length xc, .slice co m.cons.length cc] 29 (0, 0))) := hid fun W h => h.obj Hb0.out (by simp)
    have ne0 : w.heap.size ≠ w0.heap.size := (by have h2 := Hs0.out; omega)
    have ne0' := ne0.symm
    have ne1 : w.heap.size ≠ w0.heap.size + 1 := (by have h2 := Hs0.out; omega)
    have ne1' := ne1.symm
    have hmk := fun W => run_make0 (P := Try.prog) 27 57 (.agg #[.int .i64 0, .slice none 0 0, .slice none 0 0, .int .i64 0, .slice none 0 0]) 5 88 Try.underlying27 infoC m.cons.length (by omega) (by omega) W
    go_region_held_law (fun W => W.cell? ⟨w.heap.size, 0, none⟩ = some (.slice xo m.doms.length xc) ∧ W.cell? ⟨w.heap.size, 1, none⟩ = some (.slice co m.cons.length cc)) (go_keep) (first
      | (go_simp; go_at_call 61; refine (copied_c _ m.doms _ (by first | exact (H1.out.gr Hg0.out).gr ((Gr.refl [] w0).drew) | exact (H1.out.gr Hg0.out).gr (((Gr.refl [] w0).drew).alloc _) | exact (H1.out.gr Hg0.out).gr ((((Gr.refl [] w0).drew).alloc _).alloc _)) hdl).mono ?_; rintro e wa ⟨va, rfl, hoa, hga⟩; obtain ⟨ufo, ufc, rfl, -, -⟩ := hoa.nums' (S := []) (by simp); have hgx : Gr [] w0 wa := Gr.trans (by first | exact (Gr.refl [] w0).drew | exact ((Gr.refl [] w0).drew).alloc _ | exact (((Gr.refl [] w0).drew).alloc _).alloc _) hga; have HOa := hid (OwnC.numsM hoa); have HGa := hid hgx; have Hga := hid hga; have nea : w.heap.size ≠ wa.heap.size := (by have h1 := hgx.size; have h2 := Hs0.out; omega); have nea' := nea.symm; have neb : w.heap.size ≠ wa.heap.size + 1 := (by have h1 := hgx.size; have h2 := Hs0.out; omega); have neb' := neb.symm; have fba := fld (HBX.out _ hgx); have fAa := fld (HBX.out _ (hgx.alloc (.cells #[.slice none 0 0, .slice none 0 0] 29))); have fCa := fld (HBX.out _ (hgx.alloc (.cells (madeCells (Value.cells (.agg #[.int .i64 0, .slice none 0 0, .slice none 0 0, .int .i64 0, .slice none 0 0])) (m.cons.length * 5)) 57))); (try (have hz : wa.heap[w0.heap.size]? = some (.cells #[.slice none 0 0, .slice none 0 0] 29 (0, 0)) := hga.obj (heap_alloc_new w0.drew (.cells #[.slice none 0 0, .slice none 0 0] 29)) (by simp); have HZ := hid hz; have foz := fld hz; have ffz := fldF hz; have fozc := fld (((Gr.refl [] wa).alloc (.cells (madeCells (Value.cells (.agg #[.int .i64 0, .slice none 0 0, .slice none 0 0, .int .i64 0, .slice none 0 0])) (m.cons.length * 5)) 57)).obj hz (by simp)); have ffzc := fldF (((Gr.refl [] wa).alloc (.cells (madeCells (Value.cells (.agg #[.int .i64 0, .slice none 0 0, .slice none 0 0, .int .i64 0, .slice none 0 0])) (m.cons.length * 5)) 57)).obj hz (by simp)); have fozc2 := fld (((Gr.refl [] wa).alloc (.cells (madeCells #[.int .i64 0, .slice none 0 0, .slice none 0 0, .int .i64 0, .slice none 0 0] (m.cons.length * 5)) 57)).obj hz (by simp)); have ffzc2 := fldF (((Gr.refl [] wa).alloc (.cells (madeCells #[.int .i64 0, .slice none 0 0, .slice none 0 0, .int .i64 0, .slice none 0 0] (m.cons.length * 5)) 57)).obj hz (by simp)); clear hz)); (try (have hz : wa.heap[w0.heap.size]? = some (.cells #[.slice none 0 0, .slice none 0 0] 29 (0, 0)) := hga.obj (((Gr.refl [] _).alloc (.cells (madeCells (Value.cells (.agg #[.int .i64 0, .slice none 0 0, .slice none 0 0, .int .i64 0, .slice none 0 0])) (m.cons.length * 5)) 57)).obj (heap_alloc_new w0.drew (.cells #[.slice none 0 0, .slice none 0 0] 29)) (by simp)) (by simp); have HZ := hid hz; have foz := fld hz; have ffz := fldF hz; have fozc := fld (((Gr.refl [] wa).alloc (.cells (madeCells (Value.cells (.agg #[.int .i64 0, .slice none 0 0, .slice none 0 0, .int .i64 0, .slice none 0 0])) (m.cons.length * 5)) 57)).obj hz (by simp)); have ffzc := fldF (((Gr.refl [] wa).alloc (.cells (madeCells (Value.cells (.agg #[.int .i64 0, .slice none 0 0, .slice none 0 0, .int .i64 0, .slice none 0 0])) (m.cons.length * 5)) 57)).obj hz (by simp)); have fozc2 := fld (((Gr.refl [] wa).alloc (.cells (madeCells #[.int .i64 0, .slice none 0 0, .slice none 0 0, .int .i64 0, .slice none 0 0] (m.cons.length * 5)) 57)).obj hz (by simp)); have ffzc2 := fldF (((Gr.refl [] wa).alloc (.cells (madeCells #[.int .i64 0, .slice none 0 0, .slice none 0 0, .int .i64 0, .slice none 0 0] (m.cons.length * 5)) 57)).obj hz (by simp)); clear hz)); (try (have hz : wa.heap[w0.heap.size + 1]? = some (.cells #[.slice none 0 0, .slice none 0 0] 29 (0, 0)) := hga.obj (by have := heap_alloc_new (w0.drew.alloc (.cells (madeCells (Value.cells (.agg #[.int .i64 0, .slice none 0 0, .slice none 0 0, .int .i64 0, .slice none 0 0])) (m.cons.length * 5)) 57)) (.cells #[.slice none 0 0, .slice none 0 0] 29); rw [World.size_alloc] at this; exact this) (by simp); have HZ := hid hz; have foz := fld hz; have ffz := fldF hz; have fozc := fld (((Gr.refl [] wa).alloc (.cells (madeCells (Value.cells (.agg #[.int .i64 0, .slice none 0 0, .slice none 0 0, .int .i64 0, .slice none 0 0])) (m.cons.length * 5)) 57)).obj hz (by simp)); have ffzc := fldF (((Gr.refl [] wa).alloc (.cells (madeCells (Value.cells (.agg #[.int .i64 0, .slice none 0 0, .slice none 0 0, .int .i64 0, .slice none 0 0])) (m.cons.length * 5)) 57)).obj hz (by simp)); have fozc2 := fld (((Gr.refl [] wa).alloc (.cells (madeCells #[.int .i64 0, .slice none 0 0, .slice none 0 0, .int .i64 0, .slice none 0 0] (m.cons.length * 5)) 57)).obj hz (by simp)); have ffzc2 := fldF (((Gr.refl [] wa).alloc (.cells (madeCells #[.int .i64 0, .slice none 0 0, .slice none 0 0, .int .i64 0, .slice none 0 0] (m.cons.length * 5)) 57)).obj hz (by simp)); clear hz)); have fozd := fld (((Gr.refl [] (wa.alloc (.cells #[.slice none 0 0, .slice none 0 0] 29))).alloc (.cells (madeCells (Value.cells (.agg #[.int .i64 0, .slice none 0 0, .slice none 0 0, .int .i64 0, .slice none 0 0])) (m.cons.length * 5)) 57)).obj (heap_alloc_new wa (.cells #[.slice none 0 0, .slice none 0 0] 29)) (by simp)); have ffzd := fldF (((Gr.refl [] (wa.alloc (.cells #[.slice none 0 0, .slice none 0 0] 29))).alloc (.cells (madeCells (Value.cells (.agg #[.int .i64 0, .slice none 0 0, .slice none 0 0, .int .i64 0, .slice none 0 0])) (m.cons.length * 5)) 57)).obj (heap_alloc_new wa (.cells #[.slice none 0 0, .slice none 0 0] 29)) (by simp)); clear hoa hga hgx))
    all_goals
      go_wp2_with fail
      go_meet
    · exact cp_meet (wc := w0) (gc := wa.heap.size) (by have := HGa.out.size; omega) (by have := heap_alloc_new (wa.alloc (.cells (madeCells #[.int .i64 0, .slice none 0 0, .slice none 0 0, .int .i64 0, .slice none 0 0] (m.cons.length * 5)) 57)) (.cells #[.slice ufo m.doms.length ufc, .slice (some ⟨wa.heap.size, 0, none⟩) 0 m.cons.length] 29); rwa [World.size_alloc] at this) HGa.out (Gr.any (((Gr.refl [] wa).alloc _).alloc _)) HOa.out (Nat.le_refl _) (.inr (by omega)) (.inr (Nat.le_refl _)) (((Gr.refl [] _).alloc _).obj (heap_alloc_new wa (.cells (madeCells #[.int .i64 0, .slice none 0 0, .slice none 0 0, .int .i64 0, .slice none 0 0] (m.cons.length * 5)) 57)) (by simp)) HGa.out.size (by omega)
    · have hc2 := heap_alloc_new (wa.alloc (.cells #[.slice ufo m.doms.length ufc, .slice (some ⟨wa.heap.size + 1, 0, none⟩) 0 m.cons.length] 29)) (.cells (madeCells #[.int .i64 0, .slice none 0 0, .slice none 0 0, .int .i64 0, .slice none 0 0] (m.cons.length * 5)) 57)
      rw [World.size_alloc] at hc2
      exact cp_meet (wc := w0) (gc := wa.heap.size + 1) HGa.out.size (((Gr.refl [] _).alloc (.cells (madeCells #[.int .i64 0, .slice none 0 0, .slice none 0 0, .int .i64 0, .slice none 0 0] (m.cons.length * 5)) 57)).obj (heap_alloc_new wa (.cells #[.slice ufo m.doms.length ufc, .slice (some ⟨wa.heap.size + 1, 0, none⟩) 0 m.cons.length] 29)) (by simp)) HGa.out (Gr.any (((Gr.refl [] wa).alloc _).alloc _)) HOa.out (Nat.le_refl _) (.inr (Nat.le_refl _)) (.inr (by omega)) hc2 (by have := HGa.out.size; omega) (by omega)
    · exact cp_meet (wc := w0.drew.alloc (.cells (madeCells #[.int .i64 0, .slice none 0 0, .slice none 0 0, .int .i64 0, .slice none 0 0] (m.cons.length * 5)) 57)) (gc := w0.heap.size) HGa.out.size (heap_alloc_new _ _) HGa.out (Gr.any ((Gr.refl [] wa).alloc _)) HOa.out (by simp <;> omega) (.inr (Nat.le_refl _)) (.inl (by simp <;> omega)) (((Gr.refl [] _).alloc _).obj (Hga.out.obj (heap_alloc_new w0.drew (.cells (madeCells #[.int .i64 0, .slice none 0 0, .slice none 0 0, .int .i64 0, .slice none 0 0] (m.cons.length * 5)) 57)) (by simp)) (by simp)) (Nat.le_refl _) (by have := Hga.out.size; simp at this; omega)
    · have h5 := set2 _ _ (.slice ufo m.doms.length ufc) (.slice (some ⟨w0.heap.size, 0, none⟩) 0 m.cons.length) HZ.out
      exact cp_meet (wc := (w0.drew.alloc (.cells (madeCells #[.int .i64 0, .slice none 0 0, .slice none 0 0, .int .i64 0, .slice none 0 0] (m.cons.length * 5)) 57)).alloc (.cells #[.slice none 0 0, .slice none 0 0] 29)) (gc := w0.heap.size) (by omega) h5.1 HGa.out h5.2 HOa.out (by simp <;> omega) (.inl (by simp <;> omega)) (.inl (by simp <;> omega)) (h5.2.obj (Hga.out.obj (((Gr.refl [] _).alloc _).obj (heap_alloc_new w0.drew (.cells (madeCells #[.int .i64 0, .slice none 0 0, .slice none 0 0, .int .i64 0, .slice none 0 0] (m.cons.length * 5)) 57)) (by simp)) (by simp)) (by simp)) (Nat.le_refl _) (by omega)
    · have h5 := set2 _ _ (.slice ufo m.doms.length ufc) (.slice (some ⟨wa.heap.size, 0, none⟩) 0 m.cons.length) (((Gr.refl [] wa).alloc (.cells (madeCells #[.int .i64 0, .slice none 0 0, .slice none 0 0, .int .i64 0, .slice none 0 0] (m.cons.length * 5)) 57)).obj HZ.out (by simp))
      have hlt : w0.heap.size < wa.heap.size := lt_of_block HZ.out
      exact cp_meet (wc := w0.drew.alloc (.cells #[.slice none 0 0, .slice none 0 0] 29)) (gc := wa.heap.size) (Nat.le_refl _) h5.1 HGa.out ((Gr.any ((Gr.refl [] wa).alloc (.cells (madeCells #[.int .i64 0, .slice none 0 0, .slice none 0 0, .int .i64 0, .slice none 0 0] (m.cons.length * 5)) 57))).trans h5.2) HOa.out (by simp <;> omega) (.inl (by simp <;> omega)) (.inr (Nat.le_refl _)) (h5.2.obj (heap_alloc_new wa (.cells (madeCells #[.int .i64 0, .slice none 0 0, .slice none 0 0, .int .i64 0, .slice none 0 0] (m.cons.length * 5)) 57)) (by simp; omega)) HGa.out.size (by omega)
    · have h5 := set2 _ _ (.slice ufo m.doms.length ufc) (.slice (some ⟨w0.heap.size + 1, 0, none⟩) 0 m.cons.length) HZ.out
      have hc2 := heap_alloc_new (w0.drew.alloc (.cells #[.slice none 0 0, .slice none 0 0] 29)) (.cells (madeCells #[.int .i64 0, .slice none 0 0, .slice none 0 0, .int .i64 0, .slice none 0 0] (m.cons.length * 5)) 57)
      rw [World.size_alloc] at hc2
      exact cp_meet (wc := (w0.drew.alloc (.cells #[.slice none 0 0, .slice none 0 0] 29)).alloc (.cells (madeCells #[.int .i64 0, .slice none 0 0, .slice none 0 0, .int .i64 0, .slice none 0 0] (m.cons.length * 5)) 57)) (gc := w0.heap.size + 1) (Nat.le_refl _) h5.1 HGa.out h5.2 HOa.out (by simp <;> omega) (.inl (by simp <;> omega)) (.inl (by simp <;> omega)) (h5.2.obj (Hga.out.obj hc2 (by simp)) (by simp)) (by omega) (by omega)
  case rest =>
    obtain ⟨bk, gc, ufo, ufc, rfl, hbk, hbb, hgc, hnd, hgb, hgcB, hne⟩ := hcut
    have hbw : bk < wc.heap.size := lt_of_block hbb
    have hgw : gc < wc.heap.size := lt_of_block hgb
    have hs00 := Hs0.out
    obtain ⟨X, hXd⟩ : ∃ X : Nat → Prop, ∀ b, X b ↔ b < wc.heap.size ∧ b ≠ gc := ⟨fun b => b < wc.heap.size ∧ b ≠ gc, fun _ => Iff.rfl⟩
    have hown0 : OwnGX X 5 elConM w0.heap.size wc 57 (.slice (some ⟨gc, 0, none⟩) 0 m.cons.length) ([] : List Con) :=
      ⟨[], rfl, by simp, ⟨by simp, .inr ⟨gc, m.cons.length, _, rfl, hgcB, hgb, Nat.zero_le _, by simp only [maxLen]; omega, size_madeCells _ _, by simp⟩⟩, fun b hb hX => by simp [Value.ownBlock] at hb; subst hb; exact ((hXd gc).1 hX).2 rfl, by simp⟩
    have Hbb := hid hbb; have Hgc := hid hgc; have Hnd := hid hnd; have Hown0 := hid hown0; have HXd := hid hXd
    have fcc0 := fld (hgc.obj Hb0.out (by simp))
    clear hbb hgc hnd hown0 hXd hgb fb0
    go_wp2_with fail
    go_loopw [17] (fun i wr => ∃ (n : Nat) (ov : Value), n ≤ m.cons.length ∧ i = .int .i64 n ∧ OwnGX X 5 elConM w0.heap.size wr 57 ov (m.cons.take n) ∧ wr.heap[bk]? = some (.cells #[.slice ufo m.doms.length ufc, ov] 29 (0, 0)) ∧ Gr [bk, gc] wc wr) (fun i _ => m.cons.length - (intOf i).toNat)
    case atStart => exact ⟨0, _, Nat.zero_le _, rfl, by rw [List.take_zero]; exact Hown0.out, Hbb.out, Gr.refl _ _⟩
    case round =>
      obtain ⟨n, ov, hn, rfl, hown, hb, hg⟩ := hrel
      have hsg := hg.size
      have hgw' : Gr [] w wr := (Hg0.out.trans Hgc.out).step hg (fun i hi => .inr (by simp at hi; omega))
      have hov : ∀ b, ov.ownBlock = some b → (b = gc ∨ wc.heap.size ≤ b) ∧ b < wr.heap.size := fun b h => by
        obtain ⟨h1, h2, h3⟩ := hown.own h
        refine ⟨?_, h3⟩
        rcases Nat.lt_or_ge b wc.heap.size with h4 | h4
        · left
          rcases Nat.eq_or_lt_of_le (Nat.le_refl b) with _ | _
          · rcases Decidable.em (b = gc) with h5 | h5
            · exact h5
            · exact absurd ((HXd.out b).2 ⟨h4, h5⟩) h1
          · omega
        · exact .inr h4
      have Hown := hid hown; have Hb := hid hb; have Hg := hid hg; have Hgw := hid hgw'; have Hov := hid hov
      have hoc : (m.cons.take n).length = n := by rw [List.length_take]; omega
      clear hown hb hg hgw' hov
      by_cases hlt : n < m.cons.length
      · obtain ⟨c, hx⟩ := get_some hlt
        have hcm := List.mem_of_getElem? hx
        have hcs := Hs.out.con c hcm
        obtain ⟨b, oz, vo, vc, xo2, xc2, ro, rc, e1, -, ⟨k0, k1, k2, k3, k4⟩, hcv⟩ := H2.out.at2 hx
        subst e1
        have Hx := hid hx; have Hcv := hid hcv; have Hcs := hid hcs
        have r0 := Hgw.out.cell k0 (by simp); have r1 := Hgw.out.cell k1 (by simp); have r2 := Hgw.out.cell k2 (by simp); have r3 := Hgw.out.cell k3 (by simp); have r4 := Hgw.out.cell k4 (by simp)
        have hbx := heap_alloc_new wr (.cells #[.int .i64 c.kind, .slice vo c.vars.length vc, .slice xo2 c.args.length xc2, .int .i64 c.bound, .slice ro c.rows.length rc] 57)
        have hga : Gr [] wr (wr.alloc (.cells #[.int .i64 c.kind, .slice vo c.vars.length vc, .slice xo2 c.args.length xc2, .int .i64 c.bound, .slice ro c.rows.length rc] 57)) := (Gr.refl _ _).alloc _
        have hsb : (wr.alloc (.cells #[.int .i64 c.kind, .slice vo c.vars.length vc, .slice xo2 c.args.length xc2, .int .i64 c.bound, .slice ro c.rows.length rc] 57)).heap.size = wr.heap.size + 1 := by simp
        have hbkb := hga.obj Hb.out (by simp)
        have fbx := fld hbx; have fbk := fld hbkb
        have Hbkb := hid hbkb; have Hga := hid hga
        clear hx hcv hcs k0 k1 k2 k3 k4 hbx hbkb hga
        go_wp2_with fail
        generalize hWb : wr.alloc (.cells #[.int .i64 c.kind, .slice vo c.vars.length vc, .slice xo2 c.args.length xc2, .int .i64 c.bound, .slice ro c.rows.length rc] 57) = wb at *
        clear hWb
        have HBK : Hid (∀ W, Gr [] wb W → W.heap[bk]? = some (.cells #[.slice ufo m.doms.length ufc, ov] 29 (0, 0))) := hid fun W h => h.obj Hbkb.out (by simp)
        have HsB := hid hsb
        clear hsb
        go_region_law (first
          | (go_simp; go_at_call 62; refine (conCopied_c c _ _ (Hcv.out.gr ((Hgw.out.trans Hga.out).trans ((Gr.refl [] wb).drew))) Hcs.out).mono ?_; rintro e w5 ⟨v5, rfl, hm5, hg5⟩; obtain ⟨uo, uc, po, pc, ro', rc', rfl, -, -, -⟩ := hm5.open; have hgx : Gr [] wb w5 := ((Gr.refl [] wb).drew).trans hg5; have HGX := hid hgx; have Hm5 := hid hm5; have HO5 := hid (Hown.out.gr elConM_ok (Hga.out.trans hgx) (by simp)); have fb5 := fld (HBK.out _ hgx); have hs5 := hgx.size; have fa5 := fld (HBK.out _ (hgx.alloc (.cells #[.int .i64 c.kind, .slice uo c.vars.length uc, .slice po c.args.length pc, .int .i64 c.bound, .slice ro' c.rows.length rc'] 57))); clear hm5 hg5 hgx)
          | (refine step_appGX rfl _ _ 27 rfl 5 elConM elConM_ok w0.heap.size 57 (.agg #[.int .i64 0, .slice none 0 0, .slice none 0 0, .int .i64 0, .slice none 0 0]) 88 infoC rfl (by omega) (by omega) Try.underlying27 ov (m.cons.take n) rfl X (fun b hb => by have := ((HXd.out b).1 hb).1; have := HsB.out; simp; omega) (HO5.out.gr elConM_ok ((Gr.refl [] w5).alloc _) (by simp)) w5.heap.size 1 c [.int .i64 c.kind, .slice uo c.vars.length uc, .slice po c.args.length pc, .int .i64 c.bound, .slice ro' c.rows.length rc'] rfl rfl (by simp [Value.oneCell']) (fun j q hj => by rw [fld (heap_alloc_new w5 _) j]; simpa using hj) (fun S hS => ⟨_, _, _, _, _, _, rfl, Hm5.out.gr' ((Gr.refl [] w5).alloc _) (by simp) (fun b hlt hb hm => by have hB := HsB.out; rcases hS b hm with h | h | h; (have h1 := hb.1; have h2 := ((HXd.out b).1 h).1; simp at h1; omega); (simp at h; omega); (have := (Hov.out b h).2; have := hb.1; simp at this; omega))⟩) (by omega) (by have hB := HsB.out; simp; omega) ?_; intro g7 c7 w7 hown7 hg7 hwh7 hlt7; have HO7 := hid hown7; have HG7 := hid hg7; have hr7 := hg7.obj (HBK.out _ (HGX.out.alloc _)) (fun hm => by have := (Hov.out bk (by simpa using hm)).1; omega); have Hr7 := hid hr7; have fb7 := fld hr7; have ff7 := fldF hr7; clear hown7 hg7 hr7 hwh7))
        all_goals
          go_wp2_with fail
          refine ⟨⟨n + 1, .slice (some ⟨g7, 0, none⟩) (n + 1) c7, by omega, by go_num, ?_, ?_, ?_⟩, by simp [intOf]; omega⟩
          · rw [List.take_add_one, Hx.out]
            have := HO7.out.gr elConM_ok (Gr.cell1 [bk] w7 ⟨bk, 1, none⟩ (.slice (some ⟨g7, 0, none⟩) (n + 1) c7) (by simp)) (fun b hb => by simp at hb; subst hb; exact (HXd.out _).2 ⟨hbw, fun e => hne e.symm⟩)
            rw [hoc] at this
            exact this
          · have := block_cells (cur' := #[]) Hr7.out 1 (.slice (some ⟨g7, 0, none⟩) (n + 1) c7)
            simpa using this
          · exact ((Hg.out.trans (Gr.any (Hga.out.trans (HGX.out.alloc _)))).step HG7.out (fun i hi => by rcases (Hov.out i (by simpa using hi)).1 with h | h; (left; simp [h]); (right; exact h))).setCell _ _ (.inl (by simp))
      · have e1 : n = m.cons.length := by omega
        subst e1
        rw [List.take_length] at Hown
        have Hcons := hid (OwnG.consM (Hown.out.g (fun b hb => (HXd.out b).2 ⟨by have := Hgc.out.size; omega, by omega⟩)))
        obtain ⟨oo, oc, rfl, ho1, ho2⟩ := Hown.out.slice
        have hrr : wr.heap[w.heap.size + 1]? = some (.cells #[.slice none 0 0, .slice none 0 0] 29 (0, 0)) := Hg.out.obj (Hgc.out.obj Hr0.out (by simp)) (by simp; omega)
        have Hrr := hid hrr; have frr := fld hrr; have ffr := fldF hrr; have fbk := fld Hb.out
        clear hrr
        go_wp2_with fail
        have h5 := set2 _ _ (.slice ufo m.doms.length ufc) (.slice oo m.cons.length oc) Hrr.out
        generalize ((wr.setCell ⟨w.heap.size + 1, 0, none⟩ (.slice ufo m.doms.length ufc)).setCell ⟨w.heap.size + 1, 1, none⟩ (.slice oo m.cons.length oc)) = WE at h5 ⊢
        obtain ⟨h5, hG⟩ := h5
        have flE := fld h5
        have hsE := hG.size
        refine bodyPost_ret (v := .agg #[.slice ufo m.doms.length ufc, .slice oo m.cons.length oc]) ?_ rfl ?_
        · simp [results, Try.results44, go_sem, flE]
        · refine ⟨_, _, _, _, rfl, ⟨_, _, rfl, ?_, ?_⟩, Hgw.out.step hG (fun i hi => .inr (by simp at hi; omega))⟩
          · exact (Hnd.out.gr' (M' := New w0.heap.size wr) Hg.out (fun b hb hm => by have h2 := hm.2; simp at hb; omega) (fun b hl hm => ⟨hm.1.1, by have := hm.1.2; omega⟩)).gr' (M' := New w.heap.size WE) hG (fun b hb hm => by have := hm.1; simp at hb; omega) (fun b hl hm => ⟨by have := hm.1; omega, by have := hm.2; omega⟩)
          · exact Hcons.out.gr' (M' := New w.heap.size WE) hG (fun b hb hm => by have := hm.1; simp at hb; omega) (fun b hl hm => ⟨by have := hm.1; omega, by have := hm.2; omega⟩)

end Go.Proofs.Ytihkeihnpiddoaa
