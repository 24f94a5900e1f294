/-
  Walks of the program's ValidDiagram, paths, DiagramCount, DiagramDomains.
-/
import Derived.Test.YtmonhpoogfdpoaaGreatXBq
import Derived.Test.YtmonhpoogfdpoaaGreatXBf
import Derived.Test.YtmonhpoogfdpoaaGreatXA
set_option linter.unusedVariables false
set_option linter.unusedSimpArgs false
namespace Go.Proofs.YtmonhpoogfdpoaaGreat
open Go.RowKit

theorem validDiagramRow_c (row : List Int) (rv : Value) (last : Int) (b o : Nat) (w : World) (hr : Nums [] w .i64 rv row) (hb : w.cell? ⟨b, o, none⟩ = some (.int .i64 last)) (h6 : row.length = 6) (hx : ∀ x ∈ row, -1 ≤ x ∧ x ≤ last) :
    Calls Tryz.prog 30 #[rv, .pointer (some ⟨b, o, none⟩)] w fun e w' => e = .returned (.bool false) ∧ Gr [] w w' := by
  have Hr := hid hr; have H6 := hid h6
  have hall := allB_iff.2 hx
  obtain ⟨ao, cap, rfl, ⟨h1, h2, -⟩, -⟩ := hr
  rw [h6] at h1 Hr ⊢
  clear h6 hx
  go_enter Tryz.func30, Tryz.ntmps30
  go_wp2_with fail
  have hcall := allIn_c row (-1) last _ w Hr.out
  (with_reducible refine hcall.mono ?_)
  clear hcall
  rw [hall]
  rintro e w1 ⟨rfl, hg1⟩
  go_wp2_with fail
  go_ret
  exact ⟨rfl, hg1⟩

set_option maxRecDepth 100000 in
set_option maxHeartbeats 2000000 in
theorem ValidDiagram_c (d : List (List (List Int))) (dv : Value) (w : World) (hx : DgV [] w dv d) (hd : ValD d) :
    Calls Tryz.prog 11 #[dv] w fun e w' => e = .returned (.bool true) ∧ Gr [] w w' := by
  have Hx := hid hx; have HD := hid hd
  obtain ⟨L0, hL0⟩ := get_some (xs := d) (k := 0) (by have := hd.len; omega)
  have h01 := hd.one L0 hL0
  have hlen := hd.len
  obtain ⟨do', dc, rfl, ⟨h1, h2, -⟩, -⟩ := hx
  obtain ⟨bd, od, lo0, lc0, rfl, -, hcell0, ⟨h3, h4⟩, -⟩ := Hx.out.at3 hL0
  rw [h01] at hcell0 h3
  rw [Nat.add_zero] at hcell0
  have hwi := fun W => within_c (d.length : Int) 1 4 W
  rw [inB_iff.2 (by omega)] at hwi
  have Hwi := hid hwi
  clear hwi hL0 h01 hd
  go_enter Tryz.func11, Tryz.ntmps11
  go_wp2_with (go_at_call 28; refine (Hwi.out _).mono ?_; rintro e w' ⟨rfl, rfl⟩)
  clear hcell0
  go_loopw [19] (fun u wr => ∃ i : Nat, i ≤ d.length ∧ u = .int .i64 i ∧ Gr [] w' wr) (fun u _ => d.length - (intOf u).toNat)
  case atStart => exact ⟨0, by omega, rfl, Gr.refl _ _⟩
  case round =>
    obtain ⟨i, hi, rfl, hg⟩ := hrel
    have Hg := hid hg
    by_cases hlt : i < d.length
    · obtain ⟨L, hL⟩ := get_some hlt
      obtain ⟨⟨hl1, hl2⟩, hrows⟩ := HD.out.lay i L hL
      have hld := (Hx.out.gr hg).at3 hL
      obtain ⟨b, o, lo, lc, e0, -, hcell, ⟨h5, h6⟩, hLv⟩ := hld
      cases e0
      have hwL := fun W => within_c (L.length : Int) 1 216 W
      rw [inB_iff.2 (by omega)] at hwL
      have HL := hid hL; have HLv := hid hLv; have Hrows := hid hrows
      clear hL hLv hrows hg
      by_cases hn : i + 1 < d.length
      · obtain ⟨N, hN⟩ := get_some hn
        have hNd := (Hx.out.gr Hg.out).at3 hN
        obtain ⟨b', o', no, nc, e0, -, hcellN, ⟨h7, h8⟩, -⟩ := hNd
        cases e0
        have hr2 : ∀ r ∈ L, r.length = 6 ∧ ∀ x ∈ r, -1 ≤ x ∧ x ≤ (N.length : Int) - 1 := fun r hr => by
          obtain ⟨k1, k2⟩ := Hrows.out r hr
          rw [hN] at k2
          exact ⟨k1, fun x hx => by have := k2 x hx; simp at this; omega⟩
        have Hr2 := hid hr2
        have hga : Gr [] wr (wr.alloc (.cells #[.int .i64 0] 3)) := (Gr.refl _ _).alloc _
        have hcellN2 := hga.cell hcellN (by simp)
        have hbx := fld (heap_alloc_new wr (.cells #[.int .i64 0] 3))
        have hbf := fldF (heap_alloc_new wr (.cells #[.int .i64 0] 3))
        clear hN hr2 hcellN
        go_wp2_with (go_at_call 28; refine (hwL _).mono ?_; rintro e w5 ⟨rfl, rfl⟩)
        have hgb : Gr [] wr (wr.alloc (.cells #[.int .i64 ((N.length : Int) - 1)] 3)) := (Gr.refl _ _).alloc _
        refine (containsRow_c L (fun _ => false) _ 30 _ _ (HLv.out.gr hgb) (fun _ _ => by kernel_rfl) ?_).mono ?_
        · intro r rv w1 hrL hg1 hrv
          exact validDiagramRow_c r rv _ _ _ w1 hrv (hg1.cell (fld (heap_alloc_new wr (.cells #[.int .i64 ((N.length : Int) - 1)] 3)) 0) (by simp)) (Hr2.out r hrL).1 (Hr2.out r hrL).2
        rintro e w6 ⟨rfl, hg6⟩
        have hany : anyG (fun _ : List Int => false) L = false := by simp [anyG]
        rw [hany]
        go_wp2_with fail
        exact ⟨⟨i + 1, by omega, by go_num, Hg.out.trans (hgb.trans hg6)⟩, by simp [intOf]; omega⟩
      · have hr2 : ∀ r ∈ L, r.length = 6 ∧ ∀ x ∈ r, -1 ≤ x ∧ x ≤ 0 := fun r hr => by
          obtain ⟨k1, k2⟩ := Hrows.out r hr
          rw [List.getElem?_eq_none (by omega)] at k2
          exact ⟨k1, fun x hx => by have := k2 x hx; simp at this; omega⟩
        have hbx := fld (heap_alloc_new wr (.cells #[.int .i64 0] 3))
        have Hr2 := hid hr2
        clear hr2
        go_wp2_with (go_at_call 28; refine (hwL _).mono ?_; rintro e w5 ⟨rfl, rfl⟩)
        have hgb : Gr [] wr (wr.alloc (.cells #[.int .i64 (0)] 3)) := (Gr.refl _ _).alloc _
        refine (containsRow_c L (fun _ => false) _ 30 _ _ (HLv.out.gr hgb) (fun _ _ => by kernel_rfl) ?_).mono ?_
        · intro r rv w1 hrL hg1 hrv
          exact validDiagramRow_c r rv _ _ _ w1 hrv (hg1.cell (fld (heap_alloc_new wr (.cells #[.int .i64 (0)] 3)) 0) (by simp)) (Hr2.out r hrL).1 (Hr2.out r hrL).2
        rintro e w6 ⟨rfl, hg6⟩
        have hany : anyG (fun _ : List Int => false) L = false := by simp [anyG]
        rw [hany]
        go_wp2_with fail
        exact ⟨⟨i + 1, by omega, by go_num, Hg.out.trans (hgb.trans hg6)⟩, by simp [intOf]; omega⟩
    · go_wp2_with fail
      go_ret
      exact ⟨rfl, hg⟩
end Go.Proofs.YtmonhpoogfdpoaaGreat
