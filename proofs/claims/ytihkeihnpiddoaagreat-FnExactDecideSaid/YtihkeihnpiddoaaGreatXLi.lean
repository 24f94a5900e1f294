/-
  Walks at literals: the sets of their values, restricted domains, validity of a clause of one literal.
-/
import Derived.Test.YtihkeihnpiddoaaGreatXLtStP
import Derived.Test.YtihkeihnpiddoaaGreatXTr
import Derived.Test.YtihkeihnpiddoaaGreatXSd
import Derived.Test.YtihkeihnpiddoaaGreatXRl
set_option linter.unusedVariables false
set_option linter.unusedSimpArgs false
namespace Go.Proofs.YtihkeihnpiddoaaGreat
open Go.RowKit

set_option maxRecDepth 100000 in
set_option maxHeartbeats 4000000 in
theorem ValidClause1_c (l : Lit) (N : Nat) (cv : Value) (w : World) (hc : LitsV [] w cv [l]) (hN : 1 ≤ N ∧ N ≤ 4) :
    Calls Tryz.prog 38 #[cv, .int .i64 (N : Int)] w fun e w' => e = .returned (.bool (litOk N l)) ∧ Gr [] w w' := by
  obtain ⟨co, cc, rfl, ⟨hc1, hc2⟩⟩ := hc.slice
  obtain ⟨b, o, rfl, -, k0, k1, k2⟩ := hc.at (i := 0) (l := l) rfl
  simp only [Nat.zero_mul, Nat.add_zero, List.length_singleton] at *
  obtain ⟨N1, rfl⟩ : ∃ N1, N = N1 + 1 := ⟨N - 1, by omega⟩
  have hw4 : inB 1 4 ((N1 : Int) + 1) = true := inB_iff.2 (by omega)
  have hcast : (((N1 + 1 : Nat) : Int)) = (N1 : Int) + 1 := by omega
  have hlo : litOk ((N1 + 1 : Nat) : Int) l = (inB 0 (N1 : Int) l.var && inB 0 5 l.val) := by unfold litOk; rw [show (((N1 + 1 : Nat) : Int)) - 1 = (N1 : Int) by omega]
  have Hlo := hid hlo
  have Hc := hid hc
  have hN3 : N1 ≤ 3 := by omega
  have hwr : IntKind.i64.wrap ((N1 : Nat) : Int) = (N1 : Int) := by rw [IntKind.wrap_i64]; omega
  clear hN
  rw [hlo]
  clear hlo hc
  go_enter Tryz.func38, Tryz.ntmps38
  go_wp2_with fail
  go_loopw [9] (fun i wr => ∃ n : Nat, n ≤ 1 ∧ i = .int .i64 n ∧ (n = 1 → (inB 0 (N1 : Int) l.var && inB 0 5 l.val) = true) ∧ Gr [] w wr) (fun i _ => 1 - (intOf i).toNat)
  case atStart => exact ⟨0, by omega, rfl, fun h => absurd h (by omega), Gr.refl _ _⟩
  case round =>
    obtain ⟨n, hn, rfl, hq, hg⟩ := hrel
    have Hg := hid hg; have Hq := hid hq
    clear hq
    have hn01 : n = 0 ∨ n = 1 := by omega
    rcases hn01 with rfl | rfl
    · have r0 := hg.cell k0 (by simp); have r1 := hg.cell k1 (by simp); have r2 := hg.cell k2 (by simp)
      have hga : Gr [] wr (wr.alloc (.cells #[.int .i64 l.var, .int .i64 l.val, .bool l.neg] 31)) := (Gr.refl _ _).alloc _
      have hbx := heap_alloc_new wr (.cells #[.int .i64 l.var, .int .i64 l.val, .bool l.neg] 31)
      have Hga := hid hga; have Hbx := hid hbx
      have fbx := fld hbx
      clear hg hga hbx k0 k1 k2
      go_wp2_with fail
      generalize hWa : wr.alloc (.cells #[.int .i64 l.var, .int .i64 l.val, .bool l.neg] 31) = wa at *
      clear hWa
      have ebx : ∀ (k : GrW [] wa) j, k.val.cell? ⟨wr.heap.size, j, none⟩ = #[.int .i64 l.var, .int .i64 l.val, .bool l.neg][j]? := fun k => fld (k.gr.obj Hbx.out (by simp))
      have hcw : ∀ k : GrW [] wa, Calls Tryz.prog 64 #[.int .i64 l.var, .int .i64 0, .int .i64 (N1 : Int)] k.val fun e w'' => e = .returned (.bool (inB 0 (N1 : Int) l.var)) ∧ ∃ m : GrW [] wa, w'' = m.val := fun k =>
        Calls.gr_of ((within_c _ _ _ _).mono fun e w' h => ⟨h.1, by rw [h.2]; exact Gr.refl _ _⟩)
      have hcv : ∀ k : GrW [] wa, Calls Tryz.prog 72 #[.int .i64 l.val] k.val fun e w'' => e = .returned (.bool (inB 0 5 l.val)) ∧ ∃ m : GrW [] wa, w'' = m.val := fun k =>
        Calls.gr_of ((valueOk_c _ _).mono fun e w' h => ⟨h.1, by rw [h.2]; exact Gr.refl _ _⟩)
      have Hcv := hid hcv; have Hcw := hid hcw
      clear hcv hcw fbx
      cases h1 : inB 0 (N1 : Int) l.var
      · refine wp_region_gr [] _ (by kernel_rfl) (by kernel_rfl) (Gr.refl _ _) ?_
        repeat (go_big_quiet_step ((go_at_call 64; have := Hcw.out; rw [h1] at this; exact this _)))
        refine wpQuiet_nil ?_
        rintro w9 ⟨n9, rfl⟩
        have hg9 := n9.gr
        go_wp2_with fail
        go_ret
        exact ⟨ret_bool (by rw [h1]; rfl), (Hg.out.trans Hga.out).trans hg9⟩
      · cases h2 : inB 0 5 l.val
        all_goals
          have HHw := Hcw.out; have HHv := Hcv.out
          rw [h1] at HHw; rw [h2] at HHv
          refine wp_region_gr [] _ (by kernel_rfl) (by kernel_rfl) (Gr.refl _ _) ?_
          repeat (go_big_quiet_step (first | (go_at_call 64; exact HHw _) | (go_at_call 72; exact HHv _)))
          refine wpQuiet_nil ?_
          rintro w9 ⟨n9, rfl⟩
          have hg9 := n9.gr
        · go_wp2_with fail
          go_ret
          exact ⟨ret_bool (by rw [h1, h2]; rfl), (Hg.out.trans Hga.out).trans hg9⟩
        · go_wp2_with fail
          exact ⟨⟨1, by omega, by go_num, fun _ => by rw [h1, h2]; rfl, (Hg.out.trans Hga.out).trans hg9⟩, by simp [intOf]⟩
    · have hq := Hq.out rfl
      go_wp2_with fail
      refine (within_c _ _ _ _).mono ?_
      rw [hw4]
      rintro e w5 ⟨rfl, rfl⟩
      go_wp2_with fail
      go_ret
      exact ⟨ret_bool (by rw [hq]), Hg.out⟩

set_option maxRecDepth 100000 in
set_option maxHeartbeats 4000000 in
theorem specValidClause1_c (l : Lit) (N : Nat) (cv : Value) (w : World) (hc : LitsV [] w cv [l]) (hN : 1 ≤ N ∧ N ≤ 4) :
    Calls Tryz.prog 45 #[cv, .int .i64 (N : Int)] w fun e w' => e = .returned (.bool (litOk N l)) ∧ Gr [] w w' := by
  obtain ⟨co, cc, rfl, ⟨hc1, hc2⟩⟩ := hc.slice
  obtain ⟨b, o, rfl, -, k0, k1, k2⟩ := hc.at (i := 0) (l := l) rfl
  simp only [Nat.zero_mul, Nat.add_zero, List.length_singleton] at *
  obtain ⟨N1, rfl⟩ : ∃ N1, N = N1 + 1 := ⟨N - 1, by omega⟩
  have hcast : (((N1 + 1 : Nat) : Int)) = (N1 : Int) + 1 := by omega
  have hlo : litOk ((N1 + 1 : Nat) : Int) l = (inB 0 (N1 : Int) l.var && inB 0 5 l.val) := by unfold litOk; rw [show (((N1 + 1 : Nat) : Int)) - 1 = (N1 : Int) by omega]
  have hN3 : N1 ≤ 3 := by omega
  have hwr : IntKind.i64.wrap ((N1 : Nat) : Int) = (N1 : Int) := by rw [IntKind.wrap_i64]; omega
  have Hk0 := hid k0; have Hk1 := hid k1; have Hk2 := hid k2
  rw [hlo]
  clear hlo hc hN
  go_enter Tryz.func45, Tryz.ntmps45
  go_wp2_with fail
  go_loopw [5] (fun i wr => ∃ n : Nat, n ≤ 1 ∧ i = .int .i64 n ∧ (n = 1 → (inB 0 (N1 : Int) l.var && inB 0 5 l.val) = true) ∧ Gr [] w wr) (fun i _ => 1 - (intOf i).toNat)
  case atStart => exact ⟨0, by omega, rfl, fun h => absurd h (by omega), Gr.refl _ _⟩
  case round =>
    obtain ⟨n, hn, rfl, hq, hg⟩ := hrel
    have Hg := hid hg; have Hq := hid hq
    clear hq
    have hn01 : n = 0 ∨ n = 1 := by omega
    rcases hn01 with rfl | rfl
    · have e0 : ∀ k : GrW [] wr, k.val.cell? ⟨b, o, none⟩ = some (.int .i64 l.var) := fun k => (Hg.out.trans k.gr).cell Hk0.out (by simp)
      have e1 : ∀ k : GrW [] wr, k.val.cell? ⟨b, o + 1, none⟩ = some (.int .i64 l.val) := fun k => (Hg.out.trans k.gr).cell Hk1.out (by simp)
      have e2 : ∀ k : GrW [] wr, k.val.cell? ⟨b, o + 2, none⟩ = some (.bool l.neg) := fun k => (Hg.out.trans k.gr).cell Hk2.out (by simp)
      have hcw : ∀ (k : GrW [] wr) (x lo hi : Int), Calls Tryz.prog 93 #[.int .i64 x, .int .i64 lo, .int .i64 hi] k.val fun e w'' => e = .returned (.bool (inB lo hi x)) ∧ ∃ m : GrW [] wr, w'' = m.val := fun k x lo hi =>
        Calls.gr_of ((inRange_c _ _ _ _).mono fun e w' h => ⟨h.1, by rw [h.2]; exact Gr.refl _ _⟩)
      have Hcw := hid hcw
      clear hg hcw k0 k1 k2
      cases h1 : inB 0 (N1 : Int) l.var
      · go_wp2_with fail
        refine wp_region_gr [] _ (by kernel_rfl) (by kernel_rfl) (Gr.refl _ _) ?_
        repeat (go_big_quiet_step ((go_at_call 93; exact Hcw.out _ _ _ _)))
        refine wpQuiet_nil ?_
        rintro w9 ⟨n9, rfl⟩
        have hg9 := n9.gr
        go_wp2_with fail
        go_ret
        exact ⟨ret_bool (by rw [h1]; rfl), Hg.out.trans hg9⟩
      · cases h2 : inB 0 5 l.val
        all_goals
          go_wp2_with fail
          refine wp_region_gr [] _ (by kernel_rfl) (by kernel_rfl) (Gr.refl _ _) ?_
          repeat (go_big_quiet_step ((go_at_call 93; exact Hcw.out _ _ _ _)))
          refine wpQuiet_nil ?_
          rintro w9 ⟨n9, rfl⟩
          have hg9 := n9.gr
        · go_wp2_with fail
          go_ret
          exact ⟨ret_bool (by rw [h1, h2]; rfl), Hg.out.trans hg9⟩
        · go_wp2_with fail
          exact ⟨⟨1, by omega, by go_num, fun _ => rfl, Hg.out.trans hg9⟩, by simp [intOf]⟩
    · have hq := Hq.out rfl
      go_wp2_with fail
      go_ret
      exact ⟨ret_bool (by simp only [hq]), Hg.out⟩
end Go.Proofs.YtihkeihnpiddoaaGreat
