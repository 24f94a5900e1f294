/-
  Walks: validity of clauses of any length, on both sides.
  Walks: the reference's merged clauses, its negations; NegateAll on both sides.
-/
import Derived.Test.YtlekngkcifgonaaGreatXLySrNg
set_option linter.unusedVariables false
set_option linter.unusedSimpArgs false
namespace Go.Proofs.YtlekngkcifgonaaGreat
open Go.RowKit

theorem valueOkV_c (d : Int) (w : World) : Calls Tryz.prog 123 #[.int .i64 d] w fun e w' => e = .returned (.bool (inB 0 5 d)) ∧ w' = w := by
  go_enter Tryz.func123, Tryz.ntmps123
  go_wp2_with fail
  refine (within_c _ _ _ _).mono ?_
  rintro e w5 ⟨rfl, rfl⟩
  go_wp2_with fail
  go_ret
  exact ⟨rfl, rfl⟩
/-- Literals with variables up to hi. -/
def okHi (hi : Int) (l : Lit) : Bool := inB 0 hi l.var && inB 0 5 l.val
theorem okHi_litOk (n : Int) : okHi (n - 1) = litOk n := rfl
def preOk (hi : Int) (c : Cls) (k : Nat) : Prop := (∀ x ∈ c.take k, okHi hi x = true) ∧ ascB (c.take k) = true
theorem preOk_0 (hi : Int) (c : Cls) : preOk hi c 0 := ⟨by simp, rfl⟩
theorem preOk_succ {hi : Int} {c : Cls} {k : Nat} {l : Lit} (h : c[k]? = some l) : preOk hi c (k + 1) ↔ preOk hi c k ∧ okHi hi l = true ∧ (∀ j y, k = j + 1 → c[j]? = some y → litLt y l = true) := by
  have := validClS_step (n := hi + 1) h
  have e : litOk (hi + 1) = okHi hi := by rw [← okHi_litOk]; congr 1; omega
  rw [e] at this
  exact this
theorem preOk_mono {hi : Int} {c : Cls} {k j : Nat} (h : preOk hi c j) (hk : k ≤ j) : preOk hi c k := by
  obtain ⟨h1, h2⟩ := h
  have e : c.take k = (c.take j).take k := by rw [List.take_take]; congr 1; omega
  refine ⟨fun x hx => h1 x ?_, ?_⟩
  · rw [e] at hx; exact List.mem_of_mem_take hx
  · rw [ascB_iff] at h2 ⊢
    rw [e]
    exact h2.sublist (List.take_sublist _ _)
theorem validCl_of {c : Cls} {n : Int} (h : preOk (n - 1) c c.length) : validClS c n = decide (c.length ≤ 12) := by
  obtain ⟨h1, h2⟩ := h
  rw [List.take_length] at h1 h2
  unfold validClS
  rw [h2, List.all_eq_true.2 (by rw [← okHi_litOk]; exact h1)]
  rfl
theorem validCl_not {c : Cls} {n : Int} {k : Nat} (h : ¬ preOk (n - 1) c k) (hk : k ≤ c.length) : validClS c n = false := by
  cases hv : validClS c n
  · rfl
  · refine absurd (preOk_mono (j := c.length) ?_ hk) h
    obtain ⟨h1, h2, h3⟩ := validClS_iff.1 hv
    exact ⟨by rw [List.take_length, okHi_litOk]; exact h1, by rw [List.take_length, ascB_iff]; exact h2⟩

set_option maxRecDepth 100000 in
set_option maxHeartbeats 4000000 in
theorem validClause_hi (c : Cls) (n hi : Int) (cv : Value) (w : World) (hc : LitsV [] w cv c) (hl : c.length ≤ 2000000) (hn : I64 n) (hhi : IntKind.i64.wrap (n - 1) = hi) :
    Calls Tryz.prog 91 #[cv, .int .i64 n] w fun e w' => (∃ r, e = .returned (.bool r) ∧ (preOk hi c c.length → r = (inB 1 4 n && decide (c.length ≤ 12))) ∧ (∀ k, k ≤ c.length → ¬ preOk hi c k → r = false)) ∧ Gr [] w w' := by
  obtain ⟨co, cc, rfl, ⟨hc1, hc2⟩⟩ := hc.slice
  have Hc := hid hc; have Hhi := hid hhi
  clear hc
  go_enter Tryz.func91, Tryz.ntmps91
  go_wp2_with fail
  go_loopw [9] (fun i wr => ∃ k : Nat, k ≤ c.length ∧ i = .int .i64 k ∧ Hid (preOk hi c k) ∧ Gr [] w wr) (fun i _ => c.length - (intOf i).toNat)
  case atStart => exact ⟨0, Nat.zero_le _, rfl, hid (preOk_0 hi c), Gr.refl _ _⟩
  case round =>
    obtain ⟨k, hk, rfl, Hp, hg⟩ := hrel
    have Hg := hid hg
    by_cases hlt : k < c.length
    · obtain ⟨x, hx⟩ := get_some hlt
      obtain ⟨b, o, rfl, -, k0, k1, k2⟩ := (Hc.out.gr hg).at hx
      have hga : Gr [] wr (wr.alloc (.cells #[.int .i64 x.var, .int .i64 x.val, .bool x.neg] 45)) := (Gr.refl _ _).alloc _
      have hbx := heap_alloc_new wr (.cells #[.int .i64 x.var, .int .i64 x.val, .bool x.neg] 45)
      have Hga := hid hga; have Hbx := hid hbx; have Hx := hid hx
      have Hsc := hid (preOk_succ (hi := hi) hx)
      have fbx := fld hbx
      clear hga hbx hx hhi hg
      go_wp2_with fail
      generalize hWa : wr.alloc (.cells #[.int .i64 x.var, .int .i64 x.val, .bool x.neg] 45) = wa at *
      clear hWa
      have ebx : ∀ (q : GrW [] wa) j, q.val.cell? ⟨wr.heap.size, j, none⟩ = #[.int .i64 x.var, .int .i64 x.val, .bool x.neg][j]? := fun q => fld (q.gr.obj Hbx.out (by simp))
      have hcw : ∀ q : GrW [] wa, Calls Tryz.prog 117 #[.int .i64 x.var, .int .i64 0, .int .i64 hi] q.val fun e w'' => e = .returned (.bool (inB 0 hi x.var)) ∧ ∃ m : GrW [] wa, w'' = m.val := fun q =>
        Calls.gr_of ((within_c _ _ _ _).mono fun e w' h => ⟨h.1, by rw [h.2]; exact Gr.refl _ _⟩)
      have hcv : ∀ q : GrW [] wa, Calls Tryz.prog 123 #[.int .i64 x.val] q.val fun e w'' => e = .returned (.bool (inB 0 5 x.val)) ∧ ∃ m : GrW [] wa, w'' = m.val := fun q =>
        Calls.gr_of ((valueOkV_c _ _).mono fun e w' h => ⟨h.1, by rw [h.2]; exact Gr.refl _ _⟩)
      have Hcv := hid hcv; have Hcw := hid hcw
      clear hcv hcw fbx
      have hwr := Hhi.out
      cases h1 : inB 0 hi x.var
      · refine wp_region_gr [] _ (by kernel_rfl) (by kernel_rfl) (Gr.refl _ _) ?_
        repeat (go_big_quiet_step ((go_at_call 117; have := Hcw.out; rw [h1] at this; exact this _)))
        refine wpQuiet_nil ?_
        rintro w9 ⟨n9, rfl⟩
        have hg9 := n9.gr
        go_wp2_with fail
        go_ret
        refine ⟨⟨false, rfl, fun hp => ?_, fun _ _ _ => rfl⟩, (Hg.out.trans Hga.out).trans hg9⟩
        have := (Hsc.out.1 (preOk_mono hp hlt)).2.1
        unfold okHi at this; rw [h1] at this; cases this
      · cases h2 : inB 0 5 x.val
        · have HHw := Hcw.out; have HHv := Hcv.out
          rw [h1] at HHw; rw [h2] at HHv
          refine wp_region_gr [] _ (by kernel_rfl) (by kernel_rfl) (Gr.refl _ _) ?_
          repeat (go_big_quiet_step (first | (go_at_call 117; exact HHw _) | (go_at_call 123; exact HHv _)))
          refine wpQuiet_nil ?_
          rintro w9 ⟨n9, rfl⟩
          have hg9 := n9.gr
          go_wp2_with fail
          go_ret
          refine ⟨⟨false, rfl, fun hp => ?_, fun _ _ _ => rfl⟩, (Hg.out.trans Hga.out).trans hg9⟩
          have := (Hsc.out.1 (preOk_mono hp hlt)).2.1
          unfold okHi at this; rw [h1, h2] at this; cases this
        · rcases Nat.eq_zero_or_pos k with hk0 | hk0
          · subst hk0
            have HHw := Hcw.out; have HHv := Hcv.out
            rw [h1] at HHw; rw [h2] at HHv
            refine wp_region_gr [] _ (by kernel_rfl) (by kernel_rfl) (Gr.refl _ _) ?_
            repeat (go_big_quiet_step (first | (go_at_call 117; exact HHw _) | (go_at_call 123; exact HHv _)))
            refine wpQuiet_nil ?_
            rintro w9 ⟨n9, rfl⟩
            have hg9 := n9.gr
            go_wp2_with fail
            exact ⟨⟨1, by omega, by go_num, hid (Hsc.out.2 ⟨Hp.out, by unfold okHi; rw [h1, h2]; rfl, fun j y hj => by omega⟩), (Hg.out.trans Hga.out).trans hg9⟩, by simp [intOf]; omega⟩
          · obtain ⟨j, hj⟩ : ∃ j : Nat, k = j + 1 := ⟨k - 1, by omega⟩
            obtain ⟨y, hy⟩ := get_some (xs := c) (k := j) (by omega)
            obtain ⟨b', o', e2, -, d0, d1, d2⟩ := (Hc.out.gr Hg.out).at hy
            cases e2
            have e0' : ∀ q : GrW [] wa, q.val.cell? ⟨b, o + j * 3, none⟩ = some (.int .i64 y.var) := fun q => (Hga.out.trans q.gr).cell d0 (by simp)
            have e1' : ∀ q : GrW [] wa, q.val.cell? ⟨b, o + j * 3 + 1, none⟩ = some (.int .i64 y.val) := fun q => (Hga.out.trans q.gr).cell d1 (by simp)
            have e2' : ∀ q : GrW [] wa, q.val.cell? ⟨b, o + j * 3 + 2, none⟩ = some (.bool y.neg) := fun q => (Hga.out.trans q.gr).cell d2 (by simp)
            have hwj : IntKind.i64.wrap ((k : Int) - 1) = (j : Int) := by rw [IntKind.wrap_i64]; omega
            have hjl : j < c.length := by omega
            have hk1 : decide ((0 : Int) < (k : Int)) = true := by simp; omega
            have Hj := hid hj; have Hy := hid hy
            obtain ⟨r, hr⟩ : ∃ r, r = cmpL y x := ⟨_, rfl⟩
            have hcc : ∀ q : GrW [] wa, Calls Tryz.prog 174 #[.agg #[.int .i64 y.var, .int .i64 y.val, .bool y.neg], .agg #[.int .i64 x.var, .int .i64 x.val, .bool x.neg]] q.val fun e w'' => e = .returned (.int .i64 r) ∧ ∃ m : GrW [] wa, w'' = m.val := fun q =>
              Calls.gr_of ((compare_c _ _ _).mono fun e w' h => ⟨by rw [hr]; exact h.1, h.2.1⟩)
            have Hcc := hid hcc
            have hrn : decide (0 ≤ r) = !litLt y x := by rw [hr]; exact cmpL_nn y x
            have Hrn := hid hrn
            clear hj hy d0 d1 d2 hr hcc hrn
            have HHw := Hcw.out; have HHv := Hcv.out; have HHc := Hcc.out
            rw [h1] at HHw; rw [h2] at HHv
            cases h3 : litLt y x
            all_goals
              have hr1 : decide (0 ≤ r) = !litLt y x := Hrn.out
              rw [h3] at hr1
              simp only [Bool.not_true, Bool.not_false] at hr1
              refine wp_region_gr [] _ (by kernel_rfl) (by kernel_rfl) (Gr.refl _ _) ?_
              repeat (go_big_quiet_step (first | (go_at_call 117; exact HHw _) | (go_at_call 123; exact HHv _) | (go_at_call 174; exact HHc _)))
              refine wpQuiet_nil ?_
              rintro w9 ⟨n9, rfl⟩
              have hg9 := n9.gr
              clear e0' e1' e2'
            · go_wp2_with fail
              go_ret
              refine ⟨⟨false, rfl, fun hp => ?_, fun _ _ _ => rfl⟩, (Hg.out.trans Hga.out).trans hg9⟩
              have := (Hsc.out.1 (preOk_mono hp hlt)).2.2 j y Hj.out Hy.out
              rw [h3] at this; cases this
            · go_wp2_with fail
              refine ⟨⟨k + 1, by omega, by go_num, hid (Hsc.out.2 ⟨Hp.out, by unfold okHi; rw [h1, h2]; rfl, fun j2 y2 hj2 hy2 => ?_⟩), (Hg.out.trans Hga.out).trans hg9⟩, by simp [intOf]; omega⟩
              have e : j2 = j := by have := Hj.out; omega
              subst e
              rw [Hy.out] at hy2
              cases hy2; exact h3
    · have hkl : k = c.length := by omega
      have Hkl := hid hkl
      have hp : preOk hi c c.length := by have := Hp.out; rw [hkl] at this; exact this
      have Hpp := hid hp
      clear hkl hp hhi
      cases h4 : inB 1 4 n
      · go_wp2_with fail
        refine (within_c _ _ _ _).mono ?_
        rw [h4]
        rintro e w5 ⟨rfl, rfl⟩
        go_wp2_with fail
        go_ret
        exact ⟨⟨false, rfl, fun _ => by rw [h4]; rfl, fun k hk hn => rfl⟩, Hg.out⟩
      · by_cases h5 : c.length ≤ 12
        · have h6 : decide ((c.length : Int) ≤ 12) = true := by simp; omega
          go_wp2_with fail
          refine (within_c _ _ _ _).mono ?_
          rw [h4]
          rintro e w5 ⟨rfl, rfl⟩
          go_wp2_with fail
          go_ret
          exact ⟨⟨true, rfl, fun _ => by rw [h4, decide_eq_true h5]; rfl, fun k hk hn => absurd (preOk_mono Hpp.out hk) hn⟩, Hg.out⟩
        · have h6 : decide ((c.length : Int) ≤ 12) = false := by simp; omega
          go_wp2_with fail
          refine (within_c _ _ _ _).mono ?_
          rw [h4]
          rintro e w5 ⟨rfl, rfl⟩
          go_wp2_with fail
          go_ret
          exact ⟨⟨false, rfl, fun _ => by rw [h4, decide_eq_false h5]; rfl, fun k hk hn => rfl⟩, Hg.out⟩
/-- ValidClause of the program, at whatever number. -/
theorem ValidClause_c (c : Cls) (n : Int) (cv : Value) (w : World) (hc : LitsV [] w cv c) (hl : c.length ≤ 2000000) (hn : I64 n) :
    Calls Tryz.prog 91 #[cv, .int .i64 n] w fun e w' => e = .returned (.bool (validCl c n)) ∧ Gr [] w w' := by
  refine (validClause_hi c n _ cv w hc hl hn rfl).mono ?_
  rintro e w' ⟨⟨r, rfl, h1, h2⟩, hg⟩
  refine ⟨ret_bool ?_, hg⟩
  unfold validCl
  cases h4 : inB 1 4 n
  · rw [Bool.false_and]
    by_cases hp : preOk (IntKind.i64.wrap (n - 1)) c c.length
    · rw [h1 hp, h4]; rfl
    · exact h2 _ (Nat.le_refl _) hp
  · have hb := inB_iff.1 h4
    have e1 : IntKind.i64.wrap (n - 1) = n - 1 := by rw [IntKind.wrap_i64]; omega
    rw [e1] at h1 h2
    rw [Bool.true_and]
    by_cases hp : preOk (n - 1) c c.length
    · rw [h1 hp, h4, validCl_of hp]; rfl
    · rw [h2 _ (Nat.le_refl _) hp, validCl_not hp (Nat.le_refl _)]

set_option maxRecDepth 100000 in
set_option maxHeartbeats 4000000 in
theorem specValidClause_c (c : Cls) (n : Int) (cv : Value) (w : World) (hc : LitsV [] w cv c) (hl : c.length ≤ 2000000) (hn : 1 ≤ n ∧ n ≤ 4) :
    Calls Tryz.prog 98 #[cv, .int .i64 n] w fun e w' => e = .returned (.bool (validClS c n)) ∧ Gr [] w w' := by
  obtain ⟨co, cc, rfl, ⟨hc1, hc2⟩⟩ := hc.slice
  have Hc := hid hc
  have hwr : IntKind.i64.wrap (n - 1) = n - 1 := by rw [IntKind.wrap_i64]; omega
  clear hc
  go_enter Tryz.func98, Tryz.ntmps98
  go_wp2_with fail
  go_loopw [5] (fun i wr => ∃ k : Nat, k ≤ c.length ∧ i = .int .i64 k ∧ Hid (preOk (n - 1) c k) ∧ Gr [] w wr) (fun i _ => c.length - (intOf i).toNat)
  case atStart => exact ⟨0, Nat.zero_le _, rfl, hid (preOk_0 (n - 1) c), Gr.refl _ _⟩
  case round =>
    obtain ⟨k, hk, rfl, Hp, hg⟩ := hrel
    have Hg := hid hg
    by_cases hlt : k < c.length
    · obtain ⟨x, hx⟩ := get_some hlt
      obtain ⟨b, o, rfl, -, k0, k1, k2⟩ := (Hc.out.gr hg).at hx
      have Hx := hid hx
      have Hsc := hid (preOk_succ (hi := n - 1) hx)
      have e0 : ∀ q : GrW [] wr, q.val.cell? ⟨b, o + k * 3, none⟩ = some (.int .i64 x.var) := fun q => q.gr.cell k0 (by simp)
      have e1 : ∀ q : GrW [] wr, q.val.cell? ⟨b, o + k * 3 + 1, none⟩ = some (.int .i64 x.val) := fun q => q.gr.cell k1 (by simp)
      have e2 : ∀ q : GrW [] wr, q.val.cell? ⟨b, o + k * 3 + 2, none⟩ = some (.bool x.neg) := fun q => q.gr.cell k2 (by simp)
      have hcw : ∀ (q : GrW [] wr) (x lo hi : Int), Calls Tryz.prog 157 #[.int .i64 x, .int .i64 lo, .int .i64 hi] q.val fun e w'' => e = .returned (.bool (inB lo hi x)) ∧ ∃ m : GrW [] wr, w'' = m.val := fun q x lo hi =>
        Calls.gr_of ((inRange_c _ _ _ _).mono fun e w' h => ⟨h.1, by rw [h.2]; exact Gr.refl _ _⟩)
      have Hcw := hid hcw
      clear hx hg hcw k0 k1 k2
      cases h1 : inB 0 (n - 1) x.var
      · go_wp2_with fail
        refine wp_region_gr [] _ (by kernel_rfl) (by kernel_rfl) (Gr.refl _ _) ?_
        repeat (go_big_quiet_step ((go_at_call 157; exact Hcw.out _ _ _ _)))
        refine wpQuiet_nil ?_
        rintro w9 ⟨n9, rfl⟩
        have hg9 := n9.gr
        go_wp2_with fail
        go_ret
        refine ⟨ret_bool ?_, Hg.out.trans hg9⟩
        refine (validCl_not (k := k + 1) (fun hp => ?_) hlt).symm
        have := (Hsc.out.1 hp).2.1
        unfold okHi at this; rw [h1] at this; cases this
      · cases h2 : inB 0 5 x.val
        · go_wp2_with fail
          refine wp_region_gr [] _ (by kernel_rfl) (by kernel_rfl) (Gr.refl _ _) ?_
          repeat (go_big_quiet_step ((go_at_call 157; exact Hcw.out _ _ _ _)))
          refine wpQuiet_nil ?_
          rintro w9 ⟨n9, rfl⟩
          have hg9 := n9.gr
          go_wp2_with fail
          go_ret
          refine ⟨ret_bool ?_, Hg.out.trans hg9⟩
          refine (validCl_not (k := k + 1) (fun hp => ?_) hlt).symm
          have := (Hsc.out.1 hp).2.1
          unfold okHi at this; rw [h1, h2] at this; cases this
        · rcases Nat.eq_zero_or_pos k with hk0 | hk0
          · subst hk0
            simp only [Nat.zero_mul, Nat.add_zero] at e0 e1 e2
            go_wp2_with fail
            refine wp_region_gr [] _ (by kernel_rfl) (by kernel_rfl) (Gr.refl _ _) ?_
            repeat (go_big_quiet_step ((go_at_call 157; exact Hcw.out _ _ _ _)))
            refine wpQuiet_nil ?_
            rintro w9 ⟨n9, rfl⟩
            have hg9 := n9.gr
            go_wp2_with fail
            exact ⟨⟨1, by omega, by go_num, hid (Hsc.out.2 ⟨Hp.out, by unfold okHi; rw [h1, h2]; rfl, fun j y hj => by omega⟩), Hg.out.trans hg9⟩, by simp [intOf]; omega⟩
          · obtain ⟨j, hj⟩ : ∃ j : Nat, k = j + 1 := ⟨k - 1, by omega⟩
            obtain ⟨y, hy⟩ := get_some (xs := c) (k := j) (by omega)
            obtain ⟨b', o', e9, -, d0, d1, d2⟩ := (Hc.out.gr Hg.out).at hy
            cases e9
            have e0' : ∀ q : GrW [] wr, q.val.cell? ⟨b, o + j * 3, none⟩ = some (.int .i64 y.var) := fun q => q.gr.cell d0 (by simp)
            have e1' : ∀ q : GrW [] wr, q.val.cell? ⟨b, o + j * 3 + 1, none⟩ = some (.int .i64 y.val) := fun q => q.gr.cell d1 (by simp)
            have e2' : ∀ q : GrW [] wr, q.val.cell? ⟨b, o + j * 3 + 2, none⟩ = some (.bool y.neg) := fun q => q.gr.cell d2 (by simp)
            have hwj : IntKind.i64.wrap ((k : Int) - 1) = (j : Int) := by rw [IntKind.wrap_i64]; omega
            have hjl : j < c.length := by omega
            have hk1 : decide ((0 : Int) < (k : Int)) = true := by simp; omega
            have Hj := hid hj; have Hy := hid hy
            have hcc : ∀ q : GrW [] wr, Calls Tryz.prog 179 #[.agg #[.int .i64 y.var, .int .i64 y.val, .bool y.neg], .agg #[.int .i64 x.var, .int .i64 x.val, .bool x.neg]] q.val fun e w'' => e = .returned (.bool (litLt y x)) ∧ ∃ m : GrW [] wr, w'' = m.val := fun q =>
              Calls.gr_of (literalLess_c _ _ _)
            have Hcc := hid hcc
            clear hj hy d0 d1 d2 hcc
            have HHc := Hcc.out
            cases h3 : litLt y x
            all_goals
              rw [h3] at HHc
              have HHd := hid HHc
              clear HHc
              go_wp2_with fail
              refine wp_region_gr [] _ (by kernel_rfl) (by kernel_rfl) (Gr.refl _ _) ?_
              repeat (go_big_quiet_step (first | (go_at_call 157; exact Hcw.out _ _ _ _) | (go_at_call 179; exact HHd.out _)))
              refine wpQuiet_nil ?_
              rintro w9 ⟨n9, rfl⟩
              have hg9 := n9.gr
              clear e0' e1' e2' e0 e1 e2
            · go_wp2_with fail
              go_ret
              refine ⟨ret_bool ?_, Hg.out.trans hg9⟩
              refine (validCl_not (k := k + 1) (fun hp => ?_) hlt).symm
              have := (Hsc.out.1 hp).2.2 j y Hj.out Hy.out
              rw [h3] at this; cases this
            · go_wp2_with fail
              refine ⟨⟨k + 1, by omega, by go_num, hid (Hsc.out.2 ⟨Hp.out, by unfold okHi; rw [h1, h2]; rfl, fun j2 y2 hj2 hy2 => ?_⟩), Hg.out.trans hg9⟩, by simp [intOf]; omega⟩
              have e : j2 = j := by have := Hj.out; omega
              subst e
              rw [Hy.out] at hy2
              cases hy2; exact h3
    · have hkl : k = c.length := by omega
      have hp : preOk (n - 1) c c.length := by have := Hp.out; rw [hkl] at this; exact this
      have Hpp := hid (validCl_of hp)
      clear hkl hp
      by_cases h5 : c.length ≤ 12
      · have h6 : decide ((c.length : Int) ≤ 12) = true := by simp; omega
        go_wp2_with fail
        go_ret
        exact ⟨ret_bool (by rw [Hpp.out, decide_eq_true h5]), Hg.out⟩
      · have h6 : decide ((c.length : Int) ≤ 12) = false := by simp; omega
        go_wp2_with fail
        go_ret
        exact ⟨ret_bool (by rw [Hpp.out, decide_eq_false h5]), Hg.out⟩
end Go.Proofs.YtlekngkcifgonaaGreat

set_option linter.unusedVariables false
set_option linter.unusedSimpArgs false
namespace Go.Proofs.YtlekngkcifgonaaGreat
open Go.RowKit

theorem OwnL.form {B : Nat} {w : World} {e : TypeId} {v : Value} {ls : Cls} (h : OwnL B w e v ls) (hn : v ≠ .slice none 0 0) : ∃ g c, v = .slice (some ⟨g, 0, none⟩) ls.length c := by
  rcases h.2 with ⟨e1, _⟩ | ⟨g, cap, cur, e1, _⟩
  · exact absurd e1 hn
  · exact ⟨g, cap, e1⟩
/-- 'append(out, ys...)', out not nil, in a region that draws its order. -/
theorem wp_appL' {P : Program} {w : World} {o : Oper} {a : Act} {K : Act → World → Prop} {Q : Exit → Act → World → Prop} (s x : Operand) (t : TypeId)
    (ho : o.op = .call { callee := .builtin .append, args := #[s, x], argTypes := #[t, t] }) (B : Nat) (e : TypeId) (z : Value) (bytes : Nat) (hinfo : (P.info? e).map (fun i => (i.zero, i.size, i.bytes)) = some (some z, 3, bytes)) (hzs : z.cells.size = 3) (hby : bytes ≤ 100)
    (ht : P.underlying t = some (.slice e)) (g : Nat) (n c : Nat) (xs ys : Cls) (hs : a.eval s = .slice (some ⟨g, 0, none⟩) n c) (hown : OwnL B w e (.slice (some ⟨g, 0, none⟩) n c) xs) (ad : Addr) (m c2 : Nat) (S : List Nat) (hx : a.eval x = .slice (some ad) m c2) (hn : LitsV S w (.slice (some ad) m c2) ys)
    (hlen : xs.length + ys.length ≤ 10000000) (hB : B ≤ w.heap.size)
    (h : ∀ g' c' w', OwnL B w' e (.slice (some ⟨g', 0, none⟩) (n + m) c') (xs ++ ys) → Gr [g] w w' → K (a.put o.dst (.slice (some ⟨g', 0, none⟩) (n + m) c')) w') : Oper.wp P o a w K Q := by
  obtain ⟨i0, hi, hz0, hz1, hz2⟩ := info_parts hinfo
  have Hn := hid hn
  obtain ⟨ao, cap, e1, ⟨hlc, hcm, hnil⟩, hc⟩ := hn
  simp only [Value.slice.injEq] at e1
  obtain ⟨rfl, hm, rfl⟩ := e1
  have hnl : n = xs.length := by
    rcases hown.2 with ⟨e1, _⟩ | ⟨g', cap, cur, e1, _⟩
    · cases e1
    · cases e1; rfl
  subst hm
  have hbb : (xs.length + ys.length) * bytes ≤ (xs.length + ys.length) * 100 := Nat.mul_le_mul_left _ hby
  refine wp_append_own w s x t ho B e i0 z 3 bytes ht hi hz0 hz1 hz2 hzs (by decide) _ xs.length _ (by rw [hs]) (by exact hown) ad ys.length c2 (ys.map litC).flatten hx (by rw [flatten_length' (litC3 ys), List.length_map]) (lits_cells Hn.out) (flat_one ys) (by simp only [maxLen]; omega) (by omega) hB ?_
  intro v' w' hown' hgrow hnil'
  have hO : OwnL B w' e v' (xs ++ ys) := by unfold OwnL; rw [List.length_append, List.map_append, List.flatten_append]; exact hown'
  obtain ⟨g', c', rfl⟩ := hO.form (fun h => by have := hnil'.1 h; cases this.1)
  rw [List.length_append, ← hnl] at hO ⊢
  refine h g' c' w' hO ⟨hgrow.os, hgrow.tape, hgrow.output, hgrow.size, fun k hk hs => hgrow.block k hk (fun e => hs (by simp [Value.ownBlock] at e; simp [e]))⟩
theorem step_appL {P : Program} {w : World} {ops : Array Oper} {o : Oper} {a : Act} {K : Act → World → Prop} {Q : Exit → Act → World → Prop} {E : Prop} (hgd : o.guard = none) (s x : Operand) (t : TypeId)
    (ho : o.op = .call { callee := .builtin .append, args := #[s, x], argTypes := #[t, t] }) (B : Nat) (e : TypeId) (z : Value) (bytes : Nat) (hinfo : (P.info? e).map (fun i => (i.zero, i.size, i.bytes)) = some (some z, 3, bytes)) (hzs : z.cells.size = 3) (hby : bytes ≤ 100)
    (ht : P.underlying t = some (.slice e)) (g : Nat) (n c : Nat) (xs ys : Cls) (hs : a.eval s = .slice (some ⟨g, 0, none⟩) n c) (hown : OwnL B w e (.slice (some ⟨g, 0, none⟩) n c) xs) (ad : Addr) (m c2 : Nat) (S : List Nat) (hx : a.eval x = .slice (some ad) m c2) (hn : LitsV S w (.slice (some ad) m c2) ys)
    (hlen : xs.length + ys.length ≤ 10000000) (hB : B ≤ w.heap.size)
    (h : ∀ g' c' w', OwnL B w' e (.slice (some ⟨g', 0, none⟩) (n + m) c') (xs ++ ys) → Gr [g] w w' → K (a.put o.dst (.slice (some ⟨g', 0, none⟩) (n + m) c')) w') : if Region.wanted o (yielded ops a.tmps) = true then Oper.wp P o a w K Q else E := by
  rw [if_pos (by simp [Region.wanted, hgd])]
  exact wp_appL' s x t ho B e z bytes hinfo hzs hby ht g n c xs ys hs hown ad m c2 S hx hn hlen hB h
theorem wpl_appL {P : Program} {w : World} {ops : Array Oper} {rest : List Oper} {o : Oper} {a : Act} {Q : Exit → Act → World → Prop} (hgd : o.guard = none) (s x : Operand) (t : TypeId)
    (ho : o.op = .call { callee := .builtin .append, args := #[s, x], argTypes := #[t, t] }) (B : Nat) (e : TypeId) (z : Value) (bytes : Nat) (hinfo : (P.info? e).map (fun i => (i.zero, i.size, i.bytes)) = some (some z, 3, bytes)) (hzs : z.cells.size = 3) (hby : bytes ≤ 100)
    (ht : P.underlying t = some (.slice e)) (g : Nat) (n c : Nat) (xs ys : Cls) (hs : a.eval s = .slice (some ⟨g, 0, none⟩) n c) (hown : OwnL B w e (.slice (some ⟨g, 0, none⟩) n c) xs) (ad : Addr) (m c2 : Nat) (S : List Nat) (hx : a.eval x = .slice (some ad) m c2) (hn : LitsV S w (.slice (some ad) m c2) ys)
    (hlen : xs.length + ys.length ≤ 10000000) (hB : B ≤ w.heap.size)
    (h : ∀ g' c' w', OwnL B w' e (.slice (some ⟨g', 0, none⟩) (n + m) c') (xs ++ ys) → Gr [g] w w' → wpList P ops Q rest (a.put o.dst (.slice (some ⟨g', 0, none⟩) (n + m) c')) w') : wpList P ops Q (o :: rest) a w :=
  wpList_plain hgd fun _ hK => wp_appL' s x t ho B e z bytes hinfo hzs hby ht g n c xs ys hs hown ad m c2 S hx hn hlen hB fun g' c' w' h1 h2 => hK _ _ (h g' c' w' h1 h2)
/-- 'append(out, ys...)', out not nil, ys nil or not. -/
theorem wpl_appL0 {P : Program} {w : World} {ops : Array Oper} {rest : List Oper} {o : Oper} {a : Act} {Q : Exit → Act → World → Prop} (hgd : o.guard = none) (s x : Operand) (t : TypeId)
    (ho : o.op = .call { callee := .builtin .append, args := #[s, x], argTypes := #[t, t] }) (B : Nat) (e : TypeId) (z : Value) (bytes : Nat) (hinfo : (P.info? e).map (fun i => (i.zero, i.size, i.bytes)) = some (some z, 3, bytes)) (hzs : z.cells.size = 3) (hby : bytes ≤ 100)
    (ht : P.underlying t = some (.slice e)) (g : Nat) (n c : Nat) (xs ys : Cls) (hs : a.eval s = .slice (some ⟨g, 0, none⟩) n c) (hown : OwnL B w e (.slice (some ⟨g, 0, none⟩) n c) xs) (ao : Option Addr) (m c2 : Nat) (S : List Nat) (hx : a.eval x = .slice ao m c2) (hn : LitsV S w (.slice ao m c2) ys)
    (hlen : xs.length + ys.length ≤ 10000000) (hB : B ≤ w.heap.size)
    (h : ∀ g' c' w', OwnL B w' e (.slice (some ⟨g', 0, none⟩) (n + m) c') (xs ++ ys) → Gr [g] w w' → wpList P ops Q rest (a.put o.dst (.slice (some ⟨g', 0, none⟩) (n + m) c')) w') : wpList P ops Q (o :: rest) a w := by
  cases ao with
  | some ad => exact wpl_appL hgd s x t ho B e z bytes hinfo hzs hby ht g n c xs ys hs hown ad m c2 S hx hn hlen hB h
  | none =>
    obtain ⟨i0, hi, hz0, hz1, hz2⟩ := info_parts hinfo
    obtain ⟨ao, cap, e1, ⟨hlc, hcm, hnil⟩, hc⟩ := hn
    simp only [Value.slice.injEq] at e1
    obtain ⟨e2, e3, e4⟩ := e1
    have hcap := hnil e2.symm
    have hy : ys = [] := List.eq_nil_of_length_eq_zero (by omega)
    subst hy e3 e4 hcap
    exact wpList_append_own_none hgd s x t ho B e i0 3 ht hi _ xs.length _ hs (by exact hown) hx (h g c w (by simpa using hown) (Gr.refl _ _))
theorem LitsV.drop {S : List Nat} {w : World} {g o n cap : Nat} {ls : Cls} (h : LitsV S w (.slice (some ⟨g, o, none⟩) n cap) ls) (k : Nat) (hk : k ≤ n) : LitsV S w (.slice (some ⟨g, o + k * 3, none⟩) (n - k) (cap - k)) (ls.drop k) := by
  obtain ⟨ao, cap', e, ⟨h1, h2, h3⟩, hc⟩ := h
  cases e
  refine ⟨_, _, by rw [List.length_drop], ⟨by rw [List.length_drop]; omega, by omega, by simp⟩, fun i l hi => ?_⟩
  rw [List.getElem?_drop] at hi
  obtain ⟨b, o', e, hs, c0, c1, c2⟩ := hc _ _ hi
  cases e
  have e1 : o + k * 3 + i * 3 = o + (k + i) * 3 := by omega
  exact ⟨_, _, rfl, hs, by rw [e1]; exact c0, by rw [e1]; exact c1, by rw [e1]; exact c2⟩
theorem LitsV.take {S : List Nat} {w : World} {g o n cap : Nat} {ls : Cls} (h : LitsV S w (.slice (some ⟨g, o, none⟩) n cap) ls) (k : Nat) (hk : k ≤ n) : LitsV S w (.slice (some ⟨g, o, none⟩) k cap) (ls.take k) := by
  obtain ⟨ao, cap', e, ⟨h1, h2, h3⟩, hc⟩ := h
  cases e
  have hl : (ls.take k).length = k := by rw [List.length_take]; omega
  refine ⟨_, _, by rw [hl], ⟨by omega, by omega, by simp⟩, fun i l hi => ?_⟩
  have hik : i < k := by have := (List.getElem?_eq_some_iff.1 hi).1; omega
  rw [List.getElem?_take, if_pos hik] at hi
  exact hc _ _ hi
def InsI (x : Lit) (d : Cls) (k : Nat) : Prop := insL x d = d.take k ++ insL x (d.drop k)
theorem InsI.zero (x : Lit) (d : Cls) : InsI x d 0 := by unfold InsI; simp
theorem InsI.succ {x y : Lit} {d : Cls} {k : Nat} (h : InsI x d k) (hy : d[k]? = some y) (hl : litLt y x = true) : InsI x d (k + 1) := by
  unfold InsI at *
  rw [h, drop_cons hy, List.take_add_one, hy]
  simp [insL, hl]
theorem InsI.atEnd {x : Lit} {d : Cls} {k : Nat} (h : InsI x d k) (hk : k = d.length) : insL x d = d ++ [x] := by
  unfold InsI at h
  subst hk
  rw [h, List.take_length, List.drop_length]; rfl
theorem InsI.eq {x y : Lit} {d : Cls} {k : Nat} (h : InsI x d k) (hy : d[k]? = some y) (hl : litLt y x = false) (he : y = x) : insL x d = d := by
  unfold InsI at h
  rw [h, drop_cons hy, ← he]
  unfold insL
  rw [litLt_irrefl]
  simp only [Bool.false_eq_true, if_false, if_true]
  rw [← drop_cons hy]
  exact List.take_append_drop k d
theorem InsI.new {x y : Lit} {d : Cls} {k : Nat} (h : InsI x d k) (hy : d[k]? = some y) (hl : litLt y x = false) (he : y ≠ x) : insL x d = d.take k ++ ([x] ++ d.drop k) := by
  unfold InsI at h
  rw [h, drop_cons hy]
  unfold insL
  rw [hl]
  simp [he]
/-- The members of b put into a, one by one. -/
def mergeL (a b : Cls) : Cls := b.foldl (fun d l => insL l d) a
theorem mergeL_snoc {a b : Cls} {n : Nat} {l : Lit} (h : b[n]? = some l) : mergeL a (b.take (n + 1)) = insL l (mergeL a (b.take n)) := by
  unfold mergeL
  rw [List.take_add_one, h, List.foldl_append]
  rfl
theorem insL_len (l : Lit) (d : Cls) : (insL l d).length ≤ d.length + 1 := by
  induction d with
  | nil => simp [insL]
  | cons a r ih =>
    unfold insL
    split
    · simp; omega
    · split <;> simp
theorem mergeL_len (a b : Cls) : (mergeL a b).length ≤ a.length + b.length := by
  induction b generalizing a with
  | nil => simp [mergeL]
  | cons l r ih =>
    have h1 := ih (insL l a)
    have h2 := insL_len l a
    show (mergeL (insL l a) r).length ≤ _
    simp only [List.length_cons]; omega
theorem mergeL_take_len (a b : Cls) (n : Nat) : (mergeL a (b.take n)).length ≤ a.length + b.length := by
  have := mergeL_len a (b.take n)
  rw [List.length_take] at this
  omega
theorem OwnL.one {B : Nat} (w : World) (e : TypeId) (l : Lit) (hB : B ≤ w.heap.size) : OwnL B (w.alloc (.cells #[.int .i64 l.var, .int .i64 l.val, .bool l.neg] e)) e (.slice (some ⟨w.heap.size, 0, none⟩) 1 1) [l] :=
  ⟨by simp [litC], .inr ⟨w.heap.size, 1, #[.int .i64 l.var, .int .i64 l.val, .bool l.neg], rfl, hB, heap_alloc_new _ _, Nat.le_refl _, by simp [maxLen], by simp, by simp [litC]⟩⟩
section
attribute [local go_sem] eqLit
set_option maxRecDepth 100000 in
set_option maxHeartbeats 4000000 in
theorem mergeClauses_c (a b : Cls) (av bv : Value) (w : World) (ha : LitsV [] w av a) (hb : LitsV [] w bv b) (hl : a.length + b.length ≤ 100000) :
    Calls Tryz.prog 207 #[av, bv] w fun e w' => ∃ g c, e = .returned (.slice (some ⟨g, 0, none⟩) (mergeL a b).length c) ∧ OwnL w.heap.size w' 45 (.slice (some ⟨g, 0, none⟩) (mergeL a b).length c) (mergeL a b) ∧ Gr [] w w' := by
  have Ha := hid ha; have Hb := hid hb
  obtain ⟨ao, ac, rfl, ⟨ha1, ha2⟩⟩ := ha.slice
  obtain ⟨bo, bc, rfl, ⟨hb1, hb2⟩⟩ := hb.slice
  have Hy : Hid (LitsV [] (w.alloc (.cells #[] 45)) (.slice ao a.length ac) a) := hid (ha.gr ((Gr.refl [] w).alloc _))
  clear ha hb
  go_enter Tryz.func207, Tryz.ntmps207
  go_wp2_with (at_builtin; refine wpl_appL0 rfl _ _ 110 rfl w.heap.size 45 (.agg #[.int .i64 0, .int .i64 0, .bool false]) 24 infoL rfl (by omega) Tryz.underlying110 w.heap.size 0 0 [] a rfl (OwnL.empty w 45 (Nat.le_refl _)) ao a.length ac [] rfl Hy.out (by simp; omega) (by simp) ?_; intro g1 c1 w1 hown1 hgr1)
  have HO1 : Hid (OwnL w.heap.size w1 45 (.slice (some ⟨g1, 0, none⟩) a.length c1) a) := hid (by simpa using hown1)
  have HG1 : Hid (Gr [] w w1) := hid (((Gr.refl [] w).alloc _).step hgr1 (fun i hi => .inr (by simp at hi; omega)))
  clear hown1 hgr1
  go_loopw [5, 6] (fun sv i wr => ∃ n m g c : Nat, n ≤ b.length ∧ i = .int .i64 n ∧ sv = .slice (some ⟨g, 0, none⟩) m c ∧ Hid (m = (mergeL a (b.take n)).length) ∧ Hid (OwnL w.heap.size wr 45 (.slice (some ⟨g, 0, none⟩) m c) (mergeL a (b.take n))) ∧ Gr [] w wr) (fun _ i _ => b.length - (intOf i).toNat)
  case atStart => exact ⟨0, a.length, g1, c1, Nat.zero_le _, rfl, by simp, hid rfl, HO1, HG1.out⟩
  case round =>
    obtain ⟨n, m, g, c, hn, rfl, rfl, Hm, Ho, hg⟩ := hrel
    have Hg := hid hg
    by_cases hlt : n < b.length
    · obtain ⟨x, hx⟩ := get_some hlt
      obtain ⟨bb, ob, rfl, -, k0, k1, k2⟩ := (Hb.out.gr hg).at hx
      have K0 := hid k0; have K1 := hid k1; have K2 := hid k2
      have Hsn := hid (mergeL_snoc (a := a) hx)
      obtain ⟨d, hd⟩ : ∃ d, d = mergeL a (b.take n) := ⟨_, rfl⟩
      have hdl := mergeL_take_len a b n
      rw [← hd] at Hm Ho Hsn hdl
      obtain ⟨ao', cap', e9, ⟨hm1, hm2, -⟩⟩ := Ho.out.litsM.slice
      have hml := Hm.out
      simp only [Value.slice.injEq] at e9
      have hmc : m ≤ c ∧ c ≤ 9223372036854775807 := by obtain ⟨_, _, rfl⟩ := e9; omega
      have hm5 : m ≤ 100000 := by omega
      obtain ⟨wt, rfl⟩ : ∃ wt, wt = wr := ⟨_, rfl⟩
      clear hx hd hg k0 k1 k2 e9 hm1 hm2 hml hdl
      go_wp2_with fail
      go_loopw [7] (fun i wr => ∃ k : Nat, k ≤ m ∧ i = .int .i64 k ∧ Hid (InsI x d k) ∧ Gr [] wt wr) (fun i _ => m - (intOf i).toNat)
      case atStart => exact ⟨0, Nat.zero_le _, rfl, hid (InsI.zero x d), Gr.refl _ _⟩
      case round =>
        obtain ⟨k, hk, rfl, HI, hgk⟩ := hrel
        have e0 : ∀ q : GrW [] wr, q.val.cell? ⟨bb, ob + n * 3, none⟩ = some (.int .i64 x.var) := fun q => (hgk.trans q.gr).cell K0.out (by simp)
        have e1 : ∀ q : GrW [] wr, q.val.cell? ⟨bb, ob + n * 3 + 1, none⟩ = some (.int .i64 x.val) := fun q => (hgk.trans q.gr).cell K1.out (by simp)
        have e2 : ∀ q : GrW [] wr, q.val.cell? ⟨bb, ob + n * 3 + 2, none⟩ = some (.bool x.neg) := fun q => (hgk.trans q.gr).cell K2.out (by simp)
        have Hgk := hid hgk
        clear hgk
        by_cases hkm : k < m
        · obtain ⟨y, hy⟩ := get_some (xs := d) (k := k) (by have := Hm.out; omega)
          obtain ⟨b9, o9, e9, -, d0, d1, d2⟩ := ((Ho.out.gr Hgk.out (by simp)).lits (S := []) (by simp)).at hy
          cases e9
          rw [Nat.zero_add] at d0 d1 d2
          have e0' : ∀ q : GrW [] wr, q.val.cell? ⟨g, k * 3, none⟩ = some (.int .i64 y.var) := fun q => q.gr.cell d0 (by simp)
          have e1' : ∀ q : GrW [] wr, q.val.cell? ⟨g, k * 3 + 1, none⟩ = some (.int .i64 y.val) := fun q => q.gr.cell d1 (by simp)
          have e2' : ∀ q : GrW [] wr, q.val.cell? ⟨g, k * 3 + 2, none⟩ = some (.bool y.neg) := fun q => q.gr.cell d2 (by simp)
          have Hy2 := hid hy
          have hcc : ∀ q : GrW [] wr, Calls Tryz.prog 179 #[.agg #[.int .i64 y.var, .int .i64 y.val, .bool y.neg], .agg #[.int .i64 x.var, .int .i64 x.val, .bool x.neg]] q.val fun e w'' => e = .returned (.bool (litLt y x)) ∧ ∃ m : GrW [] wr, w'' = m.val := fun q =>
            Calls.gr_of (literalLess_c _ _ _)
          have Hcc := hid hcc
          clear hy hcc d0 d1 d2
          have HHc := Hcc.out
          cases h3 : litLt y x
          · rw [h3] at HHc
            have HHd := hid HHc
            clear HHc
            go_wp2_with fail
            refine wp_region_gr [] _ (by kernel_rfl) (by kernel_rfl) (Gr.refl _ _) ?_
            repeat (go_big_quiet_step ((go_at_call 179; exact HHd.out _)))
            refine wpQuiet_nil ?_
            rintro w6 ⟨n6, hw6⟩
            have Hg6 : Hid (Gr [] wt w6) := hid (Hgk.out.trans (hw6 ▸ n6.gr))
            clear hw6 n6 e0 e1 e2 e0' e1' e2'
            obtain ⟨b9, o9, e9, -, d0, d1, d2⟩ := ((Ho.out.gr Hg6.out (by simp)).lits (S := []) (by simp)).at Hy2.out
            cases e9
            rw [Nat.zero_add] at d0 d1 d2
            have f0 : ∀ q : GrW [] w6, q.val.cell? ⟨bb, ob + n * 3, none⟩ = some (.int .i64 x.var) := fun q => (Hg6.out.trans q.gr).cell K0.out (by simp)
            have f1 : ∀ q : GrW [] w6, q.val.cell? ⟨bb, ob + n * 3 + 1, none⟩ = some (.int .i64 x.val) := fun q => (Hg6.out.trans q.gr).cell K1.out (by simp)
            have f2 : ∀ q : GrW [] w6, q.val.cell? ⟨bb, ob + n * 3 + 2, none⟩ = some (.bool x.neg) := fun q => (Hg6.out.trans q.gr).cell K2.out (by simp)
            have f0' : ∀ q : GrW [] w6, q.val.cell? ⟨g, k * 3, none⟩ = some (.int .i64 y.var) := fun q => q.gr.cell d0 (by simp)
            have f1' : ∀ q : GrW [] w6, q.val.cell? ⟨g, k * 3 + 1, none⟩ = some (.int .i64 y.val) := fun q => q.gr.cell d1 (by simp)
            have f2' : ∀ q : GrW [] w6, q.val.cell? ⟨g, k * 3 + 2, none⟩ = some (.bool y.neg) := fun q => q.gr.cell d2 (by simp)
            clear d0 d1 d2
            have hq := eqLit y x
            by_cases hyx : y = x
            · have HE := hid (HI.out.eq Hy2.out h3 hyx)
              rw [decide_eq_true hyx] at hq
              clear hyx
              go_wp2_with fail
              refine wp_region_gr [] _ (by kernel_rfl) (by kernel_rfl) (Gr.refl _ _) ?_
              repeat (go_big_quiet_step (fail))
              refine wpQuiet_nil ?_
              rintro w7 ⟨n7, hw7⟩
              have Hg7 : Hid (Gr [] wt w7) := hid (Hg6.out.trans (hw7 ▸ n7.gr))
              clear hw7 n7 f0 f1 f2 f0' f1' f2' hq
              go_wp2_with fail
              exact ⟨⟨n + 1, m, g, c, by omega, by go_num, rfl, hid (by rw [Hsn.out, HE.out]; exact Hm.out), hid (by rw [Hsn.out, HE.out]; exact Ho.out.gr Hg7.out (by simp)), Hg.out.trans Hg7.out⟩, by simp [intOf]; omega⟩
            · have HE := hid (HI.out.new Hy2.out h3 hyx)
              rw [decide_eq_false hyx] at hq
              clear hyx
              go_wp2_with fail
              refine wp_region_gr [] _ (by kernel_rfl) (by kernel_rfl) (Gr.refl _ _) ?_
              repeat (go_big_quiet_step (fail))
              refine wpQuiet_nil ?_
              rintro w7 ⟨n7, hw7⟩
              have Hg7 : Hid (Gr [] wt w7) := hid (Hg6.out.trans (hw7 ▸ n7.gr))
              clear hw7 n7 f0 f1 f2 f0' f1' f2' hq
              have c0 := Hg7.out.cell K0.out (by simp); have c1 := Hg7.out.cell K1.out (by simp); have c2 := Hg7.out.cell K2.out (by simp)
              have hkm' : k ≤ m := by omega
              obtain ⟨ad, had, hL7⟩ : ∃ ad, (if c = k then some (⟨g, 0, none⟩ : Addr) else some ⟨g, k * 3, none⟩) = some ad ∧ LitsV [] w7 (.slice (some ad) (m - k) (c - k)) (d.drop k) := by
                have hL7 := ((Ho.out.gr Hg7.out (by simp)).lits (S := []) (by simp)).drop k hkm'
                rw [Nat.zero_add] at hL7
                by_cases hck : c = k
                · refine ⟨_, if_pos hck, ?_⟩
                  have hd0 : d.drop k = [] := List.drop_eq_nil_of_le (by have := Hm.out; omega)
                  rw [hd0, show m - k = 0 by omega, show c - k = 0 by omega]
                  exact ⟨_, _, rfl, by simp, fun i l hi => by simp at hi⟩
                · exact ⟨_, if_neg hck, hL7⟩
              have hbs : w.heap.size ≤ w7.heap.size := Nat.le_trans Hg.out.size Hg7.out.size
              have HL7 := hid hL7
              have hdl : (d.drop k).length ≤ 100000 := by rw [List.length_drop]; have := Hm.out; omega
              have Hdl := hid hdl
              have hr9 : Gr [] w7 (w7.drew) := (Gr.refl [] w7).drew
              have Hr9 := hid hr9
              clear hL7 hdl hr9
              go_wp2_with fail
              go_region_law (first
                | (refine step_appL rfl _ _ 110 rfl w.heap.size 45 (.agg #[.int .i64 0, .int .i64 0, .bool false]) 24 infoL rfl (by omega) Tryz.underlying110 w7.heap.size 1 1 [x] (d.drop k) rfl (by first | exact OwnL.one w7.drew 45 x hbs | exact World.ownsRow.drew (OwnL.one w7 45 x hbs)) ad (m - k) (c - k) [] rfl (HL7.out.gr (by first | exact Hr9.out.alloc _ | exact ((Gr.refl [] w7).alloc _).drew)) (by have := Hdl.out; show 1 + (d.drop k).length ≤ 10000000; omega) (by simp; omega) ?_; intro g9 c9 w9 hown9 hgr9; have HO9 := hid hown9; have HG9 : Hid (Gr [] w7 w9) := hid (Gr.step (by first | exact Hr9.out.alloc _ | exact ((Gr.refl [] w7).alloc _).drew) hgr9 (fun i hi => .inr (by simp at hi; omega))); clear hown9 hgr9))
              have Hg9 : Hid (Gr [] wt w9) := hid (Hg7.out.trans HG9.out)
              have HT9 : Hid (LitsV [] (w9.alloc (.cells #[] 45)) (.slice (some ⟨g, 0, none⟩) k c) (d.take k)) := hid ((((Ho.out.gr Hg9.out (by simp)).lits (S := []) (by simp)).take k hkm').gr ((Gr.refl [] w9).alloc _))
              have HR9 : Hid (LitsV [w9.heap.size] w9 (.slice (some ⟨g9, 0, none⟩) (1 + (m - k)) c9) ([x] ++ d.drop k)) := hid (HO9.out.litsM.lits (by intro b hb hM; simp at hb; have := hM.2; omega))
              have hs9 : w.heap.size ≤ w9.heap.size := Nat.le_trans hbs HG9.out.size
              clear had c0 c1 c2
              go_wp2_with (at_builtin; first
                | (refine wpl_appL rfl _ _ 110 rfl w.heap.size 45 (.agg #[.int .i64 0, .int .i64 0, .bool false]) 24 infoL rfl (by omega) Tryz.underlying110 w9.heap.size 0 0 [] (d.take k) rfl (OwnL.empty w9 45 hs9) ⟨g, 0, none⟩ k c [] rfl HT9.out (by have := Hm.out; simp [List.length_take]; omega) (by simp; omega) ?_; intro g10 c10 w10 hown10 hgr10; have HO10 : Hid (OwnL w.heap.size w10 45 (.slice (some ⟨g10, 0, none⟩) k c10) (d.take k)) := hid (by simpa using hown10); have HR10 := hid (HR9.out.gr (((Gr.refl [w9.heap.size] w9).alloc (.cells #[] 45)).trans hgr10)); have HG10 : Hid (Gr [] w9 w10) := hid (((Gr.refl [] w9).alloc (.cells #[] 45)).step hgr10 (fun i hi => .inr (by simp at hi; omega))); have hs10 := hgr10.size; clear hown10 hgr10)
                | (refine wpl_appL rfl _ _ 110 rfl w.heap.size 45 (.agg #[.int .i64 0, .int .i64 0, .bool false]) 24 infoL rfl (by omega) Tryz.underlying110 g10 k c10 (d.take k) ([x] ++ d.drop k) rfl HO10.out ⟨g9, 0, none⟩ (1 + (m - k)) c9 [w9.heap.size] rfl HR10.out (by have := Hm.out; simp; omega) (by simp at hs10; omega) ?_; intro g11 c11 w11 hown11 hgr11))
              have Hg11 : Hid (Gr [] w w11) := hid (((Hg.out.trans Hg9.out).trans HG10.out).step hgr11 (fun i hi => .inr (HO10.out.block i (by simpa [Value.ownBlock] using hi))))
              refine ⟨⟨n + 1, k + (1 + (m - k)), g11, c11, by omega, by go_num, rfl, hid ?_, hid ?_, Hg11.out⟩, by simp [intOf]; omega⟩
              · rw [Hsn.out, HE.out]
                have := Hm.out
                simp [List.length_take]; omega
              · rw [Hsn.out, HE.out]
                exact hown11
          · rw [h3] at HHc
            have HHd := hid HHc
            clear HHc
            go_wp2_with fail
            refine wp_region_gr [] _ (by kernel_rfl) (by kernel_rfl) (Gr.refl _ _) ?_
            repeat (go_big_quiet_step ((go_at_call 179; exact HHd.out _)))
            refine wpQuiet_nil ?_
            rintro w6 ⟨n6, rfl⟩
            have Hg6 := hid (Hgk.out.trans n6.gr)
            clear e0 e1 e2 e0' e1' e2'
            go_wp2_with fail
            exact ⟨⟨k + 1, by omega, by go_num, hid (HI.out.succ Hy2.out h3), Hg6.out⟩, by simp [intOf]; omega⟩
        · have hke : k = m := by omega
          have HE : Hid (insL x d = d.take k ++ ([x] ++ d.drop k)) := hid (by
            have h1 := Hm.out
            rw [HI.out.atEnd (by omega), List.take_of_length_le (by omega), List.drop_eq_nil_of_le (by omega)]; simp)
          have hkf : decide ((k : Int) < (m : Int)) = false := by simp; omega
          have Hke := hid hke
          clear hke
          go_wp2_with fail
          refine wp_region_gr [] _ (by kernel_rfl) (by kernel_rfl) (Gr.refl _ _) ?_
          repeat (go_big_quiet_step (fail))
          refine wpQuiet_nil ?_
          rintro w6 ⟨n6, hw6⟩
          have Hg6 : Hid (Gr [] wt w6) := hid (Hgk.out.trans (hw6 ▸ n6.gr))
          clear hw6 n6 e0 e1 e2
          go_wp2_with fail
          refine wp_region_gr [] _ (by kernel_rfl) (by kernel_rfl) (Gr.refl _ _) ?_
          repeat (go_big_quiet_step (fail))
          refine wpQuiet_nil ?_
          rintro w7 ⟨n7, hw7⟩
          have Hg7 : Hid (Gr [] wt w7) := hid (Hg6.out.trans (hw7 ▸ n7.gr))
          clear hw7 n7
          have c0 := Hg7.out.cell K0.out (by simp); have c1 := Hg7.out.cell K1.out (by simp); have c2 := Hg7.out.cell K2.out (by simp)
          have hkm' : k ≤ m := by omega
          obtain ⟨ad, had, hL7⟩ : ∃ ad, (if c = k then some (⟨g, 0, none⟩ : Addr) else some ⟨g, k * 3, none⟩) = some ad ∧ LitsV [] w7 (.slice (some ad) (m - k) (c - k)) (d.drop k) := by
            have hL7 := ((Ho.out.gr Hg7.out (by simp)).lits (S := []) (by simp)).drop k hkm'
            rw [Nat.zero_add] at hL7
            by_cases hck : c = k
            · refine ⟨_, if_pos hck, ?_⟩
              have hd0 : d.drop k = [] := List.drop_eq_nil_of_le (by have := Hm.out; omega)
              rw [hd0, show m - k = 0 by omega, show c - k = 0 by omega]
              exact ⟨_, _, rfl, by simp, fun i l hi => by simp at hi⟩
            · exact ⟨_, if_neg hck, hL7⟩
          have hbs : w.heap.size ≤ w7.heap.size := Nat.le_trans Hg.out.size Hg7.out.size
          have HL7 := hid hL7
          have hdl : (d.drop k).length ≤ 100000 := by rw [List.length_drop]; have := Hm.out; omega
          have Hdl := hid hdl
          have hr9 : Gr [] w7 (w7.drew) := (Gr.refl [] w7).drew
          have Hr9 := hid hr9
          clear hL7 hdl hr9
          go_wp2_with fail
          go_region_law (first
            | (refine step_appL rfl _ _ 110 rfl w.heap.size 45 (.agg #[.int .i64 0, .int .i64 0, .bool false]) 24 infoL rfl (by omega) Tryz.underlying110 w7.heap.size 1 1 [x] (d.drop k) rfl (by first | exact OwnL.one w7.drew 45 x hbs | exact World.ownsRow.drew (OwnL.one w7 45 x hbs)) ad (m - k) (c - k) [] rfl (HL7.out.gr (by first | exact Hr9.out.alloc _ | exact ((Gr.refl [] w7).alloc _).drew)) (by have := Hdl.out; show 1 + (d.drop k).length ≤ 10000000; omega) (by simp; omega) ?_; intro g9 c9 w9 hown9 hgr9; have HO9 := hid hown9; have HG9 : Hid (Gr [] w7 w9) := hid (Gr.step (by first | exact Hr9.out.alloc _ | exact ((Gr.refl [] w7).alloc _).drew) hgr9 (fun i hi => .inr (by simp at hi; omega))); clear hown9 hgr9))
          have Hg9 : Hid (Gr [] wt w9) := hid (Hg7.out.trans HG9.out)
          have HT9 : Hid (LitsV [] (w9.alloc (.cells #[] 45)) (.slice (some ⟨g, 0, none⟩) k c) (d.take k)) := hid ((((Ho.out.gr Hg9.out (by simp)).lits (S := []) (by simp)).take k hkm').gr ((Gr.refl [] w9).alloc _))
          have HR9 : Hid (LitsV [w9.heap.size] w9 (.slice (some ⟨g9, 0, none⟩) (1 + (m - k)) c9) ([x] ++ d.drop k)) := hid (HO9.out.litsM.lits (by intro b hb hM; simp at hb; have := hM.2; omega))
          have hs9 : w.heap.size ≤ w9.heap.size := Nat.le_trans hbs HG9.out.size
          clear had c0 c1 c2
          go_wp2_with (at_builtin; first
            | (refine wpl_appL rfl _ _ 110 rfl w.heap.size 45 (.agg #[.int .i64 0, .int .i64 0, .bool false]) 24 infoL rfl (by omega) Tryz.underlying110 w9.heap.size 0 0 [] (d.take k) rfl (OwnL.empty w9 45 hs9) ⟨g, 0, none⟩ k c [] rfl HT9.out (by have := Hm.out; simp [List.length_take]; omega) (by simp; omega) ?_; intro g10 c10 w10 hown10 hgr10; have HO10 : Hid (OwnL w.heap.size w10 45 (.slice (some ⟨g10, 0, none⟩) k c10) (d.take k)) := hid (by simpa using hown10); have HR10 := hid (HR9.out.gr (((Gr.refl [w9.heap.size] w9).alloc (.cells #[] 45)).trans hgr10)); have HG10 : Hid (Gr [] w9 w10) := hid (((Gr.refl [] w9).alloc (.cells #[] 45)).step hgr10 (fun i hi => .inr (by simp at hi; omega))); have hs10 := hgr10.size; clear hown10 hgr10)
            | (refine wpl_appL rfl _ _ 110 rfl w.heap.size 45 (.agg #[.int .i64 0, .int .i64 0, .bool false]) 24 infoL rfl (by omega) Tryz.underlying110 g10 k c10 (d.take k) ([x] ++ d.drop k) rfl HO10.out ⟨g9, 0, none⟩ (1 + (m - k)) c9 [w9.heap.size] rfl HR10.out (by have := Hm.out; simp; omega) (by simp at hs10; omega) ?_; intro g11 c11 w11 hown11 hgr11))
          have Hg11 : Hid (Gr [] w w11) := hid (((Hg.out.trans Hg9.out).trans HG10.out).step hgr11 (fun i hi => .inr (HO10.out.block i (by simpa [Value.ownBlock] using hi))))
          refine ⟨⟨n + 1, k + (1 + (m - k)), g11, c11, by omega, by go_num, rfl, hid ?_, hid ?_, Hg11.out⟩, by simp [intOf]; omega⟩
          · rw [Hsn.out, HE.out]
            have := Hm.out
            simp [List.length_take]; omega
          · rw [Hsn.out, HE.out]
            exact hown11
    · go_wp2_with fail
      go_ret
      have e1 : b.take n = b := List.take_of_length_le (by omega)
      have h1 := Hm.out
      have h2 := Ho.out
      rw [e1] at h1 h2
      subst h1
      exact ⟨g, c, rfl, h2, Hg.out⟩
end
end Go.Proofs.YtlekngkcifgonaaGreat
