/-
  Walks: validity of clauses of any length, on both sides.
-/
import Derived.Test.YtpfelbbmgbfkeaaGreatNg
set_option linter.unusedVariables false
set_option linter.unusedSimpArgs false
namespace Go.Proofs.YtpfelbbmgbfkeaaGreat
open Go.RowKit

theorem valueOkV_c (d : Int) (w : World) : Calls Tryz.prog 75 #[.int .i64 d] w fun e w' => e = .returned (.bool (inB 0 5 d)) ∧ w' = w := by
  go_enter Tryz.func75, Tryz.ntmps75
  go_wp2_with fail
  refine (within_c _ _ _ _).mono ?_
  rintro e w5 ⟨rfl, rfl⟩
  go_wp2_with fail
  go_ret
  exact ⟨rfl, rfl⟩
/-- Literals with variables up to hi. -/
def okHi (hi : Int) (l : Lit) : Bool := inB 0 hi l.var && inB 0 5 l.val
theorem okHi_litOk (n : Int) : okHi (n - 1) = litOk n := rfl
def preOk (hi : Int) (c : Cls) (k : Nat) : Prop := (∀ x ∈ c.take k, okHi hi x = true) ∧ ascB (c.take k) = true
theorem preOk_0 (hi : Int) (c : Cls) : preOk hi c 0 := ⟨by simp, rfl⟩
theorem preOk_succ {hi : Int} {c : Cls} {k : Nat} {l : Lit} (h : c[k]? = some l) : preOk hi c (k + 1) ↔ preOk hi c k ∧ okHi hi l = true ∧ (∀ j y, k = j + 1 → c[j]? = some y → litLt y l = true) := by
  have := validClS_step (n := hi + 1) h
  have e : litOk (hi + 1) = okHi hi := by rw [← okHi_litOk]; congr 1; omega
  rw [e] at this
  exact this
theorem preOk_mono {hi : Int} {c : Cls} {k j : Nat} (h : preOk hi c j) (hk : k ≤ j) : preOk hi c k := by
  obtain ⟨h1, h2⟩ := h
  have e : c.take k = (c.take j).take k := by rw [List.take_take]; congr 1; omega
  refine ⟨fun x hx => h1 x ?_, ?_⟩
  · rw [e] at hx; exact List.mem_of_mem_take hx
  · rw [ascB_iff] at h2 ⊢
    rw [e]
    exact h2.sublist (List.take_sublist _ _)
theorem validCl_of {c : Cls} {n : Int} (h : preOk (n - 1) c c.length) : validClS c n = decide (c.length ≤ 12) := by
  obtain ⟨h1, h2⟩ := h
  rw [List.take_length] at h1 h2
  unfold validClS
  rw [h2, List.all_eq_true.2 (by rw [← okHi_litOk]; exact h1)]
  rfl
theorem validCl_not {c : Cls} {n : Int} {k : Nat} (h : ¬ preOk (n - 1) c k) (hk : k ≤ c.length) : validClS c n = false := by
  cases hv : validClS c n
  · rfl
  · refine absurd (preOk_mono (j := c.length) ?_ hk) h
    obtain ⟨h1, h2, h3⟩ := validClS_iff.1 hv
    exact ⟨by rw [List.take_length, okHi_litOk]; exact h1, by rw [List.take_length, ascB_iff]; exact h2⟩

set_option maxRecDepth 100000 in
set_option maxHeartbeats 4000000 in
theorem validClause_hi (c : Cls) (n hi : Int) (cv : Value) (w : World) (hc : LitsV [] w cv c) (hl : c.length ≤ 2000000) (hn : I64 n) (hhi : IntKind.i64.wrap (n - 1) = hi) :
    Calls Tryz.prog 32 #[cv, .int .i64 n] w fun e w' => (∃ r, e = .returned (.bool r) ∧ (preOk hi c c.length → r = (inB 1 4 n && decide (c.length ≤ 12))) ∧ (∀ k, k ≤ c.length → ¬ preOk hi c k → r = false)) ∧ Gr [] w w' := by
  obtain ⟨co, cc, rfl, ⟨hc1, hc2⟩⟩ := hc.slice
  have Hc := hid hc; have Hhi := hid hhi
  clear hc
  go_enter Tryz.func32, Tryz.ntmps32
  go_wp2_with fail
  go_loopw [9] (fun i wr => ∃ k : Nat, k ≤ c.length ∧ i = .int .i64 k ∧ Hid (preOk hi c k) ∧ Gr [] w wr) (fun i _ => c.length - (intOf i).toNat)
  case atStart => exact ⟨0, Nat.zero_le _, rfl, hid (preOk_0 hi c), Gr.refl _ _⟩
  case round =>
    obtain ⟨k, hk, rfl, Hp, hg⟩ := hrel
    have Hg := hid hg
    by_cases hlt : k < c.length
    · obtain ⟨x, hx⟩ := get_some hlt
      obtain ⟨b, o, rfl, -, k0, k1, k2⟩ := (Hc.out.gr hg).at hx
      have hga : Gr [] wr (wr.alloc (.cells #[.int .i64 x.var, .int .i64 x.val, .bool x.neg] 31)) := (Gr.refl _ _).alloc _
      have hbx := heap_alloc_new wr (.cells #[.int .i64 x.var, .int .i64 x.val, .bool x.neg] 31)
      have Hga := hid hga; have Hbx := hid hbx; have Hx := hid hx
      have Hsc := hid (preOk_succ (hi := hi) hx)
      have fbx := fld hbx
      clear hga hbx hx hhi hg
      go_wp2_with fail
      generalize hWa : wr.alloc (.cells #[.int .i64 x.var, .int .i64 x.val, .bool x.neg] 31) = wa at *
      clear hWa
      have ebx : ∀ (q : GrW [] wa) j, q.val.cell? ⟨wr.heap.size, j, none⟩ = #[.int .i64 x.var, .int .i64 x.val, .bool x.neg][j]? := fun q => fld (q.gr.obj Hbx.out (by simp))
      have hcw : ∀ q : GrW [] wa, Calls Tryz.prog 70 #[.int .i64 x.var, .int .i64 0, .int .i64 hi] q.val fun e w'' => e = .returned (.bool (inB 0 hi x.var)) ∧ ∃ m : GrW [] wa, w'' = m.val := fun q =>
        Calls.gr_of ((within_c _ _ _ _).mono fun e w' h => ⟨h.1, by rw [h.2]; exact Gr.refl _ _⟩)
      have hcv : ∀ q : GrW [] wa, Calls Tryz.prog 75 #[.int .i64 x.val] q.val fun e w'' => e = .returned (.bool (inB 0 5 x.val)) ∧ ∃ m : GrW [] wa, w'' = m.val := fun q =>
        Calls.gr_of ((valueOkV_c _ _).mono fun e w' h => ⟨h.1, by rw [h.2]; exact Gr.refl _ _⟩)
      have Hcv := hid hcv; have Hcw := hid hcw
      clear hcv hcw fbx
      have hwr := Hhi.out
      cases h1 : inB 0 hi x.var
      · refine wp_region_gr [] _ (by kernel_rfl) (by kernel_rfl) (Gr.refl _ _) ?_
        repeat (go_big_quiet_step ((go_at_call 70; have := Hcw.out; rw [h1] at this; exact this _)))
        refine wpQuiet_nil ?_
        rintro w9 ⟨n9, rfl⟩
        have hg9 := n9.gr
        go_wp2_with fail
        go_ret
        refine ⟨⟨false, rfl, fun hp => ?_, fun _ _ _ => rfl⟩, (Hg.out.trans Hga.out).trans hg9⟩
        have := (Hsc.out.1 (preOk_mono hp hlt)).2.1
        unfold okHi at this; rw [h1] at this; cases this
      · cases h2 : inB 0 5 x.val
        · have HHw := Hcw.out; have HHv := Hcv.out
          rw [h1] at HHw; rw [h2] at HHv
          refine wp_region_gr [] _ (by kernel_rfl) (by kernel_rfl) (Gr.refl _ _) ?_
          repeat (go_big_quiet_step (first | (go_at_call 70; exact HHw _) | (go_at_call 75; exact HHv _)))
          refine wpQuiet_nil ?_
          rintro w9 ⟨n9, rfl⟩
          have hg9 := n9.gr
          go_wp2_with fail
          go_ret
          refine ⟨⟨false, rfl, fun hp => ?_, fun _ _ _ => rfl⟩, (Hg.out.trans Hga.out).trans hg9⟩
          have := (Hsc.out.1 (preOk_mono hp hlt)).2.1
          unfold okHi at this; rw [h1, h2] at this; cases this
        · rcases Nat.eq_zero_or_pos k with hk0 | hk0
          · subst hk0
            have HHw := Hcw.out; have HHv := Hcv.out
            rw [h1] at HHw; rw [h2] at HHv
            refine wp_region_gr [] _ (by kernel_rfl) (by kernel_rfl) (Gr.refl _ _) ?_
            repeat (go_big_quiet_step (first | (go_at_call 70; exact HHw _) | (go_at_call 75; exact HHv _)))
            refine wpQuiet_nil ?_
            rintro w9 ⟨n9, rfl⟩
            have hg9 := n9.gr
            go_wp2_with fail
            exact ⟨⟨1, by omega, by go_num, hid (Hsc.out.2 ⟨Hp.out, by unfold okHi; rw [h1, h2]; rfl, fun j y hj => by omega⟩), (Hg.out.trans Hga.out).trans hg9⟩, by simp [intOf]; omega⟩
          · obtain ⟨j, hj⟩ : ∃ j : Nat, k = j + 1 := ⟨k - 1, by omega⟩
            obtain ⟨y, hy⟩ := get_some (xs := c) (k := j) (by omega)
            obtain ⟨b', o', e2, -, d0, d1, d2⟩ := (Hc.out.gr Hg.out).at hy
            cases e2
            have e0' : ∀ q : GrW [] wa, q.val.cell? ⟨b, o + j * 3, none⟩ = some (.int .i64 y.var) := fun q => (Hga.out.trans q.gr).cell d0 (by simp)
            have e1' : ∀ q : GrW [] wa, q.val.cell? ⟨b, o + j * 3 + 1, none⟩ = some (.int .i64 y.val) := fun q => (Hga.out.trans q.gr).cell d1 (by simp)
            have e2' : ∀ q : GrW [] wa, q.val.cell? ⟨b, o + j * 3 + 2, none⟩ = some (.bool y.neg) := fun q => (Hga.out.trans q.gr).cell d2 (by simp)
            have hwj : IntKind.i64.wrap ((k : Int) - 1) = (j : Int) := by rw [IntKind.wrap_i64]; omega
            have hjl : j < c.length := by omega
            have hk1 : decide ((0 : Int) < (k : Int)) = true := by simp; omega
            have Hj := hid hj; have Hy := hid hy
            obtain ⟨r, hr⟩ : ∃ r, r = cmpL y x := ⟨_, rfl⟩
            have hcc : ∀ q : GrW [] wa, Calls Tryz.prog 94 #[.agg #[.int .i64 y.var, .int .i64 y.val, .bool y.neg], .agg #[.int .i64 x.var, .int .i64 x.val, .bool x.neg]] q.val fun e w'' => e = .returned (.int .i64 r) ∧ ∃ m : GrW [] wa, w'' = m.val := fun q =>
              Calls.gr_of ((compare_c _ _ _).mono fun e w' h => ⟨by rw [hr]; exact h.1, h.2.1⟩)
            have Hcc := hid hcc
            have hrn : decide (0 ≤ r) = !litLt y x := by rw [hr]; exact cmpL_nn y x
            have Hrn := hid hrn
            clear hj hy d0 d1 d2 hr hcc hrn
            have HHw := Hcw.out; have HHv := Hcv.out; have HHc := Hcc.out
            rw [h1] at HHw; rw [h2] at HHv
            cases h3 : litLt y x
            all_goals
              have hr1 : decide (0 ≤ r) = !litLt y x := Hrn.out
              rw [h3] at hr1
              simp only [Bool.not_true, Bool.not_false] at hr1
              refine wp_region_gr [] _ (by kernel_rfl) (by kernel_rfl) (Gr.refl _ _) ?_
              repeat (go_big_quiet_step (first | (go_at_call 70; exact HHw _) | (go_at_call 75; exact HHv _) | (go_at_call 94; exact HHc _)))
              refine wpQuiet_nil ?_
              rintro w9 ⟨n9, rfl⟩
              have hg9 := n9.gr
              clear e0' e1' e2'
            · go_wp2_with fail
              go_ret
              refine ⟨⟨false, rfl, fun hp => ?_, fun _ _ _ => rfl⟩, (Hg.out.trans Hga.out).trans hg9⟩
              have := (Hsc.out.1 (preOk_mono hp hlt)).2.2 j y Hj.out Hy.out
              rw [h3] at this; cases this
            · go_wp2_with fail
              refine ⟨⟨k + 1, by omega, by go_num, hid (Hsc.out.2 ⟨Hp.out, by unfold okHi; rw [h1, h2]; rfl, fun j2 y2 hj2 hy2 => ?_⟩), (Hg.out.trans Hga.out).trans hg9⟩, by simp [intOf]; omega⟩
              have e : j2 = j := by have := Hj.out; omega
              subst e
              rw [Hy.out] at hy2
              cases hy2; exact h3
    · have hkl : k = c.length := by omega
      have Hkl := hid hkl
      have hp : preOk hi c c.length := by have := Hp.out; rw [hkl] at this; exact this
      have Hpp := hid hp
      clear hkl hp hhi
      cases h4 : inB 1 4 n
      · go_wp2_with fail
        refine (within_c _ _ _ _).mono ?_
        rw [h4]
        rintro e w5 ⟨rfl, rfl⟩
        go_wp2_with fail
        go_ret
        exact ⟨⟨false, rfl, fun _ => by rw [h4]; rfl, fun k hk hn => rfl⟩, Hg.out⟩
      · by_cases h5 : c.length ≤ 12
        · have h6 : decide ((c.length : Int) ≤ 12) = true := by simp; omega
          go_wp2_with fail
          refine (within_c _ _ _ _).mono ?_
          rw [h4]
          rintro e w5 ⟨rfl, rfl⟩
          go_wp2_with fail
          go_ret
          exact ⟨⟨true, rfl, fun _ => by rw [h4, decide_eq_true h5]; rfl, fun k hk hn => absurd (preOk_mono Hpp.out hk) hn⟩, Hg.out⟩
        · have h6 : decide ((c.length : Int) ≤ 12) = false := by simp; omega
          go_wp2_with fail
          refine (within_c _ _ _ _).mono ?_
          rw [h4]
          rintro e w5 ⟨rfl, rfl⟩
          go_wp2_with fail
          go_ret
          exact ⟨⟨false, rfl, fun _ => by rw [h4, decide_eq_false h5]; rfl, fun k hk hn => rfl⟩, Hg.out⟩
/-- ValidClause of the program, at whatever number. -/
theorem ValidClause_c (c : Cls) (n : Int) (cv : Value) (w : World) (hc : LitsV [] w cv c) (hl : c.length ≤ 2000000) (hn : I64 n) :
    Calls Tryz.prog 32 #[cv, .int .i64 n] w fun e w' => e = .returned (.bool (validCl c n)) ∧ Gr [] w w' := by
  refine (validClause_hi c n _ cv w hc hl hn rfl).mono ?_
  rintro e w' ⟨⟨r, rfl, h1, h2⟩, hg⟩
  refine ⟨ret_bool ?_, hg⟩
  unfold validCl
  cases h4 : inB 1 4 n
  · rw [Bool.false_and]
    by_cases hp : preOk (IntKind.i64.wrap (n - 1)) c c.length
    · rw [h1 hp, h4]; rfl
    · exact h2 _ (Nat.le_refl _) hp
  · have hb := inB_iff.1 h4
    have e1 : IntKind.i64.wrap (n - 1) = n - 1 := by rw [IntKind.wrap_i64]; omega
    rw [e1] at h1 h2
    rw [Bool.true_and]
    by_cases hp : preOk (n - 1) c c.length
    · rw [h1 hp, h4, validCl_of hp]; rfl
    · rw [h2 _ (Nat.le_refl _) hp, validCl_not hp (Nat.le_refl _)]

set_option maxRecDepth 100000 in
set_option maxHeartbeats 4000000 in
theorem specValidClause_c (c : Cls) (n : Int) (cv : Value) (w : World) (hc : LitsV [] w cv c) (hl : c.length ≤ 2000000) (hn : 1 ≤ n ∧ n ≤ 4) :
    Calls Tryz.prog 63 #[cv, .int .i64 n] w fun e w' => e = .returned (.bool (validClS c n)) ∧ Gr [] w w' := by
  obtain ⟨co, cc, rfl, ⟨hc1, hc2⟩⟩ := hc.slice
  have Hc := hid hc
  have hwr : IntKind.i64.wrap (n - 1) = n - 1 := by rw [IntKind.wrap_i64]; omega
  clear hc
  go_enter Tryz.func63, Tryz.ntmps63
  go_wp2_with fail
  go_loopw [5] (fun i wr => ∃ k : Nat, k ≤ c.length ∧ i = .int .i64 k ∧ Hid (preOk (n - 1) c k) ∧ Gr [] w wr) (fun i _ => c.length - (intOf i).toNat)
  case atStart => exact ⟨0, Nat.zero_le _, rfl, hid (preOk_0 (n - 1) c), Gr.refl _ _⟩
  case round =>
    obtain ⟨k, hk, rfl, Hp, hg⟩ := hrel
    have Hg := hid hg
    by_cases hlt : k < c.length
    · obtain ⟨x, hx⟩ := get_some hlt
      obtain ⟨b, o, rfl, -, k0, k1, k2⟩ := (Hc.out.gr hg).at hx
      have Hx := hid hx
      have Hsc := hid (preOk_succ (hi := n - 1) hx)
      have e0 : ∀ q : GrW [] wr, q.val.cell? ⟨b, o + k * 3, none⟩ = some (.int .i64 x.var) := fun q => q.gr.cell k0 (by simp)
      have e1 : ∀ q : GrW [] wr, q.val.cell? ⟨b, o + k * 3 + 1, none⟩ = some (.int .i64 x.val) := fun q => q.gr.cell k1 (by simp)
      have e2 : ∀ q : GrW [] wr, q.val.cell? ⟨b, o + k * 3 + 2, none⟩ = some (.bool x.neg) := fun q => q.gr.cell k2 (by simp)
      have hcw : ∀ (q : GrW [] wr) (x lo hi : Int), Calls Tryz.prog 122 #[.int .i64 x, .int .i64 lo, .int .i64 hi] q.val fun e w'' => e = .returned (.bool (inB lo hi x)) ∧ ∃ m : GrW [] wr, w'' = m.val := fun q x lo hi =>
        Calls.gr_of ((inRange_c _ _ _ _).mono fun e w' h => ⟨h.1, by rw [h.2]; exact Gr.refl _ _⟩)
      have Hcw := hid hcw
      clear hx hg hcw k0 k1 k2
      cases h1 : inB 0 (n - 1) x.var
      · go_wp2_with fail
        refine wp_region_gr [] _ (by kernel_rfl) (by kernel_rfl) (Gr.refl _ _) ?_
        repeat (go_big_quiet_step ((go_at_call 122; exact Hcw.out _ _ _ _)))
        refine wpQuiet_nil ?_
        rintro w9 ⟨n9, rfl⟩
        have hg9 := n9.gr
        go_wp2_with fail
        go_ret
        refine ⟨ret_bool ?_, Hg.out.trans hg9⟩
        refine (validCl_not (k := k + 1) (fun hp => ?_) hlt).symm
        have := (Hsc.out.1 hp).2.1
        unfold okHi at this; rw [h1] at this; cases this
      · cases h2 : inB 0 5 x.val
        · go_wp2_with fail
          refine wp_region_gr [] _ (by kernel_rfl) (by kernel_rfl) (Gr.refl _ _) ?_
          repeat (go_big_quiet_step ((go_at_call 122; exact Hcw.out _ _ _ _)))
          refine wpQuiet_nil ?_
          rintro w9 ⟨n9, rfl⟩
          have hg9 := n9.gr
          go_wp2_with fail
          go_ret
          refine ⟨ret_bool ?_, Hg.out.trans hg9⟩
          refine (validCl_not (k := k + 1) (fun hp => ?_) hlt).symm
          have := (Hsc.out.1 hp).2.1
          unfold okHi at this; rw [h1, h2] at this; cases this
        · rcases Nat.eq_zero_or_pos k with hk0 | hk0
          · subst hk0
            simp only [Nat.zero_mul, Nat.add_zero] at e0 e1 e2
            go_wp2_with fail
            refine wp_region_gr [] _ (by kernel_rfl) (by kernel_rfl) (Gr.refl _ _) ?_
            repeat (go_big_quiet_step ((go_at_call 122; exact Hcw.out _ _ _ _)))
            refine wpQuiet_nil ?_
            rintro w9 ⟨n9, rfl⟩
            have hg9 := n9.gr
            go_wp2_with fail
            exact ⟨⟨1, by omega, by go_num, hid (Hsc.out.2 ⟨Hp.out, by unfold okHi; rw [h1, h2]; rfl, fun j y hj => by omega⟩), Hg.out.trans hg9⟩, by simp [intOf]; omega⟩
          · obtain ⟨j, hj⟩ : ∃ j : Nat, k = j + 1 := ⟨k - 1, by omega⟩
            obtain ⟨y, hy⟩ := get_some (xs := c) (k := j) (by omega)
            obtain ⟨b', o', e9, -, d0, d1, d2⟩ := (Hc.out.gr Hg.out).at hy
            cases e9
            have e0' : ∀ q : GrW [] wr, q.val.cell? ⟨b, o + j * 3, none⟩ = some (.int .i64 y.var) := fun q => q.gr.cell d0 (by simp)
            have e1' : ∀ q : GrW [] wr, q.val.cell? ⟨b, o + j * 3 + 1, none⟩ = some (.int .i64 y.val) := fun q => q.gr.cell d1 (by simp)
            have e2' : ∀ q : GrW [] wr, q.val.cell? ⟨b, o + j * 3 + 2, none⟩ = some (.bool y.neg) := fun q => q.gr.cell d2 (by simp)
            have hwj : IntKind.i64.wrap ((k : Int) - 1) = (j : Int) := by rw [IntKind.wrap_i64]; omega
            have hjl : j < c.length := by omega
            have hk1 : decide ((0 : Int) < (k : Int)) = true := by simp; omega
            have Hj := hid hj; have Hy := hid hy
            have hcc : ∀ q : GrW [] wr, Calls Tryz.prog 124 #[.agg #[.int .i64 y.var, .int .i64 y.val, .bool y.neg], .agg #[.int .i64 x.var, .int .i64 x.val, .bool x.neg]] q.val fun e w'' => e = .returned (.bool (litLt y x)) ∧ ∃ m : GrW [] wr, w'' = m.val := fun q =>
              Calls.gr_of (literalLess_c _ _ _)
            have Hcc := hid hcc
            clear hj hy d0 d1 d2 hcc
            have HHc := Hcc.out
            cases h3 : litLt y x
            all_goals
              rw [h3] at HHc
              have HHd := hid HHc
              clear HHc
              go_wp2_with fail
              refine wp_region_gr [] _ (by kernel_rfl) (by kernel_rfl) (Gr.refl _ _) ?_
              repeat (go_big_quiet_step (first | (go_at_call 122; exact Hcw.out _ _ _ _) | (go_at_call 124; exact HHd.out _)))
              refine wpQuiet_nil ?_
              rintro w9 ⟨n9, rfl⟩
              have hg9 := n9.gr
              clear e0' e1' e2' e0 e1 e2
            · go_wp2_with fail
              go_ret
              refine ⟨ret_bool ?_, Hg.out.trans hg9⟩
              refine (validCl_not (k := k + 1) (fun hp => ?_) hlt).symm
              have := (Hsc.out.1 hp).2.2 j y Hj.out Hy.out
              rw [h3] at this; cases this
            · go_wp2_with fail
              refine ⟨⟨k + 1, by omega, by go_num, hid (Hsc.out.2 ⟨Hp.out, by unfold okHi; rw [h1, h2]; rfl, fun j2 y2 hj2 hy2 => ?_⟩), Hg.out.trans hg9⟩, by simp [intOf]; omega⟩
              have e : j2 = j := by have := Hj.out; omega
              subst e
              rw [Hy.out] at hy2
              cases hy2; exact h3
    · have hkl : k = c.length := by omega
      have hp : preOk (n - 1) c c.length := by have := Hp.out; rw [hkl] at this; exact this
      have Hpp := hid (validCl_of hp)
      clear hkl hp
      by_cases h5 : c.length ≤ 12
      · have h6 : decide ((c.length : Int) ≤ 12) = true := by simp; omega
        go_wp2_with fail
        go_ret
        exact ⟨ret_bool (by rw [Hpp.out, decide_eq_true h5]), Hg.out⟩
      · have h6 : decide ((c.length : Int) ≤ 12) = false := by simp; omega
        go_wp2_with fail
        go_ret
        exact ⟨ret_bool (by rw [Hpp.out, decide_eq_false h5]), Hg.out⟩
end Go.Proofs.YtpfelbbmgbfkeaaGreat
