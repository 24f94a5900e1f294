/-
  Walks of the reference's propagation, the whole of it.
  Walks of the program's propagation.
-/
import Derived.Test.YtmonhpoogfdpoaaGreatXM1
import Derived.Test.YtmonhpoogfdpoaaGreatXFP
import Derived.Deep.LoopGhost
import Derived.Test.YtmonhpoogfdpoaaGreatXQFil
import Derived.Deep.RegionHeld3
set_option linter.unusedVariables false
namespace Go.Proofs.YtmonhpoogfdpoaaGreat
open Go.RowKit

theorem memB_ints (D : List Nat) : memB 0 (ints D) = decide (0 ∈ D) := by
  unfold memB
  rw [Bool.eq_iff_iff, decide_eq_true_eq, decide_eq_true_eq, ints_mem]
  exact ⟨fun ⟨d, h, e⟩ => by have : d = 0 := by omega
                             subst this; exact h, fun h => ⟨0, h, rfl⟩⟩
theorem decide_ints (D E : List Nat) : decide (ints D = ints E) = decide (D = E) := by
  rw [Bool.eq_iff_iff, decide_eq_true_eq, decide_eq_true_eq, ints_inj]

theorem validM_iff {m : Mod} : validM m = true ↔ domsOk m.doms = true ∧ m.cons.length ≤ 6 ∧ ∀ c ∈ m.cons, validCon c m.doms.length = true := by
  unfold validM
  rw [Bool.and_eq_true, Bool.and_eq_true, inB_iff, List.all_eq_true]
  constructor
  · rintro ⟨⟨h1, h2⟩, h3⟩; exact ⟨h1, by omega, h3⟩
  · rintro ⟨h1, h2, h3⟩; exact ⟨⟨h1, by omega⟩, h3⟩
/-- What a valid model gives: its domains as natural numbers. -/
structure VM (m : Mod) (D : List Nat) : Prop where
  doms : m.doms = ints D
  len : 1 ≤ D.length ∧ D.length ≤ 4
  below : Below64 D
  cons : VCs m.cons D.length
  many : m.cons.length ≤ 6
theorem VM.valid {m : Mod} {D : List Nat} (h : VM m D) : validM m = true := by
  refine validM_iff.2 ⟨?_, h.many, fun c hc => ?_⟩
  · unfold domsOk
    rw [Bool.and_eq_true, inB_iff, allB_iff, h.doms, ints_len]
    have := h.len
    refine ⟨by omega, fun x hx => ?_⟩
    obtain ⟨d, hd, rfl⟩ := ints_mem.1 hx
    have := h.below d hd; omega
  · rw [h.doms, ints_len]; exact validCon_iff.2 (h.cons c hc)

end Go.Proofs.YtmonhpoogfdpoaaGreat

set_option linter.unusedVariables false
namespace Go.Proofs.YtmonhpoogfdpoaaGreat
open Go.RowKit

theorem filtered_c (m : Mod) (d : List Nat) (mv dv : Value) (w : World) (B : Nat) (hv : ModV [] w mv m) (hx : OwnC B w 3 dv (ints d)) (hB : B ≤ w.heap.size) (hc : VCs m.cons d.length) (hd : Below64 d) :
    Calls Tryz.prog 89 #[mv, dv] w fun e w' => ∃ v', e = .returned v' ∧ OwnC B w' 3 v' (ints (stepF m.cons d)) ∧ Gr [] w w' := by
  obtain ⟨mdv, cv, rfl, _, hcv⟩ := hv
  have hg0 : Gr [] w (w.alloc (.cells #[mdv, cv] 40)) := (Gr.refl _ _).alloc _
  have hb0 : (w.alloc (.cells #[mdv, cv] 40)).heap[w.heap.size]? = some (.cells #[mdv, cv] 40 (0, 0)) := heap_alloc_new _ _
  obtain ⟨ao, ac, rfl, ⟨hc1, hc2⟩, hcc⟩ := hcv.open
  have Hcc := hid hcc; have HC := hid hc; have HD := hid hd; have Hx := hid (hx.gr hg0 (by simp))
  clear hcc hcv hc hd hx
  have hfl := fld hb0
  have Hb0 := hid hb0; clear hb0
  go_enter Tryz.func89, Tryz.ntmps89
  go_wp2_with fail
  clear hfl
  go_loopw [1, 10] (fun v i wr => ∃ n : Nat, n ≤ m.cons.length ∧ i = .int .i64 n ∧ OwnC B wr 3 v (ints (stepF (m.cons.take n) d)) ∧ Gr [] (w.alloc (.cells #[mdv, .slice ao m.cons.length ac] 40)) wr) (fun _ i _ => m.cons.length - (intOf i).toNat)
  case atStart => exact ⟨0, Nat.zero_le _, rfl, by simpa [stepF] using Hx.out, Gr.refl _ _⟩
  case round =>
    obtain ⟨n, hn, rfl, hown, hg⟩ := hrel
    have hflr := fld (hg.obj Hb0.out (by simp))
    have hEl := stepF_len (cs := m.cons.take n) d
    have hEb := stepF_below (HC.out.take n) HD.out
    have Hown := hid hown; have Hg := hid hg; have HEl := hid hEl; have HEb := hid hEb
    clear hown hg hEl hEb
    by_cases hlt : n < m.cons.length
    · obtain ⟨c, hx⟩ := get_some hlt
      obtain ⟨b, o, vo, vc, xo, xc, ro, rc, rfl, _, ⟨h0, h1, h2, h3, h4⟩, hcon⟩ := (Hcc.out.gr (hg0.trans Hg.out)).at2 hx
      have HX := hid hx; have Hcon := hid hcon; clear hx hcon
      have hga : Gr [] wr (wr.alloc (.cells #[.int .i64 c.kind, .slice vo c.vars.length vc, .slice xo c.args.length xc, .int .i64 c.bound, .slice ro c.rows.length rc] 26)) := (Gr.refl _ _).alloc _
      have hfn := fld (heap_alloc_new wr (.cells #[.int .i64 c.kind, .slice vo c.vars.length vc, .slice xo c.args.length xc, .int .i64 c.bound, .slice ro c.rows.length rc] 26))
      go_wp2_with fail
      have hcall := filter_c c (stepF (m.cons.take n) d) _ _ _ (Hcon.out.gr hga) ((Hown.out.nums' (by simp)).gr hga) (by rw [HEl.out]; exact HC.out c (List.mem_of_getElem? HX.out)) HEb.out
      (with_reducible refine hcall.mono ?_)
      clear hcall
      rintro e w4 ⟨v4, rfl, hown4, hg4⟩
      rw [← stepF_snoc HX.out] at hown4
      have Hown4 := hid (hown4.le (B' := B) (by have := (hg0.trans Hg.out).size; simp; omega)); clear hown4
      go_wp2_with fail
      exact ⟨⟨n + 1, by omega, by go_num, Hown4.out, Hg.out.trans (hga.trans hg4)⟩, by simp [intOf]; omega⟩
    · go_wp2_with fail
      go_ret
      have e1 : m.cons.take n = m.cons := List.take_of_length_le (by omega)
      exact ⟨_, rfl, by have := Hown.out; rwa [e1] at this, hg0.trans Hg.out⟩

set_option maxRecDepth 100000 in
set_option maxHeartbeats 1000000 in
theorem fixpoint_c (m : Mod) (d : List Nat) (mv dv : Value) (w : World) (hv : ModV [] w mv m) (hx : Nums [] w .i64 dv (ints d)) (hc : VCs m.cons d.length) (hd : Below64 d) (hdl : d.length ≤ 4) :
    Calls Tryz.prog 88 #[dv, .func (.func 89) #[mv] #[]] w fun e w' => ∃ v', e = .returned v' ∧ OwnC w.heap.size w' 3 v' (ints (fix m.cons d)) ∧ Gr [] w w' := by
  have Hv := hid hv; have HC := hid hc; have HD := hid hd; have Hx := hid hx; have Hdl := hid hdl
  clear hc hd hx hdl hv
  go_enter Tryz.func88, Tryz.ntmps88
  go_wp2_with fail
  have hcall := copied_c _ (ints d) _ Hx.out (by rw [ints_len]; have := Hdl.out; omega)
  (with_reducible refine hcall.mono ?_)
  clear hcall
  rintro e w1 ⟨v1, rfl, hown1, hg1⟩
  have Hown1 := hid hown1; clear hown1
  go_wp2_with fail
  go_loopg [5] (d.sum + 1) (fun k v wr => ∃ D : List Nat, D.sum < k ∧ OwnC w.heap.size wr 3 v (ints D) ∧ D.length = d.length ∧ Below64 D ∧ fix m.cons D = fix m.cons d ∧ Gr [] w wr)
  case atStart => exact ⟨d, by omega, Hown1.out, rfl, HD.out, rfl, hg1⟩
  case round =>
    obtain ⟨D, hk, hown, hDl, hDb, hfix, hg⟩ := hrel
    have HCD : Hid (VCs m.cons D.length) := hid (by rw [hDl]; exact HC.out)
    have Hn := hid (hown.nums' (S := []) (by simp))
    have hil := ints_len D
    obtain ⟨vo, vcap, rfl, ⟨hv1, hv2, _⟩, _⟩ := hown.nums' (S := []) (by simp)
    rw [hil, hDl] at hv1 Hn hown ⊢
    have Hown := hid hown; have HDl := hid hDl; have HDb := hid hDb; have Hfix := hid hfix; have Hg := hid hg
    have hdl4 := Hdl.out
    clear hown hDl hDb hfix hg hil
    have hmk := fun w => run_make_row' (P := Tryz.prog) 23 3 (.int .i64 0) 8 Tryz.underlying23 infoI rfl .i64 .i64 d.length (by omega) (by omega) w
    go_wp2_with fail
    have hcall := containsInt_c (ints D) 0 _ _ Hn.out
    (with_reducible refine hcall.mono ?_)
    clear hcall
    rw [memB_ints]
    rintro e w2 ⟨rfl, hg2⟩
    have Hg2 := hid hg2; clear hg2
    by_cases h0 : 0 ∈ D
    · have h0' : decide (0 ∈ D) = true := by simpa using h0
      have H0 := hid h0; clear h0
      rw [h0']
      clear h0'
      go_wp2_with fail
      go_ret
      refine ⟨_, rfl, ?_, ((Hg.out.trans Hg2.out).alloc _)⟩
      rw [← Hfix.out, fix_zero HCD.out H0.out, HDl.out]
      have : ints (zeros d.length) = List.replicate d.length (0 : Int) := by simp [ints, zeros]
      rw [this]
      exact (own_made (heap_alloc_new _ _) (by have := (Hg.out.trans Hg2.out).size; omega) (by omega)).c
    · have h0' : decide (0 ∈ D) = false := by simpa using h0
      have H0 := hid h0; clear h0
      rw [h0']
      clear h0'
      go_wp2_with fail
      have hcall := filtered_c m D _ _ w2 w.heap.size (Hv.out.gr (Hg.out.trans Hg2.out)) (Hown.out.gr Hg2.out (by simp)) (Hg.out.trans Hg2.out).size HCD.out HDb.out
      (with_reducible refine hcall.mono ?_)
      clear hcall
      rintro e w3 ⟨v3, rfl, hown3, hg3⟩
      have Hn3 := hid (hown3.nums' (S := []) (by simp))
      have Hown3 := hid hown3; have Hg3 := hid hg3; clear hown3 hg3
      go_wp2_with fail
      have hcall := sliceEqual_c _ _ _ _ w3 Hn3.out (Hn.out.gr (Hg2.out.trans Hg3.out))
      (with_reducible refine hcall.mono ?_)
      clear hcall
      rw [decide_ints]
      rintro e w4 ⟨rfl, hg4⟩
      have Hg4 := hid hg4; clear hg4
      have Hg24 := hid ((Hg2.out.trans Hg3.out).trans Hg4.out)
      by_cases hs : stepF m.cons D = D
      · have hs' : decide (stepF m.cons D = D) = true := by simpa using hs
        have HS := hid hs; clear hs
        rw [hs']
        clear hs'
        go_wp2_with fail
        go_ret
        refine ⟨_, rfl, ?_, Hg.out.trans Hg24.out⟩
        rw [← Hfix.out, fix_done HCD.out H0.out HS.out]
        exact Hown.out.gr Hg24.out (by simp)
      · have hs' : decide (stepF m.cons D = D) = false := by simpa using hs
        have HS := hid hs; clear hs
        rw [hs']
        clear hs'
        have hlt := stepF_lt HCD.out HS.out
        go_wp2_with fail
        go_roundg (D.sum)
        case measure => omega
        case rel => exact ⟨stepF m.cons D, hlt, Hown3.out.gr Hg4.out (by simp), by rw [stepF_len, HDl.out], stepF_below HCD.out HDb.out, by rw [← fix_more HCD.out H0.out HS.out]; exact Hfix.out, Hg.out.trans Hg24.out⟩

set_option maxRecDepth 100000 in
theorem propagate_c (m : Mod) (d : List Nat) (mv dv : Value) (w : World) (hv : ModV [] w mv m) (hx : Nums [] w .i64 dv (ints d)) (hc : VCs m.cons d.length) (hd : Below64 d) (hdl : d.length ≤ 4) :
    Calls Tryz.prog 64 #[mv, dv] w fun e w' => ∃ v', e = .returned v' ∧ OwnC w.heap.size w' 3 v' (ints (fix m.cons d)) ∧ Gr [] w w' := by
  have Hv := hid hv; have HC := hid hc; have HD := hid hd; have Hx := hid hx; have Hdl := hid hdl
  obtain ⟨mdv, cv, rfl, _, hcv⟩ := hv
  have hg0 : Gr [] w (w.alloc (.cells #[mdv, cv] 40)) := (Gr.refl _ _).alloc _
  have hb0 : (w.alloc (.cells #[mdv, cv] 40)).heap[w.heap.size]? = some (.cells #[mdv, cv] 40 (0, 0)) := heap_alloc_new _ _
  have hfl := fld hb0
  clear hcv hc hd hx hdl hb0
  go_enter Tryz.func64, Tryz.ntmps64
  go_wp2_with fail
  have hcall := fixpoint_c m d _ _ _ (Hv.out.gr hg0) (Hx.out.gr hg0) HC.out HD.out Hdl.out
  (with_reducible refine hcall.mono ?_)
  clear hcall
  rintro e w1 ⟨v1, rfl, hown1, hg1⟩
  go_wp2_with fail
  go_ret
  exact ⟨_, rfl, hown1.le hg0.size, hg0.trans hg1⟩

end Go.Proofs.YtmonhpoogfdpoaaGreat
