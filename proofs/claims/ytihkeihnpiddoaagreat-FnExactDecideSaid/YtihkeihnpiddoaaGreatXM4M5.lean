/-
  Walks of the reference's propagation, the whole of it.
  Walks of the program's propagation.
-/
import Derived.Test.YtihkeihnpiddoaaGreatXM1
import Derived.Test.YtihkeihnpiddoaaGreatXFP
import Derived.Deep.LoopGhost
import Derived.Test.YtihkeihnpiddoaaGreatXQFil
import Derived.Deep.RegionHeld3
set_option linter.unusedVariables false
namespace Go.Proofs.YtihkeihnpiddoaaGreat
open Go.RowKit

def consB (cs : List Con) (D : List Nat) : Bool := cs.all fun c => decide (filt c D = D)
theorem consB_iff {cs : List Con} {D : List Nat} : consB cs D = true ↔ ∀ c ∈ cs, filt c D = D := by simp [consB]
theorem consB_false {cs : List Con} {D : List Nat} {c : Con} (h : c ∈ cs) (hf : filt c D ≠ D) : consB cs D = false := by
  unfold consB; rw [List.all_eq_false]; exact ⟨c, h, by simpa using hf⟩
theorem memB_ints (D : List Nat) : memB 0 (ints D) = decide (0 ∈ D) := by
  unfold memB
  rw [Bool.eq_iff_iff, decide_eq_true_eq, decide_eq_true_eq, ints_mem]
  exact ⟨fun ⟨d, h, e⟩ => by have : d = 0 := by omega
                             subst this; exact h, fun h => ⟨0, h, rfl⟩⟩
theorem decide_ints (D E : List Nat) : decide (ints D = ints E) = decide (D = E) := by
  rw [Bool.eq_iff_iff, decide_eq_true_eq, decide_eq_true_eq, ints_inj]

set_option maxRecDepth 100000 in
theorem specIsConsistent_c (m : Mod) (d : List Nat) (mv dv : Value) (w : World) (hv : ModV [] w mv m) (hx : Nums [] w .i64 dv (ints d)) (hc : VCs m.cons d.length) (hd : Below64 d) :
    Calls Tryz.prog 96 #[mv, dv] w fun e w' => e = .returned (.bool (consB m.cons d)) ∧ Gr [] w w' := by
  obtain ⟨mdv, cv, rfl, _, hcv⟩ := hv
  have hg0 : Gr [] w (w.alloc (.cells #[mdv, cv] 26)) := (Gr.refl _ _).alloc _
  have hb0 : (w.alloc (.cells #[mdv, cv] 26)).heap[w.heap.size]? = some (.cells #[mdv, cv] 26 (0, 0)) := heap_alloc_new _ _
  obtain ⟨ao, ac, rfl, ⟨hc1, hc2⟩, hcc⟩ := hcv.open
  have Hcc := hid hcc; have HC := hid hc; have HD := hid hd; have Hx := hid hx
  clear hcc hcv hc hd hx
  have hfl := fld hb0
  have Hb0 := hid hb0; clear hb0
  go_enter Tryz.func96, Tryz.ntmps96
  go_wp2_with fail
  clear hfl
  go_loopw [5] (fun i wr => ∃ n : Nat, n ≤ m.cons.length ∧ i = .int .i64 n ∧ (∀ (j : Nat) c, j < n → m.cons[j]? = some c → decide (filt c d ≠ d) = false) ∧ Gr [] (w.alloc (.cells #[mdv, .slice ao m.cons.length ac] 26)) wr) (fun i _ => m.cons.length - (intOf i).toNat)
  case atStart => exact ⟨0, Nat.zero_le _, rfl, by intro j x hj; omega, Gr.refl _ _⟩
  case round =>
    obtain ⟨n, hn, rfl, hp, hg⟩ := hrel
    have HP := hid hp; clear hp
    have hflr := fld (hg.obj Hb0.out (by simp))
    by_cases hlt : n < m.cons.length
    · obtain ⟨c, hx⟩ := get_some hlt
      obtain ⟨b, o, vv, av, rv, rfl, _, ⟨h0, h1, h2, h3, h4⟩, hcon⟩ := (Hcc.out.gr (hg0.trans hg)).at hx
      have HX := hid hx; have Hcon := hid hcon; clear hx hcon
      go_wp2_with fail
      have hcall := supported_c c d _ _ _ Hcon.out (Hx.out.gr (hg0.trans hg)) (HC.out c (List.mem_of_getElem? HX.out)) HD.out
      (with_reducible refine hcall.mono ?_)
      clear hcall
      rintro e w2 ⟨v2, rfl, hown2, hg2⟩
      have Hn2 := hid (hown2.nums (S := []) (by simp))
      clear hown2
      go_wp2_with fail
      have hcall := equalInts_c _ _ _ _ _ Hn2.out (Hx.out.gr ((hg0.trans hg).trans hg2))
      (with_reducible refine hcall.mono ?_)
      clear hcall
      rintro e w3 ⟨rfl, hg3⟩
      rw [decide_ints]
      have hg03 := (hg.trans hg2).trans hg3
      by_cases hb : filt c d = d
      · have hb' : decide (filt c d = d) = true := by simpa using hb
        have HB := hid hb; clear hb
        rw [hb']
        go_wp2_with fail
        exact ⟨⟨n + 1, by omega, by go_num, below_snoc HP.out HX.out (by simp [HB.out]), hg03⟩, by simp [intOf]; omega⟩
      · have hb' : decide (filt c d = d) = false := by simpa using hb
        have HB := hid hb; clear hb
        rw [hb']
        go_wp2_with fail
        go_ret
        exact ⟨ret_bool (consB_false (List.mem_of_getElem? HX.out) HB.out).symm, hg0.trans hg03⟩
    · go_wp2_with fail
      go_ret
      refine ⟨ret_bool ?_, hg0.trans hg⟩
      symm
      rw [consB_iff]
      intro c hc
      obtain ⟨j, hj, rfl⟩ := List.mem_iff_getElem.1 hc
      have := HP.out j _ (by omega) (List.getElem?_eq_getElem hj)
      simpa using this

set_option maxRecDepth 100000 in
set_option maxHeartbeats 1000000 in
theorem specFixpoint_c (m : Mod) (d : List Nat) (mv dv : Value) (w : World) (hv : ModV [] w mv m) (hx : Nums [] w .i64 dv (ints d)) (hc : VCs m.cons d.length) (hd : Below64 d) (hdl : d.length ≤ 4) :
    Calls Tryz.prog 48 #[mv, dv] w fun e w' => ∃ v', e = .returned v' ∧ Own w.heap.size w' 3 v' (ints (fix m.cons d)) ∧ Gr [] w w' := by
  have Hv := hid hv
  obtain ⟨mdv, cv, rfl, _, hcv⟩ := hv
  have hg0 : Gr [] w (w.alloc (.cells #[mdv, cv] 26)) := (Gr.refl _ _).alloc _
  have hb0 : (w.alloc (.cells #[mdv, cv] 26)).heap[w.heap.size]? = some (.cells #[mdv, cv] 26 (0, 0)) := heap_alloc_new _ _
  obtain ⟨ao, ac, rfl, ⟨hc1, hc2⟩, hcc⟩ := hcv.open
  have Hcc := hid hcc; have HC := hid hc; have HD := hid hd; have Hx := hid hx; have Hdl := hid hdl
  clear hcc hcv hc hd hx hdl
  have Hb0 := hid hb0; clear hb0
  go_enter Tryz.func48, Tryz.ntmps48
  go_wp2_with fail
  have hcall := copyInts_c _ (ints d) _ (Hx.out.gr hg0) (by rw [ints_len]; have := Hdl.out; omega)
  (with_reducible refine hcall.mono ?_)
  clear hcall
  rintro e w1 ⟨v1, rfl, hown1, hg1⟩
  have hown1' := hown1.le (B' := w.heap.size) hg0.size
  have Hown1 := hid hown1'; clear hown1 hown1'
  go_wp2_with fail
  go_loopg [5] (d.sum + 1) (fun k v wr => ∃ D : List Nat, D.sum < k ∧ Own w.heap.size wr 3 v (ints D) ∧ D.length = d.length ∧ Below64 D ∧ fix m.cons D = fix m.cons d ∧ Gr [] (w.alloc (.cells #[mdv, .slice ao m.cons.length ac] 26)) wr)
  case atStart => exact ⟨d, by omega, Hown1.out, rfl, HD.out, rfl, hg1⟩
  case round =>
    obtain ⟨D, hk, hown, hDl, hDb, hfix, hg⟩ := hrel
    have hflr := fld (hg.obj Hb0.out (by simp))
    have HCD : Hid (VCs m.cons D.length) := hid (by rw [hDl]; exact HC.out)
    have Hn := hid (hown.nums (S := []) (by simp))
    have hil := ints_len D
    obtain ⟨vo, vcap, rfl, ⟨hv1, hv2, _⟩, _⟩ := hown.nums (S := []) (by simp)
    have HmV := hid (Hv.out.gr (hg0.trans hg))
    rw [hil, hDl] at hv1 Hn hown ⊢
    have Hown := hid hown; have HDl := hid hDl; have HDb := hid hDb; have Hfix := hid hfix; have Hg := hid hg
    have hdl4 := Hdl.out
    clear hown hDl hDb hfix hg hil
    have hmk := fun w => run_make_row' (P := Tryz.prog) 23 3 (.int .i64 0) 8 Tryz.underlying23 infoI rfl .i64 .i64 d.length (by omega) (by omega) w
    by_cases h0 : 0 ∈ D
    · have hm0 : memB 0 (ints D) = true := by rw [memB_ints]; simpa using h0
      have H0 := hid h0; have Hm0 := hid hm0; clear h0 hm0
      cases hb : consB m.cons D
      all_goals
        have Hb := hid hb; clear hb
        go_wp2_with fail
        have hcall := specIsConsistent_c m D _ _ _ HmV.out Hn.out HCD.out HDb.out
        (with_reducible refine hcall.mono ?_)
        clear hcall
        rw [Hb.out]
        rintro e w2 ⟨rfl, hg2⟩
        have Hn2 := hid (Hn.out.gr hg2)
        have hfl2 := fld ((Hg.out.trans hg2).obj Hb0.out (by simp))
        have Hg2 := hid hg2; clear hg2
        go_wp2_with (go_at_call 97; refine (hasEmpty_c _ _ _ Hn2.out).mono ?_; rw [Hm0.out]; rintro e w' ⟨rfl, rfl⟩)
        go_ret
        refine ⟨_, rfl, ?_, (((hg0.trans Hg.out).trans Hg2.out).alloc _)⟩
        rw [← Hfix.out, fix_zero HCD.out H0.out, HDl.out]
        have : ints (zeros d.length) = List.replicate d.length (0 : Int) := by simp [ints, zeros]
        rw [this]
        exact own_made (heap_alloc_new _ _) (by have := ((hg0.trans Hg.out).trans Hg2.out).size; omega) (by omega)
    · have hm0 : memB 0 (ints D) = false := by rw [memB_ints]; simpa using h0
      have H0 := hid h0; have Hm0 := hid hm0; clear h0 hm0
      cases hb : consB m.cons D
      · have Hb := hid hb; clear hb
        go_wp2_with fail
        have hcall := specIsConsistent_c m D _ _ _ HmV.out Hn.out HCD.out HDb.out
        (with_reducible refine hcall.mono ?_)
        clear hcall
        rw [Hb.out]
        rintro e w2 ⟨rfl, hg2⟩
        have Hn2 := hid (Hn.out.gr hg2)
        have hfl2 := fld ((Hg.out.trans hg2).obj Hb0.out (by simp))
        have Hg2 := hid hg2; clear hg2
        go_wp2_with (go_at_call 97; refine (hasEmpty_c _ _ _ Hn2.out).mono ?_; rw [Hm0.out]; rintro e w' ⟨rfl, rfl⟩)
        clear hfl2 hflr
        have hown2 := Hown.out.gr Hg2.out (by simp)
        have Hown2 := hid hown2; clear hown2
        go_loopw [5, 6] (fun v i wr2 => ∃ n : Nat, n ≤ m.cons.length ∧ i = .int .i64 n ∧ Own w.heap.size wr2 3 v (ints (stepF (m.cons.take n) D)) ∧ Gr [] w2 wr2) (fun _ i _ => m.cons.length - (intOf i).toNat)
        case atStart => exact ⟨0, Nat.zero_le _, rfl, by simpa [stepF] using Hown2.out, Gr.refl _ _⟩
        case round =>
          obtain ⟨n, hn, rfl, hown, hgi⟩ := hrel
          have hg3 := ((Hg.out.trans Hg2.out).trans hgi)
          have hflr := fld (hg3.obj Hb0.out (by simp))
          have hEl := stepF_len (cs := m.cons.take n) D
          have hEb := stepF_below (HCD.out.take n) HDb.out
          have hil := ints_len (stepF (m.cons.take n) D)
          have Hn3 := hid (hown.nums (S := []) (by simp))
          have Hown3 := hid hown; clear hown
          have Hg3 := hid hg3; clear hg3
          have Hgi := hid hgi; clear hgi
          have HEl := hid hEl; clear hEl hil
          have HEb := hid hEb; clear hEb
          by_cases hlt : n < m.cons.length
          · obtain ⟨c, hx⟩ := get_some hlt
            obtain ⟨b, o, vv, av, rv, rfl, _, ⟨h0, h1, h2, h3, h4⟩, hcon⟩ := (Hcc.out.gr (hg0.trans Hg3.out)).at hx
            have HX := hid hx; have Hcon := hid hcon; clear hx hcon
            go_wp2_with fail
            have hcall := supported_c c (stepF (m.cons.take n) D) _ _ _ Hcon.out Hn3.out (by rw [HEl.out]; exact HCD.out c (List.mem_of_getElem? HX.out)) HEb.out
            (with_reducible refine hcall.mono ?_)
            clear hcall
            rintro e w4 ⟨v4, rfl, hown4, hg4⟩
            rw [← stepF_snoc HX.out] at hown4
            have Hown4 := hid (hown4.le (B' := w.heap.size) (by have := (hg0.trans Hg3.out).size; omega)); clear hown4
            go_wp2_with fail
            exact ⟨⟨n + 1, by omega, by go_num, Hown4.out, Hgi.out.trans hg4⟩, by simp [intOf]; omega⟩
          · have hnt : m.cons.take n = m.cons := List.take_of_length_le (by omega)
            rw [hnt] at Hown3 HEb HEl
            have hne : stepF m.cons D ≠ D := fun e => by
              have := consB_iff.2 ((stepF_eq_iff HCD.out).1 e)
              rw [this] at Hb; have := Hb.out; cases this
            have hlt2 := stepF_lt HCD.out hne
            have Hne := hid hne; clear hne hnt
            go_wp2_with fail
            go_roundg (D.sum)
            case measure => omega
            case rel => exact ⟨stepF m.cons D, hlt2, Hown3.out, by rw [HEl.out, HDl.out], HEb.out, by rw [← fix_more HCD.out H0.out Hne.out]; exact Hfix.out, Hg3.out⟩
      · have Hb := hid hb; clear hb
        go_wp2_with fail
        have hcall := specIsConsistent_c m D _ _ _ HmV.out Hn.out HCD.out HDb.out
        (with_reducible refine hcall.mono ?_)
        clear hcall
        rw [Hb.out]
        rintro e w2 ⟨rfl, hg2⟩
        have Hn2 := hid (Hn.out.gr hg2)
        have hfl2 := fld ((Hg.out.trans hg2).obj Hb0.out (by simp))
        have Hg2 := hid hg2; clear hg2
        go_wp2_with (go_at_call 97; refine (hasEmpty_c _ _ _ Hn2.out).mono ?_; rw [Hm0.out]; rintro e w' ⟨rfl, rfl⟩)
        go_ret
        refine ⟨_, rfl, ?_, ((hg0.trans Hg.out).trans Hg2.out)⟩
        rw [← Hfix.out, fix_done HCD.out H0.out ((stepF_eq_iff HCD.out).2 (consB_iff.1 Hb.out))]
        exact Hown.out.gr Hg2.out (by simp)

theorem validM_iff {m : Mod} : validM m = true ↔ domsOk m.doms = true ∧ m.cons.length ≤ 6 ∧ ∀ c ∈ m.cons, validCon c m.doms.length = true := by
  unfold validM
  rw [Bool.and_eq_true, Bool.and_eq_true, inB_iff, List.all_eq_true]
  constructor
  · rintro ⟨⟨h1, h2⟩, h3⟩; exact ⟨h1, by omega, h3⟩
  · rintro ⟨h1, h2, h3⟩; exact ⟨⟨h1, by omega⟩, h3⟩
/-- What a valid model gives: its domains as natural numbers. -/
structure VM (m : Mod) (D : List Nat) : Prop where
  doms : m.doms = ints D
  len : 1 ≤ D.length ∧ D.length ≤ 4
  below : Below64 D
  cons : VCs m.cons D.length
  many : m.cons.length ≤ 6
theorem validM_open {m : Mod} (h : validM m = true) : ∃ D, VM m D := by
  obtain ⟨h1, h2, h3⟩ := validM_iff.1 h
  unfold domsOk at h1
  rw [Bool.and_eq_true, inB_iff, allB_iff] at h1
  obtain ⟨D, hD, hb⟩ := ints_below h1.2
  have hl : m.doms.length = D.length := by rw [hD, ints_len]
  refine ⟨D, hD, by omega, hb, fun c hc => ?_, h2⟩
  have := h3 c hc
  rw [hl] at this
  exact validCon_iff.1 this
end Go.Proofs.YtihkeihnpiddoaaGreat

set_option linter.unusedVariables false
namespace Go.Proofs.YtihkeihnpiddoaaGreat
open Go.RowKit

theorem filtered_c (m : Mod) (d : List Nat) (mv dv : Value) (w : World) (B : Nat) (hv : ModV [] w mv m) (hx : OwnC B w 3 dv (ints d)) (hB : B ≤ w.heap.size) (hc : VCs m.cons d.length) (hd : Below64 d) :
    Calls Tryz.prog 90 #[mv, dv] w fun e w' => ∃ v', e = .returned v' ∧ OwnC B w' 3 v' (ints (stepF m.cons d)) ∧ Gr [] w w' := by
  obtain ⟨mdv, cv, rfl, _, hcv⟩ := hv
  have hg0 : Gr [] w (w.alloc (.cells #[mdv, cv] 26)) := (Gr.refl _ _).alloc _
  have hb0 : (w.alloc (.cells #[mdv, cv] 26)).heap[w.heap.size]? = some (.cells #[mdv, cv] 26 (0, 0)) := heap_alloc_new _ _
  obtain ⟨ao, ac, rfl, ⟨hc1, hc2⟩, hcc⟩ := hcv.open
  have Hcc := hid hcc; have HC := hid hc; have HD := hid hd; have Hx := hid (hx.gr hg0 (by simp))
  clear hcc hcv hc hd hx
  have hfl := fld hb0
  have Hb0 := hid hb0; clear hb0
  go_enter Tryz.func90, Tryz.ntmps90
  go_wp2_with fail
  clear hfl
  go_loopw [1, 10] (fun v i wr => ∃ n : Nat, n ≤ m.cons.length ∧ i = .int .i64 n ∧ OwnC B wr 3 v (ints (stepF (m.cons.take n) d)) ∧ Gr [] (w.alloc (.cells #[mdv, .slice ao m.cons.length ac] 26)) wr) (fun _ i _ => m.cons.length - (intOf i).toNat)
  case atStart => exact ⟨0, Nat.zero_le _, rfl, by simpa [stepF] using Hx.out, Gr.refl _ _⟩
  case round =>
    obtain ⟨n, hn, rfl, hown, hg⟩ := hrel
    have hflr := fld (hg.obj Hb0.out (by simp))
    have hEl := stepF_len (cs := m.cons.take n) d
    have hEb := stepF_below (HC.out.take n) HD.out
    have Hown := hid hown; have Hg := hid hg; have HEl := hid hEl; have HEb := hid hEb
    clear hown hg hEl hEb
    by_cases hlt : n < m.cons.length
    · obtain ⟨c, hx⟩ := get_some hlt
      obtain ⟨b, o, vo, vc, xo, xc, ro, rc, rfl, _, ⟨h0, h1, h2, h3, h4⟩, hcon⟩ := (Hcc.out.gr (hg0.trans Hg.out)).at2 hx
      have HX := hid hx; have Hcon := hid hcon; clear hx hcon
      have hga : Gr [] wr (wr.alloc (.cells #[.int .i64 c.kind, .slice vo c.vars.length vc, .slice xo c.args.length xc, .int .i64 c.bound, .slice ro c.rows.length rc] 41)) := (Gr.refl _ _).alloc _
      have hfn := fld (heap_alloc_new wr (.cells #[.int .i64 c.kind, .slice vo c.vars.length vc, .slice xo c.args.length xc, .int .i64 c.bound, .slice ro c.rows.length rc] 41))
      go_wp2_with fail
      have hcall := filter_c c (stepF (m.cons.take n) d) _ _ _ (Hcon.out.gr hga) ((Hown.out.nums' (by simp)).gr hga) (by rw [HEl.out]; exact HC.out c (List.mem_of_getElem? HX.out)) HEb.out
      (with_reducible refine hcall.mono ?_)
      clear hcall
      rintro e w4 ⟨v4, rfl, hown4, hg4⟩
      rw [← stepF_snoc HX.out] at hown4
      have Hown4 := hid (hown4.le (B' := B) (by have := (hg0.trans Hg.out).size; simp; omega)); clear hown4
      go_wp2_with fail
      exact ⟨⟨n + 1, by omega, by go_num, Hown4.out, Hg.out.trans (hga.trans hg4)⟩, by simp [intOf]; omega⟩
    · go_wp2_with fail
      go_ret
      have e1 : m.cons.take n = m.cons := List.take_of_length_le (by omega)
      exact ⟨_, rfl, by have := Hown.out; rwa [e1] at this, hg0.trans Hg.out⟩

set_option maxRecDepth 100000 in
set_option maxHeartbeats 1000000 in
theorem fixpoint_c (m : Mod) (d : List Nat) (mv dv : Value) (w : World) (hv : ModV [] w mv m) (hx : Nums [] w .i64 dv (ints d)) (hc : VCs m.cons d.length) (hd : Below64 d) (hdl : d.length ≤ 4) :
    Calls Tryz.prog 89 #[dv, .func (.func 90) #[mv] #[]] w fun e w' => ∃ v', e = .returned v' ∧ OwnC w.heap.size w' 3 v' (ints (fix m.cons d)) ∧ Gr [] w w' := by
  have Hv := hid hv; have HC := hid hc; have HD := hid hd; have Hx := hid hx; have Hdl := hid hdl
  clear hc hd hx hdl hv
  go_enter Tryz.func89, Tryz.ntmps89
  go_wp2_with fail
  have hcall := copied_c _ (ints d) _ Hx.out (by rw [ints_len]; have := Hdl.out; omega)
  (with_reducible refine hcall.mono ?_)
  clear hcall
  rintro e w1 ⟨v1, rfl, hown1, hg1⟩
  have Hown1 := hid hown1; clear hown1
  go_wp2_with fail
  go_loopg [5] (d.sum + 1) (fun k v wr => ∃ D : List Nat, D.sum < k ∧ OwnC w.heap.size wr 3 v (ints D) ∧ D.length = d.length ∧ Below64 D ∧ fix m.cons D = fix m.cons d ∧ Gr [] w wr)
  case atStart => exact ⟨d, by omega, Hown1.out, rfl, HD.out, rfl, hg1⟩
  case round =>
    obtain ⟨D, hk, hown, hDl, hDb, hfix, hg⟩ := hrel
    have HCD : Hid (VCs m.cons D.length) := hid (by rw [hDl]; exact HC.out)
    have Hn := hid (hown.nums' (S := []) (by simp))
    have hil := ints_len D
    obtain ⟨vo, vcap, rfl, ⟨hv1, hv2, _⟩, _⟩ := hown.nums' (S := []) (by simp)
    rw [hil, hDl] at hv1 Hn hown ⊢
    have Hown := hid hown; have HDl := hid hDl; have HDb := hid hDb; have Hfix := hid hfix; have Hg := hid hg
    have hdl4 := Hdl.out
    clear hown hDl hDb hfix hg hil
    have hmk := fun w => run_make_row' (P := Tryz.prog) 23 3 (.int .i64 0) 8 Tryz.underlying23 infoI rfl .i64 .i64 d.length (by omega) (by omega) w
    go_wp2_with fail
    have hcall := containsInt_c (ints D) 0 _ _ Hn.out
    (with_reducible refine hcall.mono ?_)
    clear hcall
    rw [memB_ints]
    rintro e w2 ⟨rfl, hg2⟩
    have Hg2 := hid hg2; clear hg2
    by_cases h0 : 0 ∈ D
    · have h0' : decide (0 ∈ D) = true := by simpa using h0
      have H0 := hid h0; clear h0
      rw [h0']
      clear h0'
      go_wp2_with fail
      go_ret
      refine ⟨_, rfl, ?_, ((Hg.out.trans Hg2.out).alloc _)⟩
      rw [← Hfix.out, fix_zero HCD.out H0.out, HDl.out]
      have : ints (zeros d.length) = List.replicate d.length (0 : Int) := by simp [ints, zeros]
      rw [this]
      exact (own_made (heap_alloc_new _ _) (by have := (Hg.out.trans Hg2.out).size; omega) (by omega)).c
    · have h0' : decide (0 ∈ D) = false := by simpa using h0
      have H0 := hid h0; clear h0
      rw [h0']
      clear h0'
      go_wp2_with fail
      have hcall := filtered_c m D _ _ w2 w.heap.size (Hv.out.gr (Hg.out.trans Hg2.out)) (Hown.out.gr Hg2.out (by simp)) (Hg.out.trans Hg2.out).size HCD.out HDb.out
      (with_reducible refine hcall.mono ?_)
      clear hcall
      rintro e w3 ⟨v3, rfl, hown3, hg3⟩
      have Hn3 := hid (hown3.nums' (S := []) (by simp))
      have Hown3 := hid hown3; have Hg3 := hid hg3; clear hown3 hg3
      go_wp2_with fail
      have hcall := sliceEqual_c _ _ _ _ w3 Hn3.out (Hn.out.gr (Hg2.out.trans Hg3.out))
      (with_reducible refine hcall.mono ?_)
      clear hcall
      rw [decide_ints]
      rintro e w4 ⟨rfl, hg4⟩
      have Hg4 := hid hg4; clear hg4
      have Hg24 := hid ((Hg2.out.trans Hg3.out).trans Hg4.out)
      by_cases hs : stepF m.cons D = D
      · have hs' : decide (stepF m.cons D = D) = true := by simpa using hs
        have HS := hid hs; clear hs
        rw [hs']
        clear hs'
        go_wp2_with fail
        go_ret
        refine ⟨_, rfl, ?_, Hg.out.trans Hg24.out⟩
        rw [← Hfix.out, fix_done HCD.out H0.out HS.out]
        exact Hown.out.gr Hg24.out (by simp)
      · have hs' : decide (stepF m.cons D = D) = false := by simpa using hs
        have HS := hid hs; clear hs
        rw [hs']
        clear hs'
        have hlt := stepF_lt HCD.out HS.out
        go_wp2_with fail
        go_roundg (D.sum)
        case measure => omega
        case rel => exact ⟨stepF m.cons D, hlt, Hown3.out.gr Hg4.out (by simp), by rw [stepF_len, HDl.out], stepF_below HCD.out HDb.out, by rw [← fix_more HCD.out H0.out HS.out]; exact Hfix.out, Hg.out.trans Hg24.out⟩

set_option maxRecDepth 100000 in
theorem propagate_c (m : Mod) (d : List Nat) (mv dv : Value) (w : World) (hv : ModV [] w mv m) (hx : Nums [] w .i64 dv (ints d)) (hc : VCs m.cons d.length) (hd : Below64 d) (hdl : d.length ≤ 4) :
    Calls Tryz.prog 39 #[mv, dv] w fun e w' => ∃ v', e = .returned v' ∧ OwnC w.heap.size w' 3 v' (ints (fix m.cons d)) ∧ Gr [] w w' := by
  have Hv := hid hv; have HC := hid hc; have HD := hid hd; have Hx := hid hx; have Hdl := hid hdl
  obtain ⟨mdv, cv, rfl, _, hcv⟩ := hv
  have hg0 : Gr [] w (w.alloc (.cells #[mdv, cv] 26)) := (Gr.refl _ _).alloc _
  have hb0 : (w.alloc (.cells #[mdv, cv] 26)).heap[w.heap.size]? = some (.cells #[mdv, cv] 26 (0, 0)) := heap_alloc_new _ _
  have hfl := fld hb0
  clear hcv hc hd hx hdl hb0
  go_enter Tryz.func39, Tryz.ntmps39
  go_wp2_with fail
  have hcall := fixpoint_c m d _ _ _ (Hv.out.gr hg0) (Hx.out.gr hg0) HC.out HD.out Hdl.out
  (with_reducible refine hcall.mono ?_)
  clear hcall
  rintro e w1 ⟨v1, rfl, hown1, hg1⟩
  go_wp2_with fail
  go_ret
  exact ⟨_, rfl, hown1.le hg0.size, hg0.trans hg1⟩

end Go.Proofs.YtihkeihnpiddoaaGreat
