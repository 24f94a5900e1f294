/-
  Walks of propagation with clauses: the program.
-/
import Derived.Test.YtpfelbbmgbfkeaaGreatUs

set_option linter.unusedVariables false
set_option linter.unusedSimpArgs false
namespace Go.Proofs.YtpfelbbmgbfkeaaGreat
open Go.RowKit

/-- Clauses that propagation can read. -/
structure KOk (cls : List Cls) (n : Nat) : Prop where
  lits : ∀ c ∈ cls, ∀ l ∈ c, litOk n l = true
  short : ∀ c ∈ cls, c.length ≤ 1000
  few : cls.length ≤ 1000

set_option maxRecDepth 100000 in
set_option maxHeartbeats 1000000 in
theorem clsStep_c (m : Mod) (cls : List Cls) (D : List Nat) (mdv mcv kv dv : Value) (bm bk : Nat) (w : World) (hv : ModV [] w (.agg #[mdv, mcv]) m) (hk : ClsV [] w kv cls)
    (hbm : w.heap[bm]? = some (.cells #[mdv, mcv] 26 (0, 0))) (hbk : w.heap[bk]? = some (.cells #[kv] 55 (0, 0)))
    (hx : Nums [] w .i64 dv (ints D)) (hc : VCs m.cons D.length) (hd : Below64 D) (hdl : 1 ≤ D.length ∧ D.length ≤ 4) (hok : KOk cls D.length) :
    Calls Tryz.prog 172 #[dv, .pointer (some ⟨bm, 0, none⟩), .pointer (some ⟨bk, 0, none⟩)] w fun e w' => ∃ v', e = .returned v' ∧ OwnC w.heap.size w' 3 v' (ints (stepC m.cons cls D)) ∧ Gr [] w w' := by
  obtain ⟨ko, kc, rfl, ⟨hk1, hk2⟩⟩ := hk.slice
  have hkl := hok.few
  have Hv := hid hv; have Hk := hid hk; have Hx := hid hx; have HC := hid hc; have HD := hid hd; have Hok := hid hok; have Hbk := hid hbk
  have hfl := fld hbm; have hfk := fld hbk
  have hFl := fix_len hc
  have hFb := fix_below hc hd
  have HFl := hid hFl; have HFb := hid hFb
  clear hv hk hx hc hd hok hbm hbk hFl hFb
  go_enter Tryz.func172, Tryz.ntmps172
  go_wp2_with fail
  have hcall := propagate_c m D _ _ _ Hv.out Hx.out HC.out HD.out hdl.2
  (with_reducible refine hcall.mono ?_)
  clear hcall
  rintro e w1 ⟨v1, rfl, ho1, hg1⟩
  have hfk1 := fld (hg1.obj Hbk.out (by simp))
  have Ho1 := hid ho1; have Hg1 := hid hg1
  clear ho1 hg1
  go_wp2_with fail
  go_loopw [0, 12] (fun v i wr => ∃ n : Nat, n ≤ cls.length ∧ i = .int .i64 n ∧ OwnC w.heap.size wr 3 v (ints (clsF (cls.take n) (fix m.cons D))) ∧ Gr [] w1 wr) (fun _ i _ => cls.length - (intOf i).toNat)
  case atStart => exact ⟨0, Nat.zero_le _, rfl, by simpa [clsF] using Ho1.out, Gr.refl _ _⟩
  case round =>
    obtain ⟨n, hn, rfl, hown, hg⟩ := hrel
    have Hown := hid hown; have Hgw := hid (Hg1.out.trans hg); have Hg := hid hg
    clear hown hg
    by_cases hlt : n < cls.length
    · obtain ⟨c, hx⟩ := get_some hlt
      obtain ⟨b, o, co, cc, rfl, -, k0, hcv⟩ := (Hk.out.gr Hgw.out).at hx
      have HX := hid hx; have Hcv := hid hcv
      have hcm := List.mem_of_getElem? hx
      have Hcm := hid hcm
      clear hx hcv hcm
      go_wp2_with fail
      have hcall := unit_c (clsF (cls.take n) (fix m.cons D)) c _ _ _ (Hown.out.nums' (by simp)) Hcv.out (by rw [clsF_len, HFl.out]; exact Hok.out.lits c Hcm.out) (by rw [clsF_len, HFl.out]; exact hdl) (clsF_below HFb.out) (Hok.out.short c Hcm.out)
      (with_reducible refine hcall.mono ?_)
      clear hcall
      rintro e w4 ⟨v4, rfl, hown4, hg4⟩
      rw [← clsF_snoc HX.out] at hown4
      have Hown4 := hid (hown4.le (B' := w.heap.size) Hgw.out.size); clear hown4
      go_wp2_with fail
      exact ⟨⟨n + 1, by omega, by go_num, Hown4.out, Hg.out.trans hg4⟩, by simp [intOf]; omega⟩
    · go_wp2_with fail
      go_ret
      have e1 : cls.take n = cls := List.take_of_length_le (by omega)
      exact ⟨_, rfl, by have := Hown.out; rwa [e1] at this, Hgw.out⟩

set_option maxRecDepth 100000 in
set_option maxHeartbeats 1000000 in
theorem fixpointK_c (m : Mod) (cls : List Cls) (d : List Nat) (mdv mcv kv dv : Value) (bm bk : Nat) (w : World) (hv : ModV [] w (.agg #[mdv, mcv]) m) (hk : ClsV [] w kv cls)
    (hbm : w.heap[bm]? = some (.cells #[mdv, mcv] 26 (0, 0))) (hbk : w.heap[bk]? = some (.cells #[kv] 55 (0, 0)))
    (hx : Nums [] w .i64 dv (ints d)) (hc : VCs m.cons d.length) (hd : Below64 d) (hdl : 1 ≤ d.length ∧ d.length ≤ 4) (hok : KOk cls d.length) :
    Calls Tryz.prog 119 #[dv, .func (.func 172) #[] #[.pointer (some ⟨bm, 0, none⟩), .pointer (some ⟨bk, 0, none⟩)]] w fun e w' => ∃ v', e = .returned v' ∧ OwnC w.heap.size w' 3 v' (ints (fixC m.cons cls d)) ∧ Gr [] w w' := by
  have Hv := hid hv; have HC := hid hc; have HD := hid hd; have Hx := hid hx; have Hdl := hid hdl; have Hk := hid hk; have Hbm := hid hbm; have Hbk := hid hbk; have Hok := hid hok
  clear hc hd hx hdl hv hk hbm hbk hok
  go_enter Tryz.func119, Tryz.ntmps119
  go_wp2_with fail
  have hcall := copied_c _ (ints d) _ Hx.out (by rw [ints_len]; have := Hdl.out; omega)
  (with_reducible refine hcall.mono ?_)
  clear hcall
  rintro e w1 ⟨v1, rfl, hown1, hg1⟩
  have Hown1 := hid hown1; clear hown1
  go_wp2_with fail
  go_loopg [5] (d.sum + 1) (fun k v wr => ∃ D : List Nat, D.sum < k ∧ OwnC w.heap.size wr 3 v (ints D) ∧ D.length = d.length ∧ Below64 D ∧ fixC m.cons cls D = fixC m.cons cls d ∧ Gr [] w wr)
  case atStart => exact ⟨d, by omega, Hown1.out, rfl, HD.out, rfl, hg1⟩
  case round =>
    obtain ⟨D, hk, hown, hDl, hDb, hfix, hg⟩ := hrel
    have HCD : Hid (VCs m.cons D.length) := hid (by rw [hDl]; exact HC.out)
    have HOk : Hid (KOk cls D.length) := hid (by rw [hDl]; exact Hok.out)
    have Hn := hid (hown.nums' (S := []) (by simp))
    have hil := ints_len D
    obtain ⟨vo, vcap, rfl, ⟨hv1, hv2, _⟩, _⟩ := hown.nums' (S := []) (by simp)
    rw [hil, hDl] at hv1 Hn hown ⊢
    have Hown := hid hown; have HDl := hid hDl; have HDb := hid hDb; have Hfix := hid hfix; have Hg := hid hg
    have hdl4 := Hdl.out.2
    clear hown hDl hDb hfix hg hil
    have hmk := fun w => run_make_row' (P := Tryz.prog) 23 3 (.int .i64 0) 8 Tryz.underlying23 infoI rfl .i64 .i64 d.length (by omega) (by omega) w
    go_wp2_with fail
    have hcall := containsInt_c (ints D) 0 _ _ Hn.out
    (with_reducible refine hcall.mono ?_)
    clear hcall
    rw [memB_ints]
    rintro e w2 ⟨rfl, hg2⟩
    have Hg2 := hid hg2; clear hg2
    by_cases h0 : 0 ∈ D
    · have h0' : decide (0 ∈ D) = true := by simpa using h0
      have H0 := hid h0; clear h0
      rw [h0']
      clear h0'
      go_wp2_with fail
      go_ret
      refine ⟨_, rfl, ?_, ((Hg.out.trans Hg2.out).alloc _)⟩
      rw [← Hfix.out, fixC_zero HCD.out H0.out, HDl.out]
      have : ints (zeros d.length) = List.replicate d.length (0 : Int) := by simp [ints, zeros]
      rw [this]
      exact (own_made (heap_alloc_new _ _) (by have := (Hg.out.trans Hg2.out).size; omega) (by omega)).c
    · have h0' : decide (0 ∈ D) = false := by simpa using h0
      have H0 := hid h0; clear h0
      rw [h0']
      clear h0'
      have HG2 := hid (Hg.out.trans Hg2.out)
      go_wp2_with fail
      have hcall := clsStep_c m cls D mdv mcv kv _ bm bk w2 (Hv.out.gr HG2.out) (Hk.out.gr HG2.out) (HG2.out.obj Hbm.out (by simp)) (HG2.out.obj Hbk.out (by simp)) (Hn.out.gr Hg2.out) HCD.out HDb.out (by rw [HDl.out]; exact Hdl.out) HOk.out
      (with_reducible refine hcall.mono ?_)
      clear hcall
      rintro e w3 ⟨v3, rfl, hown3, hg3⟩
      have Hn3 := hid (hown3.nums' (S := []) (by simp))
      have Hown3 := hid (hown3.le (B' := w.heap.size) HG2.out.size); have Hg3 := hid hg3; clear hown3 hg3
      go_wp2_with fail
      have hcall := sliceEqual_c _ _ _ _ w3 Hn3.out (Hn.out.gr (Hg2.out.trans Hg3.out))
      (with_reducible refine hcall.mono ?_)
      clear hcall
      rw [decide_ints]
      rintro e w4 ⟨rfl, hg4⟩
      have Hg4 := hid hg4; clear hg4
      have Hg24 := hid ((Hg2.out.trans Hg3.out).trans Hg4.out)
      by_cases hs : stepC m.cons cls D = D
      · have hs' : decide (stepC m.cons cls D = D) = true := by simpa using hs
        have HS := hid hs; clear hs
        rw [hs']
        clear hs'
        go_wp2_with fail
        go_ret
        refine ⟨_, rfl, ?_, Hg.out.trans Hg24.out⟩
        rw [← Hfix.out, fixC_done HCD.out H0.out HS.out]
        exact Hown.out.gr Hg24.out (by simp)
      · have hs' : decide (stepC m.cons cls D = D) = false := by simpa using hs
        have HS := hid hs; clear hs
        rw [hs']
        clear hs'
        have hlt := stepC_lt HCD.out HS.out
        go_wp2_with fail
        go_roundg (D.sum)
        case measure => omega
        case rel => exact ⟨stepC m.cons cls D, hlt, Hown3.out.gr Hg4.out (by simp), by rw [stepC_len HCD.out, HDl.out], stepC_below HCD.out HDb.out, by rw [← fixC_more HCD.out H0.out HS.out]; exact Hfix.out, Hg.out.trans Hg24.out⟩

set_option maxRecDepth 100000 in
theorem withClauses_c (m : Mod) (cls : List Cls) (d : List Nat) (mv kv dv : Value) (w : World) (hv : ModV [] w mv m) (hk : ClsV [] w kv cls) (hx : Nums [] w .i64 dv (ints d)) (hc : VCs m.cons d.length) (hd : Below64 d) (hdl : 1 ≤ d.length ∧ d.length ≤ 4) (hok : KOk cls d.length) :
    Calls Tryz.prog 138 #[mv, kv, dv] w fun e w' => ∃ v', e = .returned v' ∧ OwnC w.heap.size w' 3 v' (ints (fixC m.cons cls d)) ∧ Gr [] w w' := by
  have Hv := hid hv; have HC := hid hc; have HD := hid hd; have Hx := hid hx; have Hdl := hid hdl; have Hk := hid hk; have Hok := hid hok
  obtain ⟨mdv, cv, rfl, _, hcv⟩ := hv
  obtain ⟨ko, kc, rfl, ⟨hk1, hk2⟩⟩ := hk.slice
  have hg0 : Gr [] w (w.alloc (.cells #[mdv, cv] 26)) := (Gr.refl _ _).alloc _
  have hb0 : (w.alloc (.cells #[mdv, cv] 26)).heap[w.heap.size]? = some (.cells #[mdv, cv] 26 (0, 0)) := heap_alloc_new _ _
  have Hg0 := hid hg0; have Hb0 := hid hb0
  clear hcv hc hd hx hdl hb0 hg0 hk hok
  go_enter Tryz.func138, Tryz.ntmps138
  go_wp2_with fail
  have HG1 : Hid (Gr [] w ((w.alloc (.cells #[mdv, cv] 26)).alloc (.cells #[.slice ko cls.length kc] 55))) := hid (Hg0.out.alloc _)
  have hcall := fixpointK_c m cls d mdv cv (.slice ko cls.length kc) _ w.heap.size (w.heap.size + 1) _ (Hv.out.gr HG1.out) (Hk.out.gr HG1.out) (((Gr.refl [] _).alloc _).obj Hb0.out (by simp)) (by have := heap_alloc_new (w.alloc (.cells #[mdv, cv] 26)) (.cells #[.slice ko cls.length kc] 55); simpa using this) (Hx.out.gr HG1.out) HC.out HD.out Hdl.out Hok.out
  (with_reducible refine hcall.mono ?_)
  clear hcall
  rintro e w1 ⟨v1, rfl, hown1, hg1⟩
  go_wp2_with fail
  go_ret
  exact ⟨_, rfl, hown1.le HG1.out.size, HG1.out.trans hg1⟩
end Go.Proofs.YtpfelbbmgbfkeaaGreat
