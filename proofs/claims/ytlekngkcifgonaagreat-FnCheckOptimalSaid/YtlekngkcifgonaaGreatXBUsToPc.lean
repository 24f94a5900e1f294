/-
  Walks of unit propagation with one clause: the reference.
  Walks of propagation with clauses: the program.
  Walk: domains restricted to literals.
  Walks: validity of a list of clauses, implied clauses: the program.
  Walks: validity of a list of clauses, implied clauses: the reference.
  Walks: IsImplied of the reference.
  Walks of CheckProof, on both sides.
  Plain law: what reverse propagation refutes is implied; a clause implies itself. No program is mentioned.
  Plain laws of proofs: a proof that is accepted leaves no solution; a proof that the search builds is accepted. No program is mentioned.
-/
import Derived.Test.YtlekngkcifgonaaGreatXBUn
import Derived.Test.YtlekngkcifgonaaGreatXTrPrPv
import Derived.Test.YtlekngkcifgonaaGreatXLtStP
import Derived.Test.YtlekngkcifgonaaGreatXM4M5
set_option linter.unusedVariables false
set_option linter.unusedSimpArgs false
namespace Go.Proofs.YtlekngkcifgonaaGreat
open Go.RowKit

set_option maxRecDepth 100000 in
set_option maxHeartbeats 4000000 in
theorem clauseFilter_c (D : List Nat) (c : Cls) (dv cv : Value) (w : World) (hd : Nums [] w .i64 dv (ints D)) (hc : LitsV [] w cv c) (hok : ∀ l ∈ c, litOk D.length l = true) (hl : 1 ≤ D.length ∧ D.length ≤ 4) (hb : Below64 D) (hcl : c.length ≤ 1000) :
    Calls Tryz.prog 255 #[cv, dv] w fun e w' => ∃ v', e = .returned v' ∧ OwnC w.heap.size w' 3 v' (ints (unitF c D)) ∧ Gr [] w w' := by
  have Hd := hid hd; have Hc := hid hc; have Hok := hid hok; have H64 := hid hb
  obtain ⟨co, cc, rfl, ⟨hc1, hc2⟩⟩ := hc.slice
  obtain ⟨xo, xc, e1, ⟨hx1, hx2, -⟩, -⟩ := id hd
  rw [ints_len] at e1 hx1
  subst e1
  have hmk := fun w => run_make_row' (P := Tryz.prog) 23 3 (.int .i64 0) 8 Tryz.underlying23 infoI rfl .i64 .i64 D.length (by omega) (by omega) w
  clear hd hc hok hb
  go_enter Tryz.func255, Tryz.ntmps255
  go_wp2_with fail
  have hcall := copyInts_c _ (ints D) _ Hd.out (by rw [ints_len]; omega)
  (with_reducible refine hcall.mono ?_)
  clear hcall
  rintro e w1 ⟨v1, rfl, ho1', hg1⟩
  have ho1 := ho1'.c
  obtain ⟨g, cap, rfl⟩ := ho1.open (by rw [ints_len]; omega)
  rw [ints_len] at ho1
  rw [ints_len]
  have hgB := ho1.block
  have Ho1 := hid ho1; have Hg1 := hid hg1
  clear ho1 hg1 ho1'
  go_wp2_with fail
  go_loopw [6, 7] (fun m i wr => ∃ (n : Nat), n ≤ c.length ∧ i = .int .i64 n ∧ Hid ((opens D (c.take n) = [] ∧ m = .int .i64 (-1)) ∨ ∃ (j : Nat) (l : Lit), j < n ∧ c[j]? = some l ∧ opens D (c.take n) = [l] ∧ m = .int .i64 (j : Int)) ∧ Gr [] w1 wr) (fun _ i _ => c.length - (intOf i).toNat)
  case atStart => exact ⟨0, Nat.zero_le _, rfl, hid (.inl ⟨by simp [opens], rfl⟩), Gr.refl _ _⟩
  case round =>
    obtain ⟨n, hn, rfl, HM, hg⟩ := hrel
    have Hg := hid hg
    have Hgw : Hid (Gr [] w wr) := hid (Hg1.out.trans hg)
    have hcl2 := hcl
    have HOwn := hid (Ho1.out.gr hg (by simp))
    by_cases hlt : n < c.length
    · obtain ⟨l, hx⟩ := get_some hlt
      obtain ⟨⟨hv0, hv1⟩, hval⟩ := litOk_iff.1 (Hok.out l (List.mem_of_getElem? hx))
      have hsn := opens_snoc (D := D) hx
      obtain ⟨b, o, rfl, -, k0, k1, k2⟩ := (Hc.out.gr Hgw.out).at hx
      obtain ⟨lv, lw, ln⟩ := l
      dsimp only at hv0 hv1 hval k0 k1 k2
      obtain ⟨k, rfl⟩ := Int.eq_ofNat_of_zero_le hv0
      have hk : k < D.length := by omega
      obtain ⟨d, hdd⟩ := get_some hk
      have hd64 : d < 64 := H64.out d (List.mem_of_getElem? hdd)
      have hl64 := litD_lt ⟨(k : Int), lw, ln⟩ hval
      have hop : opn D ⟨(k : Int), lw, ln⟩ = ((((d &&& litD ⟨(k : Int), lw, ln⟩) : Nat) : Int) != 0) := by
        unfold opn
        simp only [Int.toNat_natCast]
        rw [List.getD_eq_getElem?_getD, hdd, Bool.eq_iff_iff]
        simp only [Option.getD_some, bne_iff_ne, ne_eq]
        omega
      have hand := i64_and d (litD ⟨(k : Int), lw, ln⟩) (by omega) (by omega)
      have Hx := hid hx; have Hdd := hid hdd; have Hval := hid hval; have Hsn := hid hsn; have Hop := hid hop
      obtain ⟨b', o', e2, -, d0⟩ := (Hd.out.gr Hgw.out).at (i := k) (x := (d : Int)) (by rw [ints_get, Hdd.out]; rfl)
      subst e2
      have e0 : ∀ q : GrW [] wr, q.val.cell? ⟨b, o + n * 3, none⟩ = some (.int .i64 (k : Int)) := fun q => q.gr.cell k0 (by simp)
      have e1 : ∀ q : GrW [] wr, q.val.cell? ⟨b, o + n * 3 + 1, none⟩ = some (.int .i64 lw) := fun q => q.gr.cell k1 (by simp)
      have e2 : ∀ q : GrW [] wr, q.val.cell? ⟨b, o + n * 3 + 2, none⟩ = some (.bool ln) := fun q => q.gr.cell k2 (by simp)
      have eD : ∀ q : GrW [] wr, q.val.cell? ⟨b', o' + k, none⟩ = some (.int .i64 d) := fun q => q.gr.cell d0 (by simp)
      have htr : ∀ q : GrW [] wr, Calls Tryz.prog 100 #[.agg #[.int .i64 (k : Int), .int .i64 lw, .bool ln]] q.val fun e w'' => e = .returned (.int .i64 ((litD ⟨(k : Int), lw, ln⟩ : Nat) : Int)) ∧ ∃ m : GrW [] wr, w'' = m.val := fun q =>
        Calls.gr_of ((literalDomain_c ⟨(k : Int), lw, ln⟩ _ Hval.out).mono fun e w' h => h)
      have Htr := hid htr
      clear htr d0 k0 k1 k2 hx hdd hd64 hl64 hsn hop hval hv0 hv1 hg
      cases hq : ((((d &&& litD ⟨(k : Int), lw, ln⟩) : Nat) : Int) != 0)
      all_goals
        have Hq := hid hq
        go_wp2_with fail
        refine wp_region_gr [] _ (by kernel_rfl) (by kernel_rfl) (Gr.refl _ _) ?_
        repeat (go_big_quiet_step ((go_at_call 100; exact Htr.out _)))
        refine wpQuiet_nil ?_
        rintro w9 ⟨n9, rfl⟩
        have hg9 := n9.gr
        clear eD e0 e1 e2
      · have hF : opens D (c.take (n + 1)) = opens D (c.take n) := by rw [Hsn.out, Hop.out, Hq.out]; simp
        have HF := hid hF
        clear hF
        go_wp2_with fail
        refine ⟨⟨n + 1, by omega, by go_num, hid (by rw [HF.out]; exact HM.out.imp id fun ⟨j, l, h1, h2⟩ => ⟨j, l, by omega, h2⟩), Hg.out.trans hg9⟩, by simp [intOf]; omega⟩
      · have hF : opens D (c.take (n + 1)) = opens D (c.take n) ++ [⟨(k : Int), lw, ln⟩] := by rw [Hsn.out, Hop.out, Hq.out]; simp
        have HF := hid hF
        clear hF
        have hM := HM.out
        rcases hM with ⟨h0, rfl⟩ | ⟨j, l, hj, hjc, h1, rfl⟩
        · have H0 := hid h0
          clear h0
          go_wp2_with fail
          refine ⟨⟨n + 1, by omega, by go_num, hid (.inr ⟨n, ⟨(k : Int), lw, ln⟩, by omega, Hx.out, by rw [HF.out, H0.out]; rfl, rfl⟩), Hg.out.trans hg9⟩, by simp [intOf]; omega⟩
        · have H1 := hid h1
          clear h1 hjc
          have t1 : decide ((0 : Int) ≤ (j : Int)) = true := by simp
          go_wp2_with fail
          go_ret
          refine ⟨_, rfl, ?_, Hgw.out.trans hg9⟩
          rw [unitF_2 (by have := opens_le D c (n + 1); rw [HF.out, H1.out] at this; simpa using this)]
          exact HOwn.out.gr hg9 (by simp)
    · have hk : n = c.length := by omega
      subst hk
      rw [List.take_length] at *
      have hM := HM.out
      rcases hM with ⟨h0, rfl⟩ | ⟨j, l, hj, hjc, h1, rfl⟩
      · have H0 := hid h0
        clear h0
        go_wp2_with fail
        go_ret
        refine ⟨_, rfl, ?_, Hgw.out.alloc _⟩
        rw [unitF_0 H0.out]
        have : ints (zeros D.length) = List.replicate D.length (0 : Int) := by simp [ints, zeros]
        rw [this]
        exact (own_made (heap_alloc_new _ _) (by have := Hgw.out.size; omega) (by omega)).c
      · obtain ⟨⟨hv0, hv1⟩, hval⟩ := litOk_iff.1 (Hok.out l (List.mem_of_getElem? hjc))
        obtain ⟨b, o, rfl, -, k0, k1, k2⟩ := (Hc.out.gr Hgw.out).at hjc
        obtain ⟨lv, lw, ln⟩ := l
        dsimp only at hv0 hv1 hval k0 k1 k2
        obtain ⟨k, rfl⟩ := Int.eq_ofNat_of_zero_le hv0
        have hk : k < D.length := by omega
        obtain ⟨d, hdd⟩ := get_some hk
        have hd64 : d < 64 := H64.out d (List.mem_of_getElem? hdd)
        have hl64 := litD_lt ⟨(k : Int), lw, ln⟩ hval
        have hand := i64_and d (litD ⟨(k : Int), lw, ln⟩) (by omega) (by omega)
        have hset := HOwn.out.set k (((d &&& litD ⟨(k : Int), lw, ln⟩ : Nat)) : Int)
        have H1 := hid h1; have Hval := hid hval; have HSet := hid hset; have Hdd := hid hdd
        have hat := fun (W : World) (h : Gr [] wr W) => (HOwn.out.gr h (by simp)).at (i := k) (x := d) (by rw [ints_get, Hdd.out]; rfl)
        have Hat := hid hat
        obtain ⟨ca1, ca2⟩ := hat _ (Gr.refl [] wr).drew
        obtain ⟨cb1, cb2⟩ := hat _ (Gr.refl [] wr)
        have Hk := hid (fun (W : World) (h : Gr [] wr W) => (⟨h.cell k0 (by simp), h.cell k1 (by simp), h.cell k2 (by simp)⟩ : W.cell? ⟨b, o + j * 3, none⟩ = some (.int .i64 (k : Int)) ∧ W.cell? ⟨b, o + j * 3 + 1, none⟩ = some (.int .i64 lw) ∧ W.cell? ⟨b, o + j * 3 + 2, none⟩ = some (.bool ln)))
        obtain ⟨ka0, ka1, ka2⟩ := Hk.out _ (Gr.refl [] wr).drew
        have t1 : decide ((j : Int) < 0) = false := by simp
        have hjl : j < c.length := by omega
        clear hat h1 hjc hset hval hv0 hdd hd64 hl64 hg
        go_wp2_with fail
        go_region_law (first
          | (go_simp; go_at_call 100; refine (literalDomain_c ⟨(k : Int), lw, ln⟩ _ Hval.out).mono ?_; rintro e w5 ⟨rfl, hg5⟩; have hgx : Gr [] wr w5 := Gr.trans (by first | exact (Gr.refl [] wr).drew | exact Gr.refl [] wr) hg5; have HGX := hid hgx; obtain ⟨cc1, cc2⟩ := Hat.out _ hgx; obtain ⟨kb0, kb1, kb2⟩ := Hk.out _ hgx; clear hg5 hgx; (try dsimp only)))
        all_goals
          go_wp2_with fail
          go_ret
          refine ⟨_, rfl, ?_, (Hgw.out.trans HGX.out).setCell _ _ (.inr hgB.1)⟩
          rw [unitF_1 H1.out]
          simp only [Int.toNat_natCast]
          rw [andAt_set D Hdd.out, ints_set]
          exact (HOwn.out.gr HGX.out (by simp)).set k _
end Go.Proofs.YtlekngkcifgonaaGreat

set_option linter.unusedVariables false
set_option linter.unusedSimpArgs false
namespace Go.Proofs.YtlekngkcifgonaaGreat
open Go.RowKit

/-- Clauses that propagation can read. -/
structure KOk (cls : List Cls) (n : Nat) : Prop where
  lits : ∀ c ∈ cls, ∀ l ∈ c, litOk n l = true
  short : ∀ c ∈ cls, c.length ≤ 1000
  few : cls.length ≤ 1000

set_option maxRecDepth 100000 in
set_option maxHeartbeats 1000000 in
theorem clsStep_c (m : Mod) (cls : List Cls) (D : List Nat) (mdv mcv kv dv : Value) (bm bk : Nat) (w : World) (hv : ModV [] w (.agg #[mdv, mcv]) m) (hk : ClsV [] w kv cls)
    (hbm : w.heap[bm]? = some (.cells #[mdv, mcv] 26 (0, 0))) (hbk : w.heap[bk]? = some (.cells #[kv] 29 (0, 0)))
    (hx : Nums [] w .i64 dv (ints D)) (hc : VCs m.cons D.length) (hd : Below64 D) (hdl : 1 ≤ D.length ∧ D.length ≤ 4) (hok : KOk cls D.length) :
    Calls Tryz.prog 251 #[dv, .pointer (some ⟨bm, 0, none⟩), .pointer (some ⟨bk, 0, none⟩)] w fun e w' => ∃ v', e = .returned v' ∧ OwnC w.heap.size w' 3 v' (ints (stepC m.cons cls D)) ∧ Gr [] w w' := by
  obtain ⟨ko, kc, rfl, ⟨hk1, hk2⟩⟩ := hk.slice
  have hkl := hok.few
  have Hv := hid hv; have Hk := hid hk; have Hx := hid hx; have HC := hid hc; have HD := hid hd; have Hok := hid hok; have Hbk := hid hbk
  have hfl := fld hbm; have hfk := fld hbk
  have hFl := fix_len hc
  have hFb := fix_below hc hd
  have HFl := hid hFl; have HFb := hid hFb
  clear hv hk hx hc hd hok hbm hbk hFl hFb
  go_enter Tryz.func251, Tryz.ntmps251
  go_wp2_with fail
  have hcall := propagate_c m D _ _ _ Hv.out Hx.out HC.out HD.out hdl.2
  (with_reducible refine hcall.mono ?_)
  clear hcall
  rintro e w1 ⟨v1, rfl, ho1, hg1⟩
  have hfk1 := fld (hg1.obj Hbk.out (by simp))
  have Ho1 := hid ho1; have Hg1 := hid hg1
  clear ho1 hg1
  go_wp2_with fail
  go_loopw [0, 12] (fun v i wr => ∃ n : Nat, n ≤ cls.length ∧ i = .int .i64 n ∧ OwnC w.heap.size wr 3 v (ints (clsF (cls.take n) (fix m.cons D))) ∧ Gr [] w1 wr) (fun _ i _ => cls.length - (intOf i).toNat)
  case atStart => exact ⟨0, Nat.zero_le _, rfl, by simpa [clsF] using Ho1.out, Gr.refl _ _⟩
  case round =>
    obtain ⟨n, hn, rfl, hown, hg⟩ := hrel
    have Hown := hid hown; have Hgw := hid (Hg1.out.trans hg); have Hg := hid hg
    clear hown hg
    by_cases hlt : n < cls.length
    · obtain ⟨c, hx⟩ := get_some hlt
      obtain ⟨b, o, co, cc, rfl, -, k0, hcv⟩ := (Hk.out.gr Hgw.out).at hx
      have HX := hid hx; have Hcv := hid hcv
      have hcm := List.mem_of_getElem? hx
      have Hcm := hid hcm
      clear hx hcv hcm
      go_wp2_with fail
      have hcall := unit_c (clsF (cls.take n) (fix m.cons D)) c _ _ _ (Hown.out.nums' (by simp)) Hcv.out (by rw [clsF_len, HFl.out]; exact Hok.out.lits c Hcm.out) (by rw [clsF_len, HFl.out]; exact hdl) (clsF_below HFb.out) (Hok.out.short c Hcm.out)
      (with_reducible refine hcall.mono ?_)
      clear hcall
      rintro e w4 ⟨v4, rfl, hown4, hg4⟩
      rw [← clsF_snoc HX.out] at hown4
      have Hown4 := hid (hown4.le (B' := w.heap.size) Hgw.out.size); clear hown4
      go_wp2_with fail
      exact ⟨⟨n + 1, by omega, by go_num, Hown4.out, Hg.out.trans hg4⟩, by simp [intOf]; omega⟩
    · go_wp2_with fail
      go_ret
      have e1 : cls.take n = cls := List.take_of_length_le (by omega)
      exact ⟨_, rfl, by have := Hown.out; rwa [e1] at this, Hgw.out⟩

set_option maxRecDepth 100000 in
set_option maxHeartbeats 1000000 in
theorem fixpointK_c (m : Mod) (cls : List Cls) (d : List Nat) (mdv mcv kv dv : Value) (bm bk : Nat) (w : World) (hv : ModV [] w (.agg #[mdv, mcv]) m) (hk : ClsV [] w kv cls)
    (hbm : w.heap[bm]? = some (.cells #[mdv, mcv] 26 (0, 0))) (hbk : w.heap[bk]? = some (.cells #[kv] 29 (0, 0)))
    (hx : Nums [] w .i64 dv (ints d)) (hc : VCs m.cons d.length) (hd : Below64 d) (hdl : 1 ≤ d.length ∧ d.length ≤ 4) (hok : KOk cls d.length) :
    Calls Tryz.prog 175 #[dv, .func (.func 251) #[] #[.pointer (some ⟨bm, 0, none⟩), .pointer (some ⟨bk, 0, none⟩)]] w fun e w' => ∃ v', e = .returned v' ∧ OwnC w.heap.size w' 3 v' (ints (fixC m.cons cls d)) ∧ Gr [] w w' := by
  have Hv := hid hv; have HC := hid hc; have HD := hid hd; have Hx := hid hx; have Hdl := hid hdl; have Hk := hid hk; have Hbm := hid hbm; have Hbk := hid hbk; have Hok := hid hok
  clear hc hd hx hdl hv hk hbm hbk hok
  go_enter Tryz.func175, Tryz.ntmps175
  go_wp2_with fail
  have hcall := copied_c _ (ints d) _ Hx.out (by rw [ints_len]; have := Hdl.out; omega)
  (with_reducible refine hcall.mono ?_)
  clear hcall
  rintro e w1 ⟨v1, rfl, hown1, hg1⟩
  have Hown1 := hid hown1; clear hown1
  go_wp2_with fail
  go_loopg [5] (d.sum + 1) (fun k v wr => ∃ D : List Nat, D.sum < k ∧ OwnC w.heap.size wr 3 v (ints D) ∧ D.length = d.length ∧ Below64 D ∧ fixC m.cons cls D = fixC m.cons cls d ∧ Gr [] w wr)
  case atStart => exact ⟨d, by omega, Hown1.out, rfl, HD.out, rfl, hg1⟩
  case round =>
    obtain ⟨D, hk, hown, hDl, hDb, hfix, hg⟩ := hrel
    have HCD : Hid (VCs m.cons D.length) := hid (by rw [hDl]; exact HC.out)
    have HOk : Hid (KOk cls D.length) := hid (by rw [hDl]; exact Hok.out)
    have Hn := hid (hown.nums' (S := []) (by simp))
    have hil := ints_len D
    obtain ⟨vo, vcap, rfl, ⟨hv1, hv2, _⟩, _⟩ := hown.nums' (S := []) (by simp)
    rw [hil, hDl] at hv1 Hn hown ⊢
    have Hown := hid hown; have HDl := hid hDl; have HDb := hid hDb; have Hfix := hid hfix; have Hg := hid hg
    have hdl4 := Hdl.out.2
    clear hown hDl hDb hfix hg hil
    have hmk := fun w => run_make_row' (P := Tryz.prog) 23 3 (.int .i64 0) 8 Tryz.underlying23 infoI rfl .i64 .i64 d.length (by omega) (by omega) w
    go_wp2_with fail
    have hcall := containsInt_c (ints D) 0 _ _ Hn.out
    (with_reducible refine hcall.mono ?_)
    clear hcall
    rw [memB_ints]
    rintro e w2 ⟨rfl, hg2⟩
    have Hg2 := hid hg2; clear hg2
    by_cases h0 : 0 ∈ D
    · have h0' : decide (0 ∈ D) = true := by simpa using h0
      have H0 := hid h0; clear h0
      rw [h0']
      clear h0'
      go_wp2_with fail
      go_ret
      refine ⟨_, rfl, ?_, ((Hg.out.trans Hg2.out).alloc _)⟩
      rw [← Hfix.out, fixC_zero HCD.out H0.out, HDl.out]
      have : ints (zeros d.length) = List.replicate d.length (0 : Int) := by simp [ints, zeros]
      rw [this]
      exact (own_made (heap_alloc_new _ _) (by have := (Hg.out.trans Hg2.out).size; omega) (by omega)).c
    · have h0' : decide (0 ∈ D) = false := by simpa using h0
      have H0 := hid h0; clear h0
      rw [h0']
      clear h0'
      have HG2 := hid (Hg.out.trans Hg2.out)
      go_wp2_with fail
      have hcall := clsStep_c m cls D mdv mcv kv _ bm bk w2 (Hv.out.gr HG2.out) (Hk.out.gr HG2.out) (HG2.out.obj Hbm.out (by simp)) (HG2.out.obj Hbk.out (by simp)) (Hn.out.gr Hg2.out) HCD.out HDb.out (by rw [HDl.out]; exact Hdl.out) HOk.out
      (with_reducible refine hcall.mono ?_)
      clear hcall
      rintro e w3 ⟨v3, rfl, hown3, hg3⟩
      have Hn3 := hid (hown3.nums' (S := []) (by simp))
      have Hown3 := hid (hown3.le (B' := w.heap.size) HG2.out.size); have Hg3 := hid hg3; clear hown3 hg3
      go_wp2_with fail
      have hcall := sliceEqual_c _ _ _ _ w3 Hn3.out (Hn.out.gr (Hg2.out.trans Hg3.out))
      (with_reducible refine hcall.mono ?_)
      clear hcall
      rw [decide_ints]
      rintro e w4 ⟨rfl, hg4⟩
      have Hg4 := hid hg4; clear hg4
      have Hg24 := hid ((Hg2.out.trans Hg3.out).trans Hg4.out)
      by_cases hs : stepC m.cons cls D = D
      · have hs' : decide (stepC m.cons cls D = D) = true := by simpa using hs
        have HS := hid hs; clear hs
        rw [hs']
        clear hs'
        go_wp2_with fail
        go_ret
        refine ⟨_, rfl, ?_, Hg.out.trans Hg24.out⟩
        rw [← Hfix.out, fixC_done HCD.out H0.out HS.out]
        exact Hown.out.gr Hg24.out (by simp)
      · have hs' : decide (stepC m.cons cls D = D) = false := by simpa using hs
        have HS := hid hs; clear hs
        rw [hs']
        clear hs'
        have hlt := stepC_lt HCD.out HS.out
        go_wp2_with fail
        go_roundg (D.sum)
        case measure => omega
        case rel => exact ⟨stepC m.cons cls D, hlt, Hown3.out.gr Hg4.out (by simp), by rw [stepC_len HCD.out, HDl.out], stepC_below HCD.out HDb.out, by rw [← fixC_more HCD.out H0.out HS.out]; exact Hfix.out, Hg.out.trans Hg24.out⟩

set_option maxRecDepth 100000 in
theorem withClauses_c (m : Mod) (cls : List Cls) (d : List Nat) (mv kv dv : Value) (w : World) (hv : ModV [] w mv m) (hk : ClsV [] w kv cls) (hx : Nums [] w .i64 dv (ints d)) (hc : VCs m.cons d.length) (hd : Below64 d) (hdl : 1 ≤ d.length ∧ d.length ≤ 4) (hok : KOk cls d.length) :
    Calls Tryz.prog 216 #[mv, kv, dv] w fun e w' => ∃ v', e = .returned v' ∧ OwnC w.heap.size w' 3 v' (ints (fixC m.cons cls d)) ∧ Gr [] w w' := by
  have Hv := hid hv; have HC := hid hc; have HD := hid hd; have Hx := hid hx; have Hdl := hid hdl; have Hk := hid hk; have Hok := hid hok
  obtain ⟨mdv, cv, rfl, _, hcv⟩ := hv
  obtain ⟨ko, kc, rfl, ⟨hk1, hk2⟩⟩ := hk.slice
  have hg0 : Gr [] w (w.alloc (.cells #[mdv, cv] 26)) := (Gr.refl _ _).alloc _
  have hb0 : (w.alloc (.cells #[mdv, cv] 26)).heap[w.heap.size]? = some (.cells #[mdv, cv] 26 (0, 0)) := heap_alloc_new _ _
  have Hg0 := hid hg0; have Hb0 := hid hb0
  clear hcv hc hd hx hdl hb0 hg0 hk hok
  go_enter Tryz.func216, Tryz.ntmps216
  go_wp2_with fail
  have HG1 : Hid (Gr [] w ((w.alloc (.cells #[mdv, cv] 26)).alloc (.cells #[.slice ko cls.length kc] 29))) := hid (Hg0.out.alloc _)
  have hcall := fixpointK_c m cls d mdv cv (.slice ko cls.length kc) _ w.heap.size (w.heap.size + 1) _ (Hv.out.gr HG1.out) (Hk.out.gr HG1.out) (((Gr.refl [] _).alloc _).obj Hb0.out (by simp)) (by have := heap_alloc_new (w.alloc (.cells #[mdv, cv] 26)) (.cells #[.slice ko cls.length kc] 29); simpa using this) (Hx.out.gr HG1.out) HC.out HD.out Hdl.out Hok.out
  (with_reducible refine hcall.mono ?_)
  clear hcall
  rintro e w1 ⟨v1, rfl, hown1, hg1⟩
  go_wp2_with fail
  go_ret
  exact ⟨_, rfl, hown1.le HG1.out.size, HG1.out.trans hg1⟩
end Go.Proofs.YtlekngkcifgonaaGreat

set_option linter.unusedVariables false
set_option linter.unusedSimpArgs false
namespace Go.Proofs.YtlekngkcifgonaaGreat
open Go.RowKit

def restL (D : List Nat) (c : Cls) : List Nat := c.foldl (fun D l => andAt D l.var.toNat (litD l)) D
theorem restL_len (c : Cls) : ∀ D : List Nat, (restL D c).length = D.length := by
  induction c with
  | nil => intro D; rfl
  | cons l c ih => intro D; show (restL (andAt D _ _) c).length = _; rw [ih, andAt_len]
theorem restL_below (c : Cls) : ∀ {D : List Nat}, Below64 D → Below64 (restL D c) := by
  induction c with
  | nil => intro D h; exact h
  | cons l c ih => intro D h; exact ih (andAt_below h _ _)
theorem restL_snoc {c : Cls} {n : Nat} {l : Lit} (D : List Nat) (h : c[n]? = some l) : restL D (c.take (n + 1)) = andAt (restL D (c.take n)) l.var.toNat (litD l) := by
  unfold restL
  rw [List.take_add_one, h, List.foldl_append]
  rfl
set_option maxRecDepth 100000 in
set_option maxHeartbeats 4000000 in
theorem restricted_c (D : List Nat) (c : Cls) (dv cv : Value) (w : World) (hd : Nums [] w .i64 dv (ints D)) (hc : LitsV [] w cv c) (hok : ∀ l ∈ c, litOk D.length l = true) (hl : 1 ≤ D.length ∧ D.length ≤ 4) (hb : Below64 D) (hcl : c.length ≤ 1000) :
    Calls Tryz.prog 93 #[dv, cv] w fun e w' => ∃ v', e = .returned v' ∧ OwnC w.heap.size w' 3 v' (ints (restL D c)) ∧ Gr [] w w' := by
  have Hd := hid hd; have Hc := hid hc; have Hok := hid hok; have H64 := hid hb
  obtain ⟨co, cc, rfl, ⟨hc1, hc2⟩⟩ := hc.slice
  clear hd hc hok hb
  go_enter Tryz.func93, Tryz.ntmps93
  go_wp2_with fail
  have hcall := copied_c dv (ints D) _ Hd.out (by rw [ints_len]; omega)
  (with_reducible refine hcall.mono ?_)
  clear hcall
  rintro e w1 ⟨v1, rfl, ho1, hg1⟩
  obtain ⟨g, cap, rfl⟩ := ho1.open (by rw [ints_len]; omega)
  rw [ints_len] at ho1
  rw [ints_len]
  have hgB := ho1.block
  have Ho1 := hid ho1; have Hg1 := hid hg1
  clear ho1 hg1
  go_wp2_with fail
  go_loopw [12] (fun i wr => ∃ n : Nat, n ≤ c.length ∧ i = .int .i64 n ∧ OwnC w.heap.size wr 3 (.slice (some ⟨g, 0, none⟩) D.length cap) (ints (restL D (c.take n))) ∧ Gr [g] w1 wr) (fun i _ => c.length - (intOf i).toNat)
  case atStart => exact ⟨0, Nat.zero_le _, rfl, by simpa [restL] using Ho1.out, Gr.refl _ _⟩
  case round =>
    obtain ⟨n, hn, rfl, hown, hg⟩ := hrel
    have Hown := hid hown; have Hg := hid hg
    have Hgw : Hid (Gr [] w wr) := hid (Hg1.out.step hg (fun i hi => .inr (by simp at hi; omega)))
    clear hown hg
    by_cases hlt : n < c.length
    · obtain ⟨l, hx⟩ := get_some hlt
      have hlo := litOk_iff.1 (Hok.out l (List.mem_of_getElem? hx))
      obtain ⟨k, hk⟩ : ∃ k : Nat, l.var = (k : Int) := Int.eq_ofNat_of_zero_le hlo.1.1
      obtain ⟨b, o, e1, -, k0, k1, k2⟩ := (Hc.out.gr Hgw.out).at hx
      subst e1
      have hkD : k < D.length := by omega
      obtain ⟨d, hdd⟩ := get_some (xs := restL D (c.take n)) (k := k) (by rw [restL_len]; exact hkD)
      have hd64 : d < 64 := restL_below _ H64.out d (List.mem_of_getElem? hdd)
      have hl64 := litD_lt l hlo.2
      have hset := Hown.out.set k (((d &&& litD l : Nat)) : Int)
      have hsn := restL_snoc D hx
      rw [hk] at hsn k0
      rw [Int.toNat_natCast] at hsn
      have hsn' : restL D (c.take (n + 1)) = (restL D (c.take n)).set k (d &&& litD l) := by rw [hsn]; unfold andAt; rw [List.getD_eq_getElem?_getD, hdd]; rfl
      have hand := i64_and d (litD l) (by omega) (by omega)
      have hga : Gr [] wr (wr.alloc (.cells #[.int .i64 (k : Int), .int .i64 l.val, .bool l.neg] 45)) := (Gr.refl _ _).alloc _
      have hbx := heap_alloc_new wr (.cells #[.int .i64 (k : Int), .int .i64 l.val, .bool l.neg] 45)
      have Hga := hid hga; have Hbx := hid hbx; have HA := hid hdd
      have fbx := fld hbx
      have hval := hlo.2
      have HV := hid hval; have HSet := hid hset; have HSN := hid hsn'
      clear hx hlo hdd hd64 hl64 hset hsn hsn' hga hbx hval
      go_wp2_with fail
      generalize hWa : wr.alloc (.cells #[.int .i64 (k : Int), .int .i64 l.val, .bool l.neg] 45) = wa at *
      clear hWa
      have HOa := hid (Hown.out.gr Hga.out (by simp))
      have hat := fun (W : World) (h : Gr [] wa W) => (HOa.out.gr h (by simp)).at (i := k) (x := d) (by rw [ints_get, HA.out]; rfl)
      have Hat := hid hat
      obtain ⟨ca1, ca2⟩ := hat _ (Gr.refl [] wa).drew
      obtain ⟨cb1, cb2⟩ := hat _ (Gr.refl [] wa)
      clear hat
      go_region_law (first
        | (go_simp; go_at_call 177; rw [← hk]; refine (trues_c l _ HV.out).mono ?_; rintro e w5 ⟨rfl, hg5⟩; have hgx : Gr [] wa w5 := Gr.trans (by first | exact (Gr.refl [] wa).drew | exact Gr.refl [] wa) hg5; have HGX := hid hgx; have fb5 := fld (hgx.obj Hbx.out (by simp)); obtain ⟨cc1, cc2⟩ := Hat.out _ hgx; clear hg5 hgx; (try dsimp only)))
      all_goals
        go_wp2_with fail
        refine ⟨⟨n + 1, by omega, by go_num, ?_, ?_⟩, by simp [intOf]; omega⟩
        · rw [HSN.out, ints_set]
          exact (HOa.out.gr HGX.out (by simp)).set k ((d &&& litD l : Nat) : Int)
        · exact (Hg.out.trans (Gr.any (Hga.out.trans HGX.out))).setCell _ _ (.inl (by simp))
    · have e1 : n = c.length := by omega
      subst e1
      rw [List.take_length] at Hown
      go_wp2_with fail
      go_ret
      exact ⟨_, rfl, Hown.out, Hgw.out⟩

end Go.Proofs.YtlekngkcifgonaaGreat

set_option linter.unusedVariables false
set_option linter.unusedSimpArgs false
namespace Go.Proofs.YtlekngkcifgonaaGreat
open Go.RowKit

/-- A list of clauses that may be a proof. -/
def clsB (n : Int) (cls : List Cls) : Bool := decide (cls.length ≤ 200) && cls.all fun c => validCl c n
theorem clsB_ok {n : Nat} {cls : List Cls} (h : clsB n cls = true) : KOk cls n := by
  unfold clsB at h
  rw [Bool.and_eq_true, decide_eq_true_eq, List.all_eq_true] at h
  refine ⟨fun c hc => ?_, fun c hc => ?_, by omega⟩
  · have := h.2 c hc
    unfold validCl at this
    rw [Bool.and_eq_true] at this
    exact (validClS_iff.1 this.2).1
  · have := h.2 c hc
    unfold validCl at this
    rw [Bool.and_eq_true] at this
    have := (validClS_iff.1 this.2).2.2
    omega
theorem litOk_negL {n : Int} {l : Lit} : litOk n (negL l) = litOk n l := rfl
theorem negs_ok {n : Int} {c : Cls} (h : ∀ l ∈ c, litOk n l = true) : ∀ l ∈ negsL c, litOk n l = true := fun l hl => by
  have := h _ (mem_negsL.1 hl)
  rwa [litOk_negL] at this
/-- slices.IndexFunc over clauses. -/
theorem idxK_c (cs : List Cls) (p : Cls → Bool) (v : Value) (k : Nat) (C : Array Value) (w : World) (hv : ClsV [] w v cs)
    (hk : ∀ args w, (callFunc k args).run Tryz.prog w = .ok (.enter k args) w)
    (hf : ∀ c cv w1, c ∈ cs → Gr [] w w1 → LitsV [] w1 cv c → Calls Tryz.prog k (#[cv] ++ C) w1 fun e w2 => e = .returned (.bool (p c)) ∧ Gr [] w1 w2) :
    Calls Tryz.prog 250 #[v, .func (.func k) #[] C] w fun e w' => (∃ i : Int, e = .returned (.int .i64 i) ∧ (0 ≤ i ↔ anyG p cs = true)) ∧ Gr [] w w' := by
  obtain ⟨ao, cap, rfl, ⟨hlc, hcm, _⟩, hc⟩ := hv
  have hlen : cs.length ≤ 9223372036854775807 := by omega
  have Hf := hid hf; clear hf
  have Hc : Hid (ClsV [] w (.slice ao cs.length cap) cs) := hid ⟨_, _, rfl, ⟨hlc, hcm, by assumption⟩, hc⟩; clear hc
  go_enter Tryz.func250, Tryz.ntmps250
  go_wp2_with fail
  go_loopw [8] (fun i wr => ∃ n : Nat, n ≤ cs.length ∧ i = .int .i64 n ∧ (∀ (j : Nat) x, j < n → cs[j]? = some x → p x = false) ∧ Gr [] w wr) (fun i _ => cs.length - (intOf i).toNat)
  case atStart => exact ⟨0, Nat.zero_le _, rfl, by intro j x hj; omega, Gr.refl _ _⟩
  case round =>
    obtain ⟨n, hn, rfl, hp, hg⟩ := hrel
    have HP := hid hp; clear hp
    by_cases hlt : n < cs.length
    · obtain ⟨c, hx⟩ := get_some hlt
      obtain ⟨b, o, vo, vc, rfl, hs, h0, hlv⟩ := (Hc.out.gr hg).at hx
      have HX := hid hx; clear hx
      have Hlv := hid hlv; clear hlv
      go_wp2_with fail
      refine (Hf.out c _ _ (List.mem_of_getElem? HX.out) hg Hlv.out).mono ?_
      rintro e w2 ⟨rfl, hg2⟩
      cases hb : p c
      all_goals go_wp2_with fail
      · exact ⟨⟨n + 1, by omega, by go_num, below_snoc HP.out HX.out hb, hg.trans hg2⟩, by simp [intOf]; omega⟩
      · go_ret
        exact ⟨⟨n, rfl, ⟨fun _ => anyG_true HX.out hb, fun _ => by omega⟩⟩, hg.trans hg2⟩
    · go_wp2_with fail
      go_ret
      refine ⟨⟨-1, rfl, ⟨fun h => by omega, fun h => ?_⟩⟩, hg⟩
      rw [anyG_false (fun j x hj => HP.out j x (by omega))] at h; cases h
theorem containsK_c (cs : List Cls) (p : Cls → Bool) (v : Value) (k : Nat) (C : Array Value) (w : World) (hv : ClsV [] w v cs)
    (hk : ∀ args w, (callFunc k args).run Tryz.prog w = .ok (.enter k args) w)
    (hf : ∀ c cv w1, c ∈ cs → Gr [] w w1 → LitsV [] w1 cv c → Calls Tryz.prog k (#[cv] ++ C) w1 fun e w2 => e = .returned (.bool (p c)) ∧ Gr [] w1 w2) :
    Calls Tryz.prog 214 #[v, .func (.func k) #[] C] w fun e w' => e = .returned (.bool (anyG p cs)) ∧ Gr [] w w' := by
  have Hf := hid hf; clear hf
  have Hk := hid hk; clear hk
  go_enter Tryz.func214, Tryz.ntmps214
  go_wp2_with fail
  refine (idxK_c cs p v k C _ hv Hk.out Hf.out).mono ?_
  rintro e w' ⟨⟨i, rfl, hi⟩, hg⟩
  have Hi := hid hi; clear hi
  go_wp2_with fail
  go_ret
  exact ⟨ret_bool (by rw [Bool.eq_iff_iff, ← Hi.out]; simp), hg⟩
theorem proofOkLit_c (c : Cls) (n : Int) (cv : Value) (b : Nat) (w : World) (hc : LitsV [] w cv c) (hl : c.length ≤ 2000000) (hn : I64 n) (hb : w.heap[b]? = some (.cells #[.int .i64 n] 3 (0, 0))) :
    Calls Tryz.prog 215 #[cv, .pointer (some ⟨b, 0, none⟩)] w fun e w' => e = .returned (.bool (!validCl c n)) ∧ Gr [] w w' := by
  have Hc := hid hc; have Hn := hid hn
  have fb := fld hb
  clear hc hb hn
  go_enter Tryz.func215, Tryz.ntmps215
  go_wp2_with fail
  have hcall := ValidClause_c c n _ _ Hc.out hl Hn.out
  (with_reducible refine hcall.mono ?_)
  clear hcall
  rintro e w1 ⟨rfl, hg1⟩
  go_wp2_with fail
  go_ret
  exact ⟨rfl, hg1⟩
theorem proofOk_c (cls : List Cls) (n : Int) (kv : Value) (w : World) (hk : ClsV [] w kv cls) (hl : ∀ c ∈ cls, c.length ≤ 2000000) (hn : I64 n) :
    Calls Tryz.prog 141 #[.int .i64 n, kv] w fun e w' => e = .returned (.bool (clsB n cls)) ∧ Gr [] w w' := by
  have Hk := hid hk; have Hl := hid hl; have Hn := hid hn
  obtain ⟨ko, kc, rfl, ⟨hk1, hk2⟩⟩ := hk.slice
  have hg0 : Gr [] w (w.alloc (.cells #[.int .i64 n] 3)) := (Gr.refl _ _).alloc _
  have Hb0 := hid (heap_alloc_new w (.cells #[.int .i64 n] 3))
  have Hg0 := hid hg0
  clear hk hl hn hg0
  by_cases h2 : cls.length ≤ 200
  · have t2 : decide ((cls.length : Int) ≤ 200) = true := by simp; omega
    go_enter Tryz.func141, Tryz.ntmps141
    go_wp2_with fail
    have hcall := containsK_c cls (fun c => !validCl c n) _ 215 #[.pointer (some ⟨w.heap.size, 0, none⟩)] _ (Hk.out.gr Hg0.out) (fun _ _ => by kernel_rfl) (fun c cv w1 hm hg1 hcv => proofOkLit_c c n cv _ w1 hcv (Hl.out c hm) Hn.out (hg1.obj Hb0.out (by simp)))
    (with_reducible refine hcall.mono ?_)
    clear hcall
    rintro e w3 ⟨rfl, hg3⟩
    go_wp2_with fail
    go_ret
    exact ⟨ret_bool (by unfold clsB anyG; rw [decide_eq_true h2, List.all_eq_not_any_not]; simp), Hg0.out.trans hg3⟩
  · have t2 : decide ((cls.length : Int) ≤ 200) = false := by simp; omega
    go_enter Tryz.func141, Tryz.ntmps141
    go_wp2_with fail
    go_ret
    exact ⟨ret_bool (by unfold clsB; rw [decide_eq_false h2]; rfl), Hg0.out⟩

set_option maxRecDepth 100000 in
set_option maxHeartbeats 4000000 in
theorem implied_c (m : Mod) (D : List Nat) (cls : List Cls) (c : Cls) (mv kv cv : Value) (w : World) (hv : ModV [] w mv m) (hD : VM m D) (hk : ClsV [] w kv cls) (hok : KOk cls D.length) (hc : LitsV [] w cv c) (hcv : validClS c D.length = true) :
    Calls Tryz.prog 142 #[mv, kv, cv] w fun e w' => e = .returned (.bool (refB m.cons cls (restL D (negsL c)))) ∧ Gr [] w w' := by
  obtain ⟨hc1, hc2, hc3⟩ := validClS_iff.1 hcv
  have Hv := hid hv; have HD := hid hD; have Hk := hid hk; have Hok := hid hok; have Hc := hid hc
  obtain ⟨mdv, mcv, rfl, hdv, _⟩ := hv
  obtain ⟨ko, kc, rfl, ⟨hk1, hk2⟩⟩ := hk.slice
  have hg0 : Gr [] w (w.alloc (.cells #[mdv, mcv] 26)) := (Gr.refl _ _).alloc _
  have hb0 := heap_alloc_new w (.cells #[mdv, mcv] 26)
  have Hdv := hid ((hdv.gr hg0)); have Hg0 := hid hg0
  have Hmv := hid (Hv.out.gr hg0); have Hkv := hid (hk.gr hg0); have Hcv := hid (hc.gr hg0)
  have Hnd := hid (asc_nodup hc2); have Hno := hid (negs_ok hc1)
  have hlen := negsL_len c
  have hdl := hD.len
  have hd0 : 0 < D.length := hdl.1
  have HrL := hid (restL_len (negsL c) D); have HrB := hid (restL_below (negsL c) hD.below)
  have Hb0 := hid hb0
  have hdm := hD.doms
  have hVr : VCs m.cons (restL D (negsL c)).length := by rw [restL_len]; exact hD.cons
  have hFl : (fixC m.cons cls (restL D (negsL c))).length = D.length := by rw [fixC_len hVr, restL_len]
  obtain ⟨x, hx⟩ := get_some (xs := fixC m.cons cls (restL D (negsL c))) (k := 0) (by rw [hFl]; omega)
  have HX := hid hx; have HFl := hid hFl
  have hrb : refB m.cons cls (restL D (negsL c)) = ((x : Int) == 0) := by
    unfold refB
    rw [List.getD_eq_getElem?_getD, hx, Bool.eq_iff_iff]
    simp
  rw [hrb]
  clear hVr hFl hx hrb
  have Hdm := hid hdm
  clear hk hok hc hb0 hg0 hdv hD hc1 hc2 hcv hdm
  go_enter Tryz.func142, Tryz.ntmps142
  go_wp2_with fail
  generalize hW : w.alloc (.cells #[mdv, mcv] 26) = w0 at *
  clear hW
  have f0 := fld Hb0.out
  have f0d := fld ((Gr.refl [] w0).drew.obj Hb0.out (by simp))
  go_region_law (first
    | (go_simp; go_at_call 217; refine (negations_c c _ _ (Hcv.out.gr (by first | exact (Gr.refl [] w0).drew | exact Gr.refl [] w0)) (by omega) Hnd.out).mono ?_; rintro e w5 ⟨v5, rfl, hn5, hg5⟩; have hgx : Gr [] w0 w5 := Gr.trans (by first | exact (Gr.refl [] w0).drew | exact Gr.refl [] w0) hg5; have HGX := hid hgx; have HN5 := hid hn5; have fb5 := fld (hgx.obj Hb0.out (by simp)); clear hg5 hgx hn5; (try dsimp only))
    | (go_simp; go_at_call 93; refine (restricted_c D (negsL c) _ _ _ (by rw [← Hdm.out]; exact Hdv.out.gr HGX.out) (HN5.out.lits (by simp)) Hno.out hdl HD.out.below (by omega)).mono ?_; rintro e w6 ⟨v6, rfl, ho6, hg6⟩; have HO6 := hid ho6; have HG6 := hid hg6; have fb6 := fld ((HGX.out.trans hg6).obj Hb0.out (by simp)); clear ho6 hg6; (try dsimp only))
    | (go_simp; go_at_call 216; refine (withClauses_c m cls (restL D (negsL c)) _ _ _ _ (Hmv.out.gr (HGX.out.trans HG6.out)) (Hkv.out.gr (HGX.out.trans HG6.out)) (HO6.out.nums' (by simp)) (by rw [HrL.out]; exact HD.out.cons) HrB.out (by rw [HrL.out]; exact hdl) (by rw [HrL.out]; exact Hok.out)).mono ?_; rintro e w7 ⟨v7, rfl, ho7, hg7⟩; obtain ⟨g7, c7, rfl⟩ := ho7.open (by rw [ints_len, HFl.out]; omega); obtain ⟨d1, d2⟩ := ho7.at (i := 0) (x := (x : Int)) (by rw [ints_get, HX.out]; rfl); rw [ints_len, HFl.out]; have HG7 := hid hg7; clear ho7 hg7 d2; (try dsimp only)))
  all_goals
    go_wp2_with fail
    go_ret
    exact ⟨rfl, Hg0.out.trans ((HGX.out.trans HG6.out).trans HG7.out)⟩

end Go.Proofs.YtlekngkcifgonaaGreat

set_option linter.unusedVariables false
set_option linter.unusedSimpArgs false
namespace Go.Proofs.YtlekngkcifgonaaGreat
open Go.RowKit

theorem restL_bit (c : Cls) : ∀ (D : List Nat) (k b : Nat), ((restL D c).getD k 0).testBit b = ((D.getD k 0).testBit b && c.all fun l => l.var.toNat != k || (litD l).testBit b) := by
  induction c with
  | nil => intro D k b; simp [restL]
  | cons l r ih =>
    intro D k b
    show ((restL (andAt D _ _) r).getD k 0).testBit b = _
    rw [ih, andAt_get, List.all_cons]
    by_cases h : k = l.var.toNat
    · subst h
      simp [Nat.testBit_and, Bool.and_assoc]
    · have : (l.var.toNat != k) = true := by rw [bne_iff_ne]; exact fun e => h e.symm
      rw [if_neg h, this]
      simp
theorem restL_ext {c d : Cls} (h : ∀ l, l ∈ c ↔ l ∈ d) (D : List Nat) : restL D c = restL D d := by
  refine List.ext_getElem? fun k => ?_
  by_cases hk : k < D.length
  · have e : (restL D c).getD k 0 = (restL D d).getD k 0 := by
      refine Nat.eq_of_testBit_eq fun b => ?_
      rw [restL_bit, restL_bit]
      congr 1
      rw [Bool.eq_iff_iff, List.all_eq_true, List.all_eq_true]
      exact ⟨fun hh l hl => hh l ((h l).2 hl), fun hh l hl => hh l ((h l).1 hl)⟩
    rw [List.getD_eq_getElem?_getD, List.getD_eq_getElem?_getD] at e
    have h1 : k < (restL D c).length := by rw [restL_len]; exact hk
    have h2 : k < (restL D d).length := by rw [restL_len]; exact hk
    rw [List.getElem?_eq_getElem h1, List.getElem?_eq_getElem h2] at e ⊢
    simpa using e
  · rw [List.getElem?_eq_none (by rw [restL_len]; omega), List.getElem?_eq_none (by rw [restL_len]; omega)]
theorem restL_negs (c : Cls) (D : List Nat) : restL D (c.map negL) = restL D (negsL c) := restL_ext (fun l => by unfold negsL; rw [mem_sortL]) D
theorem litD_neg (l : Lit) (h : 0 ≤ l.val ∧ l.val ≤ 5) : litD (negL l) = 63 - litD l := by
  obtain ⟨a, b, c⟩ := l
  have : b = 0 ∨ b = 1 ∨ b = 2 ∨ b = 3 ∨ b = 4 ∨ b = 5 := by simp at h; omega
  rcases this with rfl | rfl | rfl | rfl | rfl | rfl <;> cases c <;> rfl

set_option maxRecDepth 100000 in
set_option maxHeartbeats 4000000 in
theorem assume_c (D : List Nat) (c : Cls) (dv cv : Value) (w : World) (hd : Nums [] w .i64 dv (ints D)) (hc : LitsV [] w cv c) (hok : ∀ l ∈ c, litOk D.length l = true) (hl : 1 ≤ D.length ∧ D.length ≤ 4) (hb : Below64 D) (hcl : c.length ≤ 1000) :
    Calls Tryz.prog 219 #[dv, cv] w fun e w' => ∃ v', e = .returned v' ∧ OwnC w.heap.size w' 3 v' (ints (restL D (negsL c))) ∧ Gr [] w w' := by
  have Hd := hid hd; have Hc := hid hc; have Hok := hid hok; have H64 := hid hb
  obtain ⟨co, cc, rfl, ⟨hc1, hc2⟩⟩ := hc.slice
  obtain ⟨xo, xc, e1, ⟨hx1, hx2, -⟩, -⟩ := id hd
  rw [ints_len] at e1 hx1
  subst e1
  clear hd hc hok hb
  go_enter Tryz.func219, Tryz.ntmps219
  go_wp2_with fail
  have hcall := copyInts_c _ (ints D) _ Hd.out (by rw [ints_len]; omega)
  (with_reducible refine hcall.mono ?_)
  clear hcall
  rintro e w1 ⟨v1, rfl, ho1', hg1⟩
  have ho1 := ho1'.c
  obtain ⟨g, cap, rfl⟩ := ho1.open (by rw [ints_len]; omega)
  rw [ints_len] at ho1
  rw [ints_len]
  have hgB := ho1.block
  have Ho1 := hid ho1; have Hg1 := hid hg1
  clear ho1 hg1 ho1'
  go_wp2_with fail
  go_loopw [6] (fun i wr => ∃ (n : Nat), n ≤ c.length ∧ i = .int .i64 n ∧ OwnC w.heap.size wr 3 (.slice (some ⟨g, 0, none⟩) D.length cap) (ints (restL D ((c.map negL).take n))) ∧ Gr [g] w1 wr) (fun i _ => c.length - (intOf i).toNat)
  case atStart => exact ⟨0, Nat.zero_le _, rfl, by simpa [restL] using Ho1.out, Gr.refl _ _⟩
  case round =>
    obtain ⟨n, hn, rfl, hown, hg⟩ := hrel
    have Hg := hid hg
    have Hgw : Hid (Gr [] w wr) := hid (Hg1.out.step hg (fun i hi => .inr (by simp at hi; omega)))
    have HOwn := hid hown
    clear hown
    by_cases hlt : n < c.length
    · obtain ⟨l, hx⟩ := get_some hlt
      obtain ⟨⟨hv0, hv1⟩, hval⟩ := litOk_iff.1 (Hok.out l (List.mem_of_getElem? hx))
      have hln := litD_neg l hval
      have hsn := restL_snoc (c := c.map negL) (n := n) (l := negL l) D (by rw [List.getElem?_map, hx]; rfl)
      rw [hln] at hsn
      obtain ⟨b, o, rfl, -, k0, k1, k2⟩ := (Hc.out.gr Hgw.out).at hx
      obtain ⟨lv, lw, ln⟩ := l
      dsimp only at hv0 hv1 hval k0 k1 k2
      obtain ⟨k, rfl⟩ := Int.eq_ofNat_of_zero_le hv0
      have hk : k < D.length := by omega
      obtain ⟨d, hdd⟩ := get_some (xs := restL D ((c.map negL).take n)) (k := k) (by rw [restL_len]; exact hk)
      have hd64 : d < 64 := restL_below _ H64.out d (List.mem_of_getElem? hdd)
      have hl64 := litD_lt ⟨(k : Int), lw, ln⟩ hval
      generalize hA : litD ⟨(k : Int), lw, ln⟩ = a at *
      have hwr : IntKind.i64.wrap (63 - (a : Int)) = ((63 - a : Nat) : Int) := by rw [IntKind.wrap_i64]; omega
      have hand := i64_and d (63 - a) (by omega) (by omega)
      have hset := HOwn.out.set k (((d &&& (63 - a) : Nat)) : Int)
      have hsn' : restL D ((c.map negL).take (n + 1)) = (restL D ((c.map negL).take n)).set k (d &&& (63 - a)) := by rw [hsn]; exact andAt_set _ hdd
      have HSN := hid hsn'; have Hval := hid hval; have HSet := hid hset; have Hdd := hid hdd
      have hat := fun (W : World) (h : Gr [] wr W) => (HOwn.out.gr h (by simp)).at (i := k) (x := d) (by rw [ints_get, Hdd.out]; rfl)
      have Hat := hid hat
      obtain ⟨ca1, ca2⟩ := hat _ (Gr.refl [] wr).drew
      obtain ⟨cb1, cb2⟩ := hat _ (Gr.refl [] wr)
      have Hk := hid (fun (W : World) (h : Gr [] wr W) => (⟨h.cell k0 (by simp), h.cell k1 (by simp), h.cell k2 (by simp)⟩ : W.cell? ⟨b, o + n * 3, none⟩ = some (.int .i64 (k : Int)) ∧ W.cell? ⟨b, o + n * 3 + 1, none⟩ = some (.int .i64 lw) ∧ W.cell? ⟨b, o + n * 3 + 2, none⟩ = some (.bool ln)))
      obtain ⟨ka0, ka1, ka2⟩ := Hk.out _ (Gr.refl [] wr).drew
      have HA := hid hA
      clear hat hset hval hv0 hdd hd64 hl64 hg hsn hsn' hln hA hx
      go_wp2_with fail
      go_region_law (first
        | (go_simp; go_at_call 100; refine (literalDomain_c ⟨(k : Int), lw, ln⟩ _ Hval.out).mono ?_; rw [HA.out]; rintro e w5 ⟨rfl, hg5⟩; have hgx : Gr [] wr w5 := Gr.trans (by first | exact (Gr.refl [] wr).drew | exact Gr.refl [] wr) hg5; have HGX := hid hgx; obtain ⟨cc1, cc2⟩ := Hat.out _ hgx; obtain ⟨kb0, kb1, kb2⟩ := Hk.out _ hgx; clear hg5 hgx; (try dsimp only)))
      all_goals
        go_wp2_with fail
        refine ⟨⟨n + 1, by omega, by go_num, ?_, ?_⟩, by simp [intOf]; omega⟩
        · rw [HSN.out, ints_set]
          exact (HOwn.out.gr HGX.out (by simp)).set k _
        · exact (Hg.out.trans (Gr.any HGX.out)).setCell _ _ (.inl (by simp))
    · have hk : n = c.length := by omega
      subst hk
      rw [List.take_of_length_le (by simp)] at HOwn
      rw [restL_negs] at HOwn
      go_wp2_with fail
      go_ret
      exact ⟨_, rfl, HOwn.out, Hgw.out⟩

set_option maxRecDepth 100000 in
set_option maxHeartbeats 2000000 in
theorem refute_c (m : Mod) (cls : List Cls) (d : List Nat) (mv kv dv : Value) (w : World) (hv : ModV [] w mv m) (hk : ClsV [] w kv cls) (hx : Nums [] w .i64 dv (ints d)) (hc : VCs m.cons d.length) (hd : Below64 d) (hdl : 1 ≤ d.length ∧ d.length ≤ 4) (hok : KOk cls d.length) :
    Calls Tryz.prog 218 #[mv, kv, dv] w fun e w' => e = .returned (.bool (refB m.cons cls d)) ∧ Gr [] w w' := by
  have Hv := hid hv; have Hk0 := hid hk
  obtain ⟨mdv, mcv, rfl, _, hcv⟩ := hv
  obtain ⟨ko, kc, rfl, ⟨hk1, hk2⟩⟩ := hk.slice
  have hg0 : Gr [] w (w.alloc (.cells #[mdv, mcv] 26)) := (Gr.refl _ _).alloc _
  have Hb0 := hid (heap_alloc_new w (.cells #[mdv, mcv] 26))
  have HC := hid hc; have HD := hid hd; have Hx := hid (hx.gr hg0); have Hdl := hid hdl; have Hok := hid hok
  have Hmv := hid (Hv.out.gr hg0); have Hkv := hid (Hk0.out.gr hg0); have Hg0 := hid hg0
  have hfew := hok.few
  clear hcv hc hd hx hdl hok hk hg0
  go_enter Tryz.func218, Tryz.ntmps218
  go_wp2_with fail
  have hbs : w.heap.size < (w.alloc (.cells #[mdv, mcv] 26)).heap.size := by simp
  generalize hW : w.alloc (.cells #[mdv, mcv] 26) = w0 at *
  clear hW
  have hcall := copyInts_c _ (ints d) _ Hx.out (by rw [ints_len]; have := Hdl.out; omega)
  (with_reducible refine hcall.mono ?_)
  clear hcall
  rintro e w1 ⟨v1, rfl, hown1, hg1⟩
  have Hown1 := hid hown1.c; have Hg1 := hid hg1; clear hown1 hg1
  go_wp2_with fail
  go_loopg [7] (d.sum + 1) (fun k v wr => ∃ D : List Nat, D.sum < k ∧ OwnC w0.heap.size wr 3 v (ints D) ∧ D.length = d.length ∧ Below64 D ∧ refB m.cons cls D = refB m.cons cls d ∧ Gr [] w0 wr)
  case atStart => exact ⟨d, by omega, Hown1.out, rfl, HD.out, rfl, Hg1.out⟩
  case round =>
    obtain ⟨D, hk, hown, hDl, hDb, hfix, hg⟩ := hrel
    have hflr := fld (hg.obj Hb0.out (by simp))
    have HCD : Hid (VCs m.cons D.length) := hid (by rw [hDl]; exact HC.out)
    have HOk : Hid (KOk cls D.length) := hid (by rw [hDl]; exact Hok.out)
    have Hdl4 : Hid (1 ≤ D.length ∧ D.length ≤ 4) := hid (by rw [hDl]; exact Hdl.out)
    have Hn := hid (hown.nums' (S := []) (by simp))
    have Hown := hid hown; have HDl := hid hDl; have HDb := hid hDb; have Hfix := hid hfix; have Hg := hid hg
    clear hown hDl hDb hfix hg
    go_wp2_with fail
    have hcall := specFixpoint_c m D _ _ _ (Hmv.out.gr Hg.out) Hn.out HCD.out HDb.out Hdl4.out.2
    (with_reducible refine hcall.mono ?_)
    clear hcall
    rintro e w2 ⟨v2, rfl, hown2, hg2⟩
    have Hown2 := hid (hown2.c.le (B' := w0.heap.size) Hg.out.size); have Hg2 := hid hg2
    have HFb := hid (fix_below HCD.out HDb.out)
    have HFl := hid (fix_len HCD.out)
    clear hown2 hg2 hflr
    go_wp2_with fail
    go_loopw [8, 9] (fun v i wr2 => ∃ n : Nat, n ≤ cls.length ∧ i = .int .i64 n ∧ OwnC w0.heap.size wr2 3 v (ints (clsF (cls.take n) (fix m.cons D))) ∧ Gr [] w2 wr2) (fun _ i _ => cls.length - (intOf i).toNat)
    case atStart => exact ⟨0, Nat.zero_le _, rfl, by simpa [clsF] using Hown2.out, Gr.refl _ _⟩
    case round =>
      obtain ⟨n, hn, rfl, hown, hgi⟩ := hrel
      have Hgi := hid hgi
      have Hg3 := hid ((Hg.out.trans Hg2.out).trans hgi)
      have Hn3 := hid (hown.nums' (S := []) (by simp))
      have Hown3 := hid hown; clear hown hgi
      by_cases hlt : n < cls.length
      · obtain ⟨c, hx⟩ := get_some hlt
        obtain ⟨b, o, vo, vc, rfl, -, k0, hlv⟩ := (Hkv.out.gr Hg3.out).at hx
        have HX := hid hx; have Hlv := hid hlv
        have Hcm := hid (List.mem_of_getElem? hx)
        clear hx hlv
        go_wp2_with fail
        have hcall := clauseFilter_c (clsF (cls.take n) (fix m.cons D)) c _ _ _ Hn3.out Hlv.out (by rw [clsF_len, HFl.out]; exact HOk.out.lits c Hcm.out) (by rw [clsF_len, HFl.out]; exact Hdl4.out) (clsF_below HFb.out) (HOk.out.short c Hcm.out)
        (with_reducible refine hcall.mono ?_)
        clear hcall
        rintro e w4 ⟨v4, rfl, hown4, hg4⟩
        rw [← clsF_snoc HX.out] at hown4
        have Hown4 := hid (hown4.le (B' := w0.heap.size) Hg3.out.size); clear hown4
        go_wp2_with fail
        exact ⟨⟨n + 1, by omega, by go_num, Hown4.out, Hgi.out.trans hg4⟩, by simp [intOf]; omega⟩
      · have hnt : cls.take n = cls := List.take_of_length_le (by omega)
        rw [hnt] at Hown3 Hn3
        obtain ⟨S, hS⟩ : ∃ S, S = stepC m.cons cls D := ⟨_, rfl⟩
        change Hid (OwnC w0.heap.size _ _ _ (ints (stepC m.cons cls D))) at Hown3
        change Hid (Nums [] _ _ _ (ints (stepC m.cons cls D))) at Hn3
        clear hnt hS
        cases h0 : memB 0 (ints (stepC m.cons cls D))
        · have h0' : 0 ∉ stepC m.cons cls D := by rw [memB_ints] at h0; simpa using h0
          have H0 := hid h0; have H0' := hid h0'
          clear h0 h0'
          have hD0 : 0 ∉ D := fun h => H0'.out (stepC_zero HCD.out (by have := Hdl4.out; omega) h)
          have HD0 := hid hD0
          clear hD0
          go_wp2_with (go_at_call 181; refine (hasEmpty_c _ _ _ Hn3.out).mono ?_; rw [H0.out]; rintro e w' ⟨rfl, rfl⟩)
          have hcall := equalInts_c _ _ _ _ _ Hn3.out (Hn.out.gr (Hg2.out.trans Hgi.out))
          (with_reducible refine hcall.mono ?_)
          clear hcall
          rw [decide_ints]
          rintro e w5 ⟨rfl, hg5⟩
          have Hg5 := hid hg5; clear hg5
          by_cases hs : stepC m.cons cls D = D
          · have hs' : decide (stepC m.cons cls D = D) = true := by simpa using hs
            have HS := hid hs; clear hs
            rw [hs']
            clear hs'
            go_wp2_with fail
            go_ret
            exact ⟨ret_bool (by rw [← Hfix.out, refB_done HCD.out (by have := Hdl4.out; omega) HD0.out HS.out]), (Hg0.out.trans Hg3.out).trans Hg5.out⟩
          · have hs' : decide (stepC m.cons cls D = D) = false := by simpa using hs
            have HS := hid hs; clear hs
            rw [hs']
            clear hs'
            have hlt2 := stepC_lt HCD.out HS.out
            go_wp2_with fail
            go_roundg (D.sum)
            case measure => omega
            case rel => exact ⟨stepC m.cons cls D, hlt2, Hown3.out.gr Hg5.out (by simp), by rw [stepC_len HCD.out, HDl.out], stepC_below HCD.out HDb.out, by rw [← refB_more HCD.out HD0.out]; exact Hfix.out, Hg3.out.trans Hg5.out⟩
        · have h0' : 0 ∈ stepC m.cons cls D := by rw [memB_ints] at h0; simpa using h0
          have H0 := hid h0; have H0' := hid h0'
          clear h0 h0'
          go_wp2_with (go_at_call 181; refine (hasEmpty_c _ _ _ Hn3.out).mono ?_; rw [H0.out]; rintro e w' ⟨rfl, rfl⟩)
          go_ret
          exact ⟨ret_bool (by rw [← Hfix.out, refB_empty HCD.out (by have := Hdl4.out; omega) H0'.out]), Hg0.out.trans Hg3.out⟩
end Go.Proofs.YtlekngkcifgonaaGreat

set_option linter.unusedVariables false
set_option linter.unusedSimpArgs false
namespace Go.Proofs.YtlekngkcifgonaaGreat
open Go.RowKit

set_option maxRecDepth 100000 in
set_option maxHeartbeats 4000000 in
theorem impliedBy_c (m : Mod) (D : List Nat) (cls : List Cls) (c : Cls) (mv kv cv : Value) (w : World) (hv : ModV [] w mv m) (hD : VM m D) (hk : ClsV [] w kv cls) (hok : KOk cls D.length) (hc : LitsV [] w cv c) (hcv : validClS c D.length = true) :
    Calls Tryz.prog 144 #[mv, kv, cv] w fun e w' => e = .returned (.bool (refB m.cons cls (restL D (negsL c)))) ∧ Gr [] w w' := by
  obtain ⟨hc1, hc2, hc3⟩ := validClS_iff.1 hcv
  have Hv := hid hv; have HD := hid hD; have Hk := hid hk; have Hok := hid hok; have Hc := hid hc
  obtain ⟨mdv, mcv, rfl, hdv, _⟩ := hv
  obtain ⟨ko, kc, rfl, ⟨hk1, hk2⟩⟩ := hk.slice
  have hg0 : Gr [] w (w.alloc (.cells #[mdv, mcv] 26)) := (Gr.refl _ _).alloc _
  have hb0 := heap_alloc_new w (.cells #[mdv, mcv] 26)
  have Hdv := hid ((hdv.gr hg0)); have Hg0 := hid hg0
  have Hmv := hid (Hv.out.gr hg0); have Hkv := hid (hk.gr hg0); have Hcv := hid (hc.gr hg0)
  have Hno := hid hc1
  have hdl := hD.len
  have HrL := hid (restL_len (negsL c) D); have HrB := hid (restL_below (negsL c) hD.below)
  have Hb0 := hid hb0
  have hdm := hD.doms
  have Hdm := hid hdm
  clear hk hok hc hb0 hg0 hdv hD hc1 hc2 hcv hdm
  go_enter Tryz.func144, Tryz.ntmps144
  go_wp2_with fail
  generalize hW : w.alloc (.cells #[mdv, mcv] 26) = w0 at *
  clear hW
  have f0 := fld Hb0.out
  have f0d := fld ((Gr.refl [] w0).drew.obj Hb0.out (by simp))
  go_region_law (first
    | (go_simp; go_at_call 219; refine (assume_c D c _ _ _ (by rw [← Hdm.out]; exact Hdv.out.gr (by first | exact (Gr.refl [] w0).drew | exact Gr.refl [] w0)) (Hcv.out.gr (by first | exact (Gr.refl [] w0).drew | exact Gr.refl [] w0)) Hno.out hdl HD.out.below (by omega)).mono ?_; rintro e w6 ⟨v6, rfl, ho6, hg6⟩; have hgx : Gr [] w0 w6 := Gr.trans (by first | exact (Gr.refl [] w0).drew | exact Gr.refl [] w0) hg6; have HGX := hid hgx; have HO6 := hid ho6; have fb6 := fld (hgx.obj Hb0.out (by simp)); clear ho6 hg6 hgx; (try dsimp only))
    | (go_simp; go_at_call 218; refine (refute_c m cls (restL D (negsL c)) _ _ _ _ (Hmv.out.gr HGX.out) (Hkv.out.gr HGX.out) (HO6.out.nums' (by simp)) (by rw [HrL.out]; exact HD.out.cons) HrB.out (by rw [HrL.out]; exact hdl) (by rw [HrL.out]; exact Hok.out)).mono ?_; rintro e w7 ⟨rfl, hg7⟩; have HG7 := hid hg7; clear hg7; (try dsimp only)))
  all_goals
    go_wp2_with fail
    go_ret
    exact ⟨rfl, Hg0.out.trans (HGX.out.trans HG7.out)⟩

theorem validCl_in {c : Cls} {n : Nat} (h : 1 ≤ n ∧ n ≤ 4) : validCl c n = validClS c n := by
  unfold validCl
  rw [inB_iff.2 (by omega), Bool.true_and]
set_option maxRecDepth 100000 in
set_option maxHeartbeats 1000000 in
theorem validProof_c (cls : List Cls) (n : Nat) (kv : Value) (w : World) (hk : ClsV [] w kv cls) (hl : ∀ c ∈ cls, c.length ≤ 2000000) (hn : 1 ≤ n ∧ n ≤ 4) :
    Calls Tryz.prog 143 #[kv, .int .i64 (n : Int)] w fun e w' => e = .returned (.bool (clsB n cls)) ∧ Gr [] w w' := by
  have Hk := hid hk; have Hl := hid hl
  obtain ⟨ko, kc, rfl, ⟨hk1, hk2⟩⟩ := hk.slice
  clear hk hl
  go_enter Tryz.func143, Tryz.ntmps143
  go_wp2_with fail
  go_loopw [5] (fun i wr => ∃ j : Nat, j ≤ cls.length ∧ i = .int .i64 j ∧ Hid (∀ (i : Nat) x, i < j → cls[i]? = some x → validCl x n = true) ∧ Gr [] w wr) (fun i _ => cls.length - (intOf i).toNat)
  case atStart => exact ⟨0, Nat.zero_le _, rfl, hid (by intro j x hj; omega), Gr.refl _ _⟩
  case round =>
    obtain ⟨j, hj, rfl, HP, hg⟩ := hrel
    by_cases hlt : j < cls.length
    · obtain ⟨c, hx⟩ := get_some hlt
      obtain ⟨b, o, vo, vc, rfl, -, k0, hlv⟩ := (Hk.out.gr hg).at hx
      have Hx := hid hx; have Hlv := hid hlv; have Hg := hid hg
      clear hx hlv hg
      go_wp2_with fail
      have hcall := specValidClause_c c n _ _ Hlv.out (Hl.out c (List.mem_of_getElem? Hx.out)) (by omega)
      (with_reducible refine hcall.mono ?_)
      clear hcall
      rintro e w2 ⟨rfl, hg2⟩
      cases hb : validClS c n
      · go_wp2_with fail
        go_ret
        refine ⟨ret_bool ?_, Hg.out.trans hg2⟩
        have : cls.all (fun c => validCl c n) = false := List.all_eq_false.2 ⟨c, List.mem_of_getElem? Hx.out, by rw [validCl_in hn, hb]; simp⟩
        unfold clsB
        rw [this, Bool.and_false]
      · have hb' : validCl c n = true := by rw [validCl_in hn, hb]
        have Hb := hid hb'
        clear hb hb'
        go_wp2_with fail
        refine ⟨⟨j + 1, by omega, by go_num, hid ?_, Hg.out.trans hg2⟩, by simp [intOf]; omega⟩
        intro i x hi hx
        by_cases e : i = j
        · subst e; rw [Hx.out] at hx; cases hx; exact Hb.out
        · exact HP.out i x (by omega) hx
    · have hall : cls.all (fun c => validCl c n) = true := List.all_eq_true.2 fun c hc => by
        obtain ⟨i, hi⟩ := List.mem_iff_getElem?.1 hc
        exact HP.out i c (by have := (List.getElem?_eq_some_iff.1 hi).1; omega) hi
      have Hall := hid hall
      clear hall
      cases h2 : decide ((cls.length : Int) ≤ 200)
      all_goals
        have h2' := h2
        have H2 := hid h2'
        clear h2'
        go_wp2_with fail
        go_ret
        refine ⟨ret_bool ?_, hg⟩
        unfold clsB
        rw [Hall.out, Bool.and_true, ← H2.out]
        congr 1
        exact propext ⟨fun h => by omega, fun h => by omega⟩

end Go.Proofs.YtlekngkcifgonaaGreat

set_option linter.unusedVariables false
set_option linter.unusedSimpArgs false
namespace Go.Proofs.YtlekngkcifgonaaGreat
open Go.RowKit

theorem ClsV.take {S : List Nat} {w : World} {ao : Option Addr} {n cap : Nat} {cs : List Cls} (h : ClsV S w (.slice ao n cap) cs) (k : Nat) (hk : k ≤ cs.length) : ClsV S w (.slice ao k cap) (cs.take k) := by
  obtain ⟨ao', cap', e, ⟨h1, h2, h3⟩, hc⟩ := h
  cases e
  refine ⟨ao, cap, by rw [List.length_take, Nat.min_eq_left hk], ⟨by rw [List.length_take]; omega, h2, h3⟩, fun i c hi => hc i c ?_⟩
  rw [List.getElem?_take] at hi
  split at hi
  · exact hi
  · cases hi
theorem KOk.take {cls : List Cls} {n : Nat} (h : KOk cls n) (k : Nat) : KOk (cls.take k) n :=
  ⟨fun c hc => h.lits c (List.mem_of_mem_take hc), fun c hc => h.short c (List.mem_of_mem_take hc), by have := h.few; rw [List.length_take]; omega⟩
/-- Step i of a proof is implied by the steps before it. -/
def stepB (m : Mod) (D : List Nat) (p : List Cls) (i : Nat) : Bool := refB m.cons (p.take i) (restL D (negsL (p.getD i [])))
/-- What CheckProof answers. -/
def chkB (m : Mod) (D : List Nat) (p : List Cls) : Bool := validM m && (clsB m.doms.length p && (!(p.length == 0) && (((p.getD (p.length - 1) []).length == 0) && (List.range p.length).all (stepB m D p))))
theorem steps_all {m : Mod} {D : List Nat} {p : List Cls} (h : ∀ i, i < p.length → stepB m D p i = true) : (List.range p.length).all (stepB m D p) = true := List.all_eq_true.2 fun i hi => h i (List.mem_range.1 hi)
theorem steps_no {m : Mod} {D : List Nat} {p : List Cls} {i : Nat} (hi : i < p.length) (h : stepB m D p i = false) : (List.range p.length).all (stepB m D p) = false := List.all_eq_false.2 ⟨i, List.mem_range.2 hi, by rw [h]; simp⟩
theorem clsB_one {n : Nat} {cls : List Cls} (h : clsB n cls = true) {i : Nat} {c : Cls} (hc : cls[i]? = some c) : validClS c n = true := by
  unfold clsB at h
  rw [Bool.and_eq_true, List.all_eq_true] at h
  have := h.2 c (List.mem_of_getElem? hc)
  unfold validCl at this
  rw [Bool.and_eq_true] at this
  exact this.2

set_option maxRecDepth 100000 in
set_option maxHeartbeats 4000000 in
theorem CheckProof_c (m : Mod) (D : List Nat) (p : List Cls) (mv kv : Value) (w : World) (hv : ModV [] w mv m) (hD : validM m = true → VM m D) (hk : ClsV [] w kv p) (hl : ∀ c ∈ p, c.length ≤ 2000000) :
    Calls Tryz.prog 60 #[mv, kv] w fun e w' => e = .returned (.bool (chkB m D p)) ∧ Gr [] w w' := by
  have Hv := hid hv; have HD := hid hD; have Hk := hid hk; have Hl := hid hl
  obtain ⟨mdv, mcv, rfl, hdv, _⟩ := hv
  obtain ⟨ko, kc, rfl, ⟨hk1, hk2⟩⟩ := hk.slice
  obtain ⟨xo, xc, rfl, ⟨hx1, hx2, -⟩, -⟩ := id hdv
  have hg0 : Gr [] w (w.alloc (.cells #[.slice xo m.doms.length xc, mcv] 26)) := (Gr.refl _ _).alloc _
  have hb0 := heap_alloc_new w (.cells #[.slice xo m.doms.length xc, mcv] 26)
  have Hmv := hid (Hv.out.gr hg0); have Hkv := hid (hk.gr hg0); have Hg0 := hid hg0; have Hb0 := hid hb0
  have hI : I64 (m.doms.length : Int) := by unfold I64; omega
  have HI := hid hI
  have f0 := fld hb0
  clear hk hl hdv hg0 hb0 hD hI
  go_enter Tryz.func60, Tryz.ntmps60
  go_wp2_with fail
  generalize hW : w.alloc (.cells #[.slice xo m.doms.length xc, mcv] 26) = w0 at *
  clear hW
  have hcall := ValidModel_c m _ _ Hmv.out
  (with_reducible refine hcall.mono ?_)
  clear hcall
  rintro e w1 ⟨rfl, hg1⟩
  have Hg1 := hid hg1
  cases hb : validM m
  · go_wp2_with fail
    go_ret
    exact ⟨ret_bool (by unfold chkB; rw [hb]; rfl), Hg0.out.trans Hg1.out⟩
  have hVM := HD.out hb
  have hdl := hVM.len
  have Hde : Hid (m.doms.length = D.length) := hid (by rw [hVM.doms, ints_len])
  have HVM := hid hVM; have Hb := hid hb
  have f1 := fld (hg1.obj Hb0.out (by simp))
  clear hVM hg1 hb f0
  go_wp2_with fail
  have hcall := proofOk_c p m.doms.length _ _ (Hkv.out.gr Hg1.out) Hl.out HI.out
  (with_reducible refine hcall.mono ?_)
  clear hcall
  rintro e w2 ⟨rfl, hg2⟩
  have Hg2 := hid (Hg1.out.trans hg2)
  cases hb2 : clsB m.doms.length p
  · go_wp2_with fail
    go_ret
    exact ⟨ret_bool (by unfold chkB; rw [Hb.out, hb2]; rfl), Hg0.out.trans Hg2.out⟩
  have Hok : Hid (KOk p D.length) := hid (by rw [Hde.out] at hb2; exact clsB_ok hb2)
  have Hb2 := hid hb2
  clear hb2 hg2 f1
  rcases Nat.eq_zero_or_pos p.length with hp0 | hp0
  · have t0 : ((p.length : Int) == 0) = true := by rw [hp0]; rfl
    have Hp0 := hid hp0
    clear hp0
    go_wp2_with fail
    go_ret
    exact ⟨ret_bool (by unfold chkB; rw [Hb.out, Hb2.out, Hp0.out]; rfl), Hg0.out.trans Hg2.out⟩
  obtain ⟨k, hkk⟩ : ∃ k, p.length = k + 1 := ⟨p.length - 1, by omega⟩
  obtain ⟨last, hlast⟩ := get_some (xs := p) (k := k) (by omega)
  obtain ⟨bl, ol, lo, lc, e9, -, kl, -⟩ := (Hkv.out.gr Hg2.out).at hlast
  subst e9
  have t0 : ((p.length : Int) == 0) = false := by rw [beq_eq_false_iff_ne]; omega
  have t0n : (p.length == 0) = false := by rw [beq_eq_false_iff_ne]; omega
  have twr : IntKind.i64.wrap ((p.length : Int) - 1) = (k : Int) := by rw [IntKind.wrap_i64]; omega
  have hkl : k < p.length := by omega
  have hgd : p.getD (p.length - 1) [] = last := by rw [show p.length - 1 = k by omega, List.getD_eq_getElem?_getD, hlast]; rfl
  have Hgd := hid hgd; have Hkk := hid hkk; have T0 := hid t0n
  clear hgd hlast hkk t0n
  rcases Nat.eq_zero_or_pos last.length with hz | hz
  rotate_left
  · have hlt' : (last.length == 0) = false := by rw [beq_eq_false_iff_ne]; omega
    have hlt : decide ((0 : Int) < (last.length : Int)) = true := by simp; omega
    have hltn : decide (0 < last.length) = true := by simp; omega
    have Hlt := hid hlt'
    clear hlt' hz
    go_wp2_with fail
    go_ret
    exact ⟨ret_bool (by unfold chkB; rw [Hb.out, Hb2.out, T0.out, Hgd.out, Hlt.out]; rfl), Hg0.out.trans Hg2.out⟩
  have hlt' : (last.length == 0) = true := by rw [beq_iff_eq]; exact hz
  have hlt : decide ((0 : Int) < (last.length : Int)) = false := by rw [hz]; rfl
  have hltn : decide (0 < last.length) = false := by rw [hz]; rfl
  have Hlt := hid hlt'
  clear hlt' hz
  have Hres : Hid (chkB m D p = (List.range p.length).all (stepB m D p)) := hid (by unfold chkB; rw [Hb.out, Hb2.out, T0.out, Hgd.out, Hlt.out]; rfl)
  go_wp2_with fail
  clear kl twr hlt t0 hltn
  go_loopw [35] (fun i wr => ∃ n : Nat, n ≤ p.length ∧ i = .int .i64 n ∧ Hid (∀ j, j < n → stepB m D p j = true) ∧ Gr [] w0 wr) (fun i _ => p.length - (intOf i).toNat)
  case atStart => exact ⟨0, Nat.zero_le _, rfl, hid (fun j hj => by omega), Hg2.out⟩
  case round =>
    obtain ⟨n, hn, rfl, HP, hg⟩ := hrel
    have Hg := hid hg
    by_cases hlt : n < p.length
    · obtain ⟨c, hx⟩ := get_some hlt
      obtain ⟨b, o, vo, vc, e9, -, k0, hlv⟩ := (Hkv.out.gr hg).at hx
      cases e9
      have hst : stepB m D p n = refB m.cons (p.take n) (restL D (negsL c)) := by unfold stepB; rw [List.getD_eq_getElem?_getD, hx]; rfl
      have hvc : validClS c D.length = true := by have := clsB_one Hb2.out hx; rwa [Hde.out] at this
      have hK := (Hkv.out.gr hg).take n hn
      have Hst := hid hst; have Hvc := hid hvc; have HK := hid hK; have Hlv := hid hlv
      have fr := fld (hg.obj Hb0.out (by simp))
      have frd := fld (hg.drew.obj Hb0.out (by simp))
      have hnk : n ≤ kc := by omega
      clear hx hlv hst hvc hK hg
      go_wp2_with fail
      go_region_law (first
        | (go_simp; go_at_call 142; refine (implied_c m D (p.take n) c _ _ _ _ (Hmv.out.gr (by first | exact Hg.out.drew | exact Hg.out)) HVM.out (HK.out.gr (by first | exact (Gr.refl [] wr).drew | exact Gr.refl [] wr)) (Hok.out.take n) (Hlv.out.gr (by first | exact (Gr.refl [] wr).drew | exact Gr.refl [] wr)) Hvc.out).mono ?_; rw [← Hst.out]; rintro e w5 ⟨rfl, hg5⟩; have hgx : Gr [] wr w5 := Gr.trans (by first | exact (Gr.refl [] wr).drew | exact Gr.refl [] wr) hg5; have HGX := hid hgx; clear hg5 hgx; (try dsimp only)))
      all_goals
        cases hs : stepB m D p n
        · go_wp2_with fail
          go_ret
          exact ⟨ret_bool (by rw [Hres.out, steps_no hlt hs]), Hg0.out.trans (Hg.out.trans HGX.out)⟩
        · have Hss := hid hs
          clear hs
          go_wp2_with fail
          refine ⟨⟨n + 1, by omega, by go_num, hid fun j hj => ?_, Hg.out.trans HGX.out⟩, by simp [intOf]; omega⟩
          by_cases e : j = n
          · rw [e]; exact Hss.out
          · exact HP.out j (by omega)
    · have hk : n = p.length := by omega
      subst hk
      go_wp2_with fail
      go_ret
      exact ⟨ret_bool (by rw [Hres.out, steps_all HP.out]), Hg0.out.trans Hg.out⟩

set_option maxRecDepth 100000 in
set_option maxHeartbeats 4000000 in
theorem specCheckProof_c (m : Mod) (D : List Nat) (p : List Cls) (mv kv : Value) (w : World) (hv : ModV [] w mv m) (hD : validM m = true → VM m D) (hs : m.Small) (hk : ClsV [] w kv p) (hl : ∀ c ∈ p, c.length ≤ 2000000) :
    Calls Tryz.prog 61 #[mv, kv] w fun e w' => e = .returned (.bool (chkB m D p)) ∧ Gr [] w w' := by
  have Hv := hid hv; have HD := hid hD; have Hk := hid hk; have Hl := hid hl; have Hs := hid hs
  obtain ⟨mdv, mcv, rfl, hdv, _⟩ := hv
  obtain ⟨ko, kc, rfl, ⟨hk1, hk2⟩⟩ := hk.slice
  obtain ⟨xo, xc, rfl, ⟨hx1, hx2, -⟩, -⟩ := id hdv
  have hg0 : Gr [] w (w.alloc (.cells #[.slice xo m.doms.length xc, mcv] 26)) := (Gr.refl _ _).alloc _
  have hb0 := heap_alloc_new w (.cells #[.slice xo m.doms.length xc, mcv] 26)
  have Hmv := hid (Hv.out.gr hg0); have Hkv := hid (hk.gr hg0); have Hg0 := hid hg0; have Hb0 := hid hb0
  have f0 := fld hb0
  clear hk hl hdv hg0 hb0 hD hs
  go_enter Tryz.func61, Tryz.ntmps61
  go_wp2_with fail
  generalize hW : w.alloc (.cells #[.slice xo m.doms.length xc, mcv] 26) = w0 at *
  clear hW
  have hcall := specValidModel_c m _ _ Hmv.out Hs.out
  (with_reducible refine hcall.mono ?_)
  clear hcall
  rintro e w1 ⟨rfl, hg1⟩
  have Hg1 := hid hg1
  cases hb : validM m
  · go_wp2_with fail
    go_ret
    exact ⟨ret_bool (by unfold chkB; rw [hb]; rfl), Hg0.out.trans Hg1.out⟩
  have hVM := HD.out hb
  have hdl := hVM.len
  have Hde : Hid (m.doms.length = D.length) := hid (by rw [hVM.doms, ints_len])
  have HVM := hid hVM; have Hb := hid hb
  have f1 := fld (hg1.obj Hb0.out (by simp))
  clear hVM hg1 hb f0
  go_wp2_with fail
  have hcall := validProof_c p m.doms.length _ _ (Hkv.out.gr Hg1.out) Hl.out (by rw [Hde.out]; exact hdl)
  (with_reducible refine hcall.mono ?_)
  clear hcall
  rintro e w2 ⟨rfl, hg2⟩
  have Hg2 := hid (Hg1.out.trans hg2)
  cases hb2 : clsB m.doms.length p
  · go_wp2_with fail
    go_ret
    exact ⟨ret_bool (by unfold chkB; rw [Hb.out, hb2]; rfl), Hg0.out.trans Hg2.out⟩
  have Hok : Hid (KOk p D.length) := hid (by rw [Hde.out] at hb2; exact clsB_ok hb2)
  have Hb2 := hid hb2
  clear hb2 hg2 f1
  rcases Nat.eq_zero_or_pos p.length with hp0 | hp0
  · have t0 : ((p.length : Int) == 0) = true := by rw [hp0]; rfl
    have Hp0 := hid hp0
    clear hp0
    go_wp2_with fail
    go_ret
    exact ⟨ret_bool (by unfold chkB; rw [Hb.out, Hb2.out, Hp0.out]; rfl), Hg0.out.trans Hg2.out⟩
  obtain ⟨k, hkk⟩ : ∃ k, p.length = k + 1 := ⟨p.length - 1, by omega⟩
  obtain ⟨last, hlast⟩ := get_some (xs := p) (k := k) (by omega)
  obtain ⟨bl, ol, lo, lc, e9, -, kl, -⟩ := (Hkv.out.gr Hg2.out).at hlast
  subst e9
  have t0 : ((p.length : Int) == 0) = false := by rw [beq_eq_false_iff_ne]; omega
  have t0n : (p.length == 0) = false := by rw [beq_eq_false_iff_ne]; omega
  have twr : IntKind.i64.wrap ((p.length : Int) - 1) = (k : Int) := by rw [IntKind.wrap_i64]; omega
  have hkl : k < p.length := by omega
  have hgd : p.getD (p.length - 1) [] = last := by rw [show p.length - 1 = k by omega, List.getD_eq_getElem?_getD, hlast]; rfl
  have Hgd := hid hgd; have Hkk := hid hkk; have T0 := hid t0n
  clear hgd hlast hkk t0n
  rcases Nat.eq_zero_or_pos last.length with hz | hz
  rotate_left
  · have hlt' : (last.length == 0) = false := by rw [beq_eq_false_iff_ne]; omega
    have hlt : decide ((0 : Int) < (last.length : Int)) = true := by simp; omega
    have hltn : decide (0 < last.length) = true := by simp; omega
    have Hlt := hid hlt'
    clear hlt' hz
    go_wp2_with fail
    go_ret
    exact ⟨ret_bool (by unfold chkB; rw [Hb.out, Hb2.out, T0.out, Hgd.out, Hlt.out]; rfl), Hg0.out.trans Hg2.out⟩
  have hlt' : (last.length == 0) = true := by rw [beq_iff_eq]; exact hz
  have hlt : decide ((0 : Int) < (last.length : Int)) = false := by rw [hz]; rfl
  have hltn : decide (0 < last.length) = false := by rw [hz]; rfl
  have Hlt := hid hlt'
  clear hlt' hz
  have Hres : Hid (chkB m D p = (List.range p.length).all (stepB m D p)) := hid (by unfold chkB; rw [Hb.out, Hb2.out, T0.out, Hgd.out, Hlt.out]; rfl)
  go_wp2_with fail
  clear kl twr hlt t0 hltn
  go_loopw [5] (fun i wr => ∃ n : Nat, n ≤ p.length ∧ i = .int .i64 n ∧ Hid (∀ j, j < n → stepB m D p j = true) ∧ Gr [] w0 wr) (fun i _ => p.length - (intOf i).toNat)
  case atStart => exact ⟨0, Nat.zero_le _, rfl, hid (fun j hj => by omega), Hg2.out⟩
  case round =>
    obtain ⟨n, hn, rfl, HP, hg⟩ := hrel
    have Hg := hid hg
    by_cases hlt : n < p.length
    · obtain ⟨c, hx⟩ := get_some hlt
      obtain ⟨b, o, vo, vc, e9, -, k0, hlv⟩ := (Hkv.out.gr hg).at hx
      cases e9
      have hst : stepB m D p n = refB m.cons (p.take n) (restL D (negsL c)) := by unfold stepB; rw [List.getD_eq_getElem?_getD, hx]; rfl
      have hvc : validClS c D.length = true := by have := clsB_one Hb2.out hx; rwa [Hde.out] at this
      have hK := (Hkv.out.gr hg).take n hn
      have Hst := hid hst; have Hvc := hid hvc; have HK := hid hK; have Hlv := hid hlv
      have fr := fld (hg.obj Hb0.out (by simp))
      have frd := fld (hg.drew.obj Hb0.out (by simp))
      have k0d := ((Gr.refl [] wr).drew).cell k0 (by simp)
      have hnk : n ≤ kc := by omega
      clear hx hlv hst hvc hK hg
      go_wp2_with fail
      go_region_law (first
        | (go_simp; go_at_call 144; refine (impliedBy_c m D (p.take n) c _ _ _ _ (Hmv.out.gr (by first | exact Hg.out.drew | exact Hg.out)) HVM.out (HK.out.gr (by first | exact (Gr.refl [] wr).drew | exact Gr.refl [] wr)) (Hok.out.take n) (Hlv.out.gr (by first | exact (Gr.refl [] wr).drew | exact Gr.refl [] wr)) Hvc.out).mono ?_; rw [← Hst.out]; rintro e w5 ⟨rfl, hg5⟩; have hgx : Gr [] wr w5 := Gr.trans (by first | exact (Gr.refl [] wr).drew | exact Gr.refl [] wr) hg5; have HGX := hid hgx; clear hg5 hgx; (try dsimp only)))
      all_goals
        cases hs : stepB m D p n
        · go_wp2_with fail
          go_ret
          exact ⟨ret_bool (by rw [Hres.out, steps_no hlt hs]), Hg0.out.trans (Hg.out.trans HGX.out)⟩
        · have Hss := hid hs
          clear hs
          go_wp2_with fail
          refine ⟨⟨n + 1, by omega, by go_num, hid fun j hj => ?_, Hg.out.trans HGX.out⟩, by simp [intOf]; omega⟩
          by_cases e : j = n
          · rw [e]; exact Hss.out
          · exact HP.out j (by omega)
    · have hk : n = p.length := by omega
      subst hk
      go_wp2_with fail
      go_ret
      exact ⟨ret_bool (by rw [Hres.out, steps_all HP.out]), Hg0.out.trans Hg.out⟩
end Go.Proofs.YtlekngkcifgonaaGreat

set_option linter.unusedVariables false
set_option linter.unusedSimpArgs false
namespace Go.Proofs.YtlekngkcifgonaaGreat
open Go.RowKit

theorem In.lit {x : List Int} {D : List Nat} {l : Lit} (h : In x D) (hok : litOk D.length l = true) :
    ∃ n : Nat, n < 6 ∧ (D.getD l.var.toNat 0).testBit n = true ∧ x[l.var.toNat]? = some (n : Int) ∧ (litD l).testBit n = trueB l x := by
  obtain ⟨⟨h0, h1⟩, hv⟩ := litOk_iff.1 hok
  obtain ⟨n, h2, h3, h4⟩ := h.get (i := l.var.toNat) (by omega)
  refine ⟨n, h3, h4, h2, ?_⟩
  rw [litD_bit l n hv h3]
  unfold trueB
  rw [List.getD_eq_getElem?_getD, h2]
  rfl
theorem In.opn {x : List Int} {D : List Nat} {l : Lit} (h : In x D) (hok : litOk D.length l = true) (ht : trueB l x = true) : opn D l = true := by
  obtain ⟨n, h1, h2, -, h4⟩ := h.lit hok
  unfold Go.Proofs.YtlekngkcifgonaaGreat.opn
  rw [bne_iff_ne]
  intro e
  have := congrArg (fun k => Nat.testBit k n) e
  simp only [Nat.testBit_and, h2, h4, ht, Nat.zero_testBit] at this
  cases this
theorem In.andAt {x : List Int} {D : List Nat} {l : Lit} (h : In x D) (hok : litOk D.length l = true) (ht : trueB l x = true) : In x (andAt D l.var.toNat (litD l)) := by
  obtain ⟨n, h1, h2, h3, h4⟩ := h.lit hok
  refine In.of (by rw [andAt_len]; exact tups_len h) fun i hi => ?_
  rw [andAt_len] at hi
  rw [andAt_get]
  split
  · rename_i e
    subst e
    exact ⟨n, h3, h1, by rw [Nat.testBit_and, h2, h4, ht]; rfl⟩
  · exact h.get hi
theorem In.unit {x : List Int} {D : List Nat} {c : Cls} (h : In x D) (hok : ∀ l ∈ c, litOk D.length l = true) (ht : holdsB c x = true) : In x (unitF c D) := by
  unfold holdsB at ht
  obtain ⟨l, hl, hlt⟩ := List.any_eq_true.1 ht
  have hm : l ∈ opens D c := List.mem_filter.2 ⟨hl, h.opn (hok l hl) hlt⟩
  match e : opens D c, hm with
  | [l'], hm =>
    have : l = l' := by simpa using hm
    subst this
    rw [unitF_1 e]
    exact h.andAt (hok l hl) hlt
  | a :: b :: r, _ =>
    rw [unitF_2 (by rw [e]; simp)]
    exact h
theorem In.cls {x : List Int} {cls : List Cls} : ∀ {D : List Nat}, In x D → (∀ c ∈ cls, ∀ l ∈ c, litOk D.length l = true) → (∀ c ∈ cls, holdsB c x = true) → In x (clsF cls D) := by
  induction cls with
  | nil => intro D h _ _; exact h
  | cons c r ih =>
    intro D h hok ht
    exact ih (h.unit (hok c (by simp)) (ht c (by simp))) (fun d hd => by rw [unitF_len]; exact hok d (by simp [hd])) (fun d hd => ht d (by simp [hd]))
theorem In.fixC {x : List Int} {cs : List Con} {cls : List Cls} {D : List Nat} (h : In x D) (hv : VCs cs D.length) (hs : Sol cs x) (hok : ∀ c ∈ cls, ∀ l ∈ c, litOk D.length l = true) (ht : ∀ c ∈ cls, holdsB c x = true) : In x (fixC cs cls D) := by
  have key := fixC_ind (cs := cs) (cls := cls) (fun D E => (∀ c ∈ cls, ∀ l ∈ c, litOk D.length l = true) → In x D → In x E) (fun D _ h0 _ hx => absurd h0 hx.nonzero) (fun D _ _ _ _ hx => hx)
    (fun D E hv _ ih hok hx => ih (by rw [stepC_len hv]; exact hok) (In.cls (hx.fix hv hs) (by rw [fix_len hv]; exact hok) ht)) _ D hv (Nat.lt_succ_self _)
  exact key hok h
theorem In.rest {x : List Int} {c : Cls} : ∀ {D : List Nat}, In x D → (∀ l ∈ c, litOk D.length l = true) → (∀ l ∈ c, trueB l x = true) → In x (restL D c) := by
  induction c with
  | nil => intro D h _ _; exact h
  | cons l r ih =>
    intro D h hok ht
    exact ih (h.andAt (hok l (by simp)) (ht l (by simp))) (fun d hd => by rw [andAt_len]; exact hok d (by simp [hd])) (fun d hd => ht d (by simp [hd]))
theorem refB_sound {x : List Int} {cs : List Con} {cls : List Cls} {D : List Nat} {c : Cls} (h : In x D) (hl : 0 < D.length) (hv : VCs cs D.length) (hs : Sol cs x) (hok : ∀ c ∈ cls, ∀ l ∈ c, litOk D.length l = true) (ht : ∀ c ∈ cls, holdsB c x = true)
    (hc : ∀ l ∈ c, litOk D.length l = true) (hr : refB cs cls (restL D (negsL c)) = true) : holdsB c x = true := by
  cases hb : holdsB c x
  · exfalso
    have hf : ∀ l ∈ c, trueB l x = false := fun l hm => by
      unfold holdsB at hb
      have := List.any_eq_false.1 hb l hm
      cases ht : trueB l x
      · rfl
      · exact absurd ht this
    have h1 : In x (restL D (negsL c)) := h.rest (negs_ok hc) fun l hm => by
      have := hf _ (mem_negsL.1 hm)
      rw [trueB_negL] at this
      simpa using this
    have hlen := restL_len (negsL c) D
    have h2 := h1.fixC (cs := cs) (cls := cls) (by rw [hlen]; exact hv) hs (by rw [hlen]; exact hok) ht
    have h3 : (fixC cs cls (restL D (negsL c))).length = D.length := by rw [fixC_len (by rw [hlen]; exact hv), hlen]
    obtain ⟨n, -, -, h4⟩ := h2.get (i := 0) (by rw [h3]; exact hl)
    unfold refB at hr
    rw [beq_iff_eq] at hr
    rw [hr] at h4
    simp at h4
  · rfl
end Go.Proofs.YtlekngkcifgonaaGreat

set_option linter.unusedVariables false
set_option linter.unusedSimpArgs false
namespace Go.Proofs.YtlekngkcifgonaaGreat
open Go.RowKit

/-! ### Soundness -/
theorem chkB_open {m : Mod} {D : List Nat} {p : List Cls} (h : chkB m D p = true) : validM m = true ∧ clsB m.doms.length p = true ∧ p.length ≠ 0 ∧ (p.getD (p.length - 1) []).length = 0 ∧ ∀ i, i < p.length → stepB m D p i = true := by
  unfold chkB at h
  simp only [Bool.and_eq_true, Bool.not_eq_true', beq_iff_eq, List.all_eq_true, List.mem_range] at h
  obtain ⟨h1, h2, h3, h4, h5⟩ := h
  exact ⟨h1, h2, by simpa using h3, h4, h5⟩
theorem chkB_sound {m : Mod} {D : List Nat} {p : List Cls} (hVM : VM m D) (h : chkB m D p = true) : sols m.cons D = [] := by
  obtain ⟨h1, h2, h3, h4, h5⟩ := chkB_open h
  cases hs : sols m.cons D with
  | nil => rfl
  | cons x r =>
    exfalso
    have hx : x ∈ sols m.cons D := by rw [hs]; simp
    obtain ⟨hin, hsol⟩ := mem_sols.1 hx
    have hDl : m.doms.length = D.length := by rw [hVM.doms, ints_len]
    have hok : ∀ i c, p[i]? = some c → ∀ l ∈ c, litOk D.length l = true := fun i c hc => by
      have := clsB_one h2 hc
      rw [hDl] at this
      exact (validClS_iff.1 this).1
    have key : ∀ (n i : Nat) (c : Cls), i < n → p[i]? = some c → holdsB c x = true := by
      intro n
      induction n with
      | zero => intro i c h; omega
      | succ n ih =>
        intro i c hi hc
        have hil := (List.getElem?_eq_some_iff.1 hc).1
        have hst := h5 i hil
        unfold stepB at hst
        have e : p.getD i [] = c := by rw [List.getD_eq_getElem?_getD, hc]; rfl
        rw [e] at hst
        refine refB_sound hin (by have := hVM.len; omega) hVM.cons hsol (cls := p.take i) ?_ ?_ (hok i c hc) hst
        · intro d hd
          obtain ⟨j, hj⟩ := List.mem_iff_getElem?.1 (List.mem_of_mem_take hd)
          exact hok j d hj
        · intro d hd
          obtain ⟨j, hj⟩ := List.mem_iff_getElem?.1 hd
          rw [List.getElem?_take] at hj
          split at hj
          · exact ih j d (by omega) hj
          · cases hj
    obtain ⟨c, hc⟩ := get_some (xs := p) (k := p.length - 1) (by omega)
    have h6 := key _ _ c (Nat.lt_succ_self _) hc
    rw [List.getD_eq_getElem?_getD, hc] at h4
    have : c = [] := List.eq_nil_of_length_eq_zero h4
    subst this
    simp [holdsB] at h6

/-! ### Completeness -/
end Go.Proofs.YtlekngkcifgonaaGreat
