/-
  Walks of unit propagation with one clause: the reference.
-/
import Derived.Test.YtpfelbbmgbfkeaaGreatUn
set_option linter.unusedVariables false
set_option linter.unusedSimpArgs false
namespace Go.Proofs.YtpfelbbmgbfkeaaGreat
open Go.RowKit

set_option maxRecDepth 100000 in
set_option maxHeartbeats 4000000 in
theorem clauseFilter_c (D : List Nat) (c : Cls) (dv cv : Value) (w : World) (hd : Nums [] w .i64 dv (ints D)) (hc : LitsV [] w cv c) (hok : ∀ l ∈ c, litOk D.length l = true) (hl : 1 ≤ D.length ∧ D.length ≤ 4) (hb : Below64 D) (hcl : c.length ≤ 1000) :
    Calls Tryz.prog 179 #[cv, dv] w fun e w' => ∃ v', e = .returned v' ∧ OwnC w.heap.size w' 3 v' (ints (unitF c D)) ∧ Gr [] w w' := by
  have Hd := hid hd; have Hc := hid hc; have Hok := hid hok; have H64 := hid hb
  obtain ⟨co, cc, rfl, ⟨hc1, hc2⟩⟩ := hc.slice
  obtain ⟨xo, xc, e1, ⟨hx1, hx2, -⟩, -⟩ := id hd
  rw [ints_len] at e1 hx1
  subst e1
  have hmk := fun w => run_make_row' (P := Tryz.prog) 23 3 (.int .i64 0) 8 Tryz.underlying23 infoI rfl .i64 .i64 D.length (by omega) (by omega) w
  clear hd hc hok hb
  go_enter Tryz.func179, Tryz.ntmps179
  go_wp2_with fail
  have hcall := copyInts_c _ (ints D) _ Hd.out (by rw [ints_len]; omega)
  (with_reducible refine hcall.mono ?_)
  clear hcall
  rintro e w1 ⟨v1, rfl, ho1', hg1⟩
  have ho1 := ho1'.c
  obtain ⟨g, cap, rfl⟩ := ho1.open (by rw [ints_len]; omega)
  rw [ints_len] at ho1
  rw [ints_len]
  have hgB := ho1.block
  have Ho1 := hid ho1; have Hg1 := hid hg1
  clear ho1 hg1 ho1'
  go_wp2_with fail
  go_loopw [6, 7] (fun m i wr => ∃ (n : Nat), n ≤ c.length ∧ i = .int .i64 n ∧ Hid ((opens D (c.take n) = [] ∧ m = .int .i64 (-1)) ∨ ∃ (j : Nat) (l : Lit), j < n ∧ c[j]? = some l ∧ opens D (c.take n) = [l] ∧ m = .int .i64 (j : Int)) ∧ Gr [] w1 wr) (fun _ i _ => c.length - (intOf i).toNat)
  case atStart => exact ⟨0, Nat.zero_le _, rfl, hid (.inl ⟨by simp [opens], rfl⟩), Gr.refl _ _⟩
  case round =>
    obtain ⟨n, hn, rfl, HM, hg⟩ := hrel
    have Hg := hid hg
    have Hgw : Hid (Gr [] w wr) := hid (Hg1.out.trans hg)
    have hcl2 := hcl
    have HOwn := hid (Ho1.out.gr hg (by simp))
    by_cases hlt : n < c.length
    · obtain ⟨l, hx⟩ := get_some hlt
      obtain ⟨⟨hv0, hv1⟩, hval⟩ := litOk_iff.1 (Hok.out l (List.mem_of_getElem? hx))
      have hsn := opens_snoc (D := D) hx
      obtain ⟨b, o, rfl, -, k0, k1, k2⟩ := (Hc.out.gr Hgw.out).at hx
      obtain ⟨lv, lw, ln⟩ := l
      dsimp only at hv0 hv1 hval k0 k1 k2
      obtain ⟨k, rfl⟩ := Int.eq_ofNat_of_zero_le hv0
      have hk : k < D.length := by omega
      obtain ⟨d, hdd⟩ := get_some hk
      have hd64 : d < 64 := H64.out d (List.mem_of_getElem? hdd)
      have hl64 := litD_lt ⟨(k : Int), lw, ln⟩ hval
      have hop : opn D ⟨(k : Int), lw, ln⟩ = ((((d &&& litD ⟨(k : Int), lw, ln⟩) : Nat) : Int) != 0) := by
        unfold opn
        simp only [Int.toNat_natCast]
        rw [List.getD_eq_getElem?_getD, hdd, Bool.eq_iff_iff]
        simp only [Option.getD_some, bne_iff_ne, ne_eq]
        omega
      have hand := i64_and d (litD ⟨(k : Int), lw, ln⟩) (by omega) (by omega)
      have Hx := hid hx; have Hdd := hid hdd; have Hval := hid hval; have Hsn := hid hsn; have Hop := hid hop
      obtain ⟨b', o', e2, -, d0⟩ := (Hd.out.gr Hgw.out).at (i := k) (x := (d : Int)) (by rw [ints_get, Hdd.out]; rfl)
      subst e2
      have e0 : ∀ q : GrW [] wr, q.val.cell? ⟨b, o + n * 3, none⟩ = some (.int .i64 (k : Int)) := fun q => q.gr.cell k0 (by simp)
      have e1 : ∀ q : GrW [] wr, q.val.cell? ⟨b, o + n * 3 + 1, none⟩ = some (.int .i64 lw) := fun q => q.gr.cell k1 (by simp)
      have e2 : ∀ q : GrW [] wr, q.val.cell? ⟨b, o + n * 3 + 2, none⟩ = some (.bool ln) := fun q => q.gr.cell k2 (by simp)
      have eD : ∀ q : GrW [] wr, q.val.cell? ⟨b', o' + k, none⟩ = some (.int .i64 d) := fun q => q.gr.cell d0 (by simp)
      have htr : ∀ q : GrW [] wr, Calls Tryz.prog 65 #[.agg #[.int .i64 (k : Int), .int .i64 lw, .bool ln]] q.val fun e w'' => e = .returned (.int .i64 ((litD ⟨(k : Int), lw, ln⟩ : Nat) : Int)) ∧ ∃ m : GrW [] wr, w'' = m.val := fun q =>
        Calls.gr_of ((literalDomain_c ⟨(k : Int), lw, ln⟩ _ Hval.out).mono fun e w' h => h)
      have Htr := hid htr
      clear htr d0 k0 k1 k2 hx hdd hd64 hl64 hsn hop hval hv0 hv1 hg
      cases hq : ((((d &&& litD ⟨(k : Int), lw, ln⟩) : Nat) : Int) != 0)
      all_goals
        have Hq := hid hq
        go_wp2_with fail
        refine wp_region_gr [] _ (by kernel_rfl) (by kernel_rfl) (Gr.refl _ _) ?_
        repeat (go_big_quiet_step ((go_at_call 65; exact Htr.out _)))
        refine wpQuiet_nil ?_
        rintro w9 ⟨n9, rfl⟩
        have hg9 := n9.gr
        clear eD e0 e1 e2
      · have hF : opens D (c.take (n + 1)) = opens D (c.take n) := by rw [Hsn.out, Hop.out, Hq.out]; simp
        have HF := hid hF
        clear hF
        go_wp2_with fail
        refine ⟨⟨n + 1, by omega, by go_num, hid (by rw [HF.out]; exact HM.out.imp id fun ⟨j, l, h1, h2⟩ => ⟨j, l, by omega, h2⟩), Hg.out.trans hg9⟩, by simp [intOf]; omega⟩
      · have hF : opens D (c.take (n + 1)) = opens D (c.take n) ++ [⟨(k : Int), lw, ln⟩] := by rw [Hsn.out, Hop.out, Hq.out]; simp
        have HF := hid hF
        clear hF
        have hM := HM.out
        rcases hM with ⟨h0, rfl⟩ | ⟨j, l, hj, hjc, h1, rfl⟩
        · have H0 := hid h0
          clear h0
          go_wp2_with fail
          refine ⟨⟨n + 1, by omega, by go_num, hid (.inr ⟨n, ⟨(k : Int), lw, ln⟩, by omega, Hx.out, by rw [HF.out, H0.out]; rfl, rfl⟩), Hg.out.trans hg9⟩, by simp [intOf]; omega⟩
        · have H1 := hid h1
          clear h1 hjc
          have t1 : decide ((0 : Int) ≤ (j : Int)) = true := by simp
          go_wp2_with fail
          go_ret
          refine ⟨_, rfl, ?_, Hgw.out.trans hg9⟩
          rw [unitF_2 (by have := opens_le D c (n + 1); rw [HF.out, H1.out] at this; simpa using this)]
          exact HOwn.out.gr hg9 (by simp)
    · have hk : n = c.length := by omega
      subst hk
      rw [List.take_length] at *
      have hM := HM.out
      rcases hM with ⟨h0, rfl⟩ | ⟨j, l, hj, hjc, h1, rfl⟩
      · have H0 := hid h0
        clear h0
        go_wp2_with fail
        go_ret
        refine ⟨_, rfl, ?_, Hgw.out.alloc _⟩
        rw [unitF_0 H0.out]
        have : ints (zeros D.length) = List.replicate D.length (0 : Int) := by simp [ints, zeros]
        rw [this]
        exact (own_made (heap_alloc_new _ _) (by have := Hgw.out.size; omega) (by omega)).c
      · obtain ⟨⟨hv0, hv1⟩, hval⟩ := litOk_iff.1 (Hok.out l (List.mem_of_getElem? hjc))
        obtain ⟨b, o, rfl, -, k0, k1, k2⟩ := (Hc.out.gr Hgw.out).at hjc
        obtain ⟨lv, lw, ln⟩ := l
        dsimp only at hv0 hv1 hval k0 k1 k2
        obtain ⟨k, rfl⟩ := Int.eq_ofNat_of_zero_le hv0
        have hk : k < D.length := by omega
        obtain ⟨d, hdd⟩ := get_some hk
        have hd64 : d < 64 := H64.out d (List.mem_of_getElem? hdd)
        have hl64 := litD_lt ⟨(k : Int), lw, ln⟩ hval
        have hand := i64_and d (litD ⟨(k : Int), lw, ln⟩) (by omega) (by omega)
        have hset := HOwn.out.set k (((d &&& litD ⟨(k : Int), lw, ln⟩ : Nat)) : Int)
        have H1 := hid h1; have Hval := hid hval; have HSet := hid hset; have Hdd := hid hdd
        have hat := fun (W : World) (h : Gr [] wr W) => (HOwn.out.gr h (by simp)).at (i := k) (x := d) (by rw [ints_get, Hdd.out]; rfl)
        have Hat := hid hat
        obtain ⟨ca1, ca2⟩ := hat _ (Gr.refl [] wr).drew
        obtain ⟨cb1, cb2⟩ := hat _ (Gr.refl [] wr)
        have Hk := hid (fun (W : World) (h : Gr [] wr W) => (⟨h.cell k0 (by simp), h.cell k1 (by simp), h.cell k2 (by simp)⟩ : W.cell? ⟨b, o + j * 3, none⟩ = some (.int .i64 (k : Int)) ∧ W.cell? ⟨b, o + j * 3 + 1, none⟩ = some (.int .i64 lw) ∧ W.cell? ⟨b, o + j * 3 + 2, none⟩ = some (.bool ln)))
        obtain ⟨ka0, ka1, ka2⟩ := Hk.out _ (Gr.refl [] wr).drew
        have t1 : decide ((j : Int) < 0) = false := by simp
        have hjl : j < c.length := by omega
        clear hat h1 hjc hset hval hv0 hdd hd64 hl64 hg
        go_wp2_with fail
        go_region_law (first
          | (go_simp; go_at_call 65; refine (literalDomain_c ⟨(k : Int), lw, ln⟩ _ Hval.out).mono ?_; rintro e w5 ⟨rfl, hg5⟩; have hgx : Gr [] wr w5 := Gr.trans (by first | exact (Gr.refl [] wr).drew | exact Gr.refl [] wr) hg5; have HGX := hid hgx; obtain ⟨cc1, cc2⟩ := Hat.out _ hgx; obtain ⟨kb0, kb1, kb2⟩ := Hk.out _ hgx; clear hg5 hgx; (try dsimp only)))
        all_goals
          go_wp2_with fail
          go_ret
          refine ⟨_, rfl, ?_, (Hgw.out.trans HGX.out).setCell _ _ (.inr hgB.1)⟩
          rw [unitF_1 H1.out]
          simp only [Int.toNat_natCast]
          rw [andAt_set D Hdd.out, ints_set]
          exact (HOwn.out.gr HGX.out (by simp)).set k _
end Go.Proofs.YtpfelbbmgbfkeaaGreat
