/-
  Walks of unit propagation with one clause, on both sides.
-/
import Derived.Test.YtlekngkcifgonaaGreatXTrPrPv
import Derived.Test.YtlekngkcifgonaaGreatXM4M5
import Derived.Test.YtlekngkcifgonaaGreatXBVlMg
set_option linter.unusedVariables false
set_option linter.unusedSimpArgs false
namespace Go.Proofs.YtlekngkcifgonaaGreat
open Go.RowKit

theorem set3u {w : World} {r : Nat} {t : TypeId} {z0 z1 z2 : Value} (x0 x1 x2 : Value) (h : w.heap[r]? = some (.cells #[z0, z1, z2] t (0, 0))) :
    (((w.setCell ⟨r, 0, none⟩ x0).setCell ⟨r, 1, none⟩ x1).setCell ⟨r, 2, none⟩ x2).heap[r]? = some (.cells #[x0, x1, x2] t (0, 0)) ∧ Gr [r] w (((w.setCell ⟨r, 0, none⟩ x0).setCell ⟨r, 1, none⟩ x1).setCell ⟨r, 2, none⟩ x2) := by
  have h3 := block_cells (cur' := #[]) (block_cells (cur' := #[]) (block_cells (cur' := #[]) h 0 x0) 1 x1) 2 x2
  exact ⟨by simpa using h3, (((Gr.refl _ _).setCell _ _ (.inl (by simp))).setCell _ _ (.inl (by simp))).setCell _ _ (.inl (by simp))⟩
/-- What stands behind a new store's three stores into its result. -/
theorem hidden_lt {w : World} {b : Nat} {o : Obj} (h : Hid (w.heap[b]? = some o)) : b < w.heap.size := (Array.getElem?_eq_some_iff.1 h.out).1
theorem andAt_set (D : List Nat) {k d a : Nat} (hd : D[k]? = some d) : andAt D k a = D.set k (d &&& a) := by unfold andAt; rw [List.getD_eq_getElem?_getD, hd]; rfl

set_option maxRecDepth 100000 in
set_option maxHeartbeats 1000000 in
theorem limited_c (D : List Nat) (k a : Nat) (dv : Value) (w : World) (hd : Nums [] w .i64 dv (ints D)) (hk : k < D.length) (hl : D.length ≤ 4) (hb : Below64 D) (ha : a < 64) :
    Calls Tryz.prog 224 #[dv, .int .i64 (k : Int), .int .i64 (a : Int)] w fun e w' => ∃ v', e = .returned v' ∧ OwnC w.heap.size w' 3 v' (ints (andAt D k a)) ∧ Gr [] w w' := by
  have Hd := hid hd
  obtain ⟨d, hdd⟩ := get_some hk
  have hd64 : d < 64 := hb d (List.mem_of_getElem? hdd)
  have hand := i64_and d a (by omega) (by omega)
  have Hdd := hid hdd
  clear hd hb hdd
  go_enter Tryz.func224, Tryz.ntmps224
  go_wp2_with fail
  have hcall := copied_c dv (ints D) _ Hd.out (by rw [ints_len]; omega)
  (with_reducible refine hcall.mono ?_)
  clear hcall
  rintro e w1 ⟨v1, rfl, ho1, hg1⟩
  obtain ⟨g, cap, rfl⟩ := ho1.open (by rw [ints_len]; omega)
  rw [ints_len] at ho1
  rw [ints_len]
  have hgB := ho1.block
  have hat := ho1.at (i := k) (x := d) (by rw [ints_get, Hdd.out]; rfl)
  obtain ⟨c1, c2⟩ := hat
  have hset := ho1.set k (((d &&& a : Nat)) : Int)
  have HS := hid hset; have Hg1 := hid hg1
  clear ho1 hg1 hset
  go_wp2_with fail
  go_ret
  refine ⟨_, rfl, ?_, Hg1.out.setCell _ _ (.inr hgB.1)⟩
  rw [andAt_set D Hdd.out, ints_set]
  exact HS.out

set_option maxRecDepth 100000 in
set_option maxHeartbeats 4000000 in
theorem unit_c (D : List Nat) (c : Cls) (dv cv : Value) (w : World) (hd : Nums [] w .i64 dv (ints D)) (hc : LitsV [] w cv c) (hok : ∀ l ∈ c, litOk D.length l = true) (hl : 1 ≤ D.length ∧ D.length ≤ 4) (hb : Below64 D) (hcl : c.length ≤ 1000) :
    Calls Tryz.prog 252 #[cv, dv] w fun e w' => ∃ v', e = .returned v' ∧ OwnC w.heap.size w' 3 v' (ints (unitF c D)) ∧ Gr [] w w' := by
  have Hd := hid hd; have Hc := hid hc; have Hok := hid hok; have H64 := hid hb
  obtain ⟨co, cc, rfl, ⟨hc1, hc2⟩⟩ := hc.slice
  obtain ⟨xo, xc, e1, ⟨hx1, hx2, -⟩, -⟩ := id hd
  rw [ints_len] at e1 hx1
  subst e1
  have hmk := fun w => run_make_row' (P := Tryz.prog) 23 3 (.int .i64 0) 8 Tryz.underlying23 infoI rfl .i64 .i64 D.length (by omega) (by omega) w
  have hg0 : Gr [] w (w.alloc (.cells #[.int .i64 0, .int .i64 0, .bool false] 45)) := (Gr.refl _ _).alloc _
  have Hg0 := hid hg0
  have Hb0 := hid (heap_alloc_new w (.cells #[.int .i64 0, .int .i64 0, .bool false] 45))
  clear hd hc hok hb hg0
  go_enter Tryz.func252, Tryz.ntmps252
  go_wp2_with fail
  go_loopw [6, 12] (fun m i wr => ∃ (n : Nat) (la : Lit), n ≤ c.length ∧ m = .int .i64 ((opens D (c.take n)).length : Nat) ∧ i = .int .i64 n ∧ Hid (opens D (c.take n) ≠ [] → (opens D (c.take n)).getLast? = some la) ∧
    Hid (wr.heap[w.heap.size]? = some (.cells #[.int .i64 la.var, .int .i64 la.val, .bool la.neg] 45 (0, 0))) ∧ Gr [] w wr) (fun _ i _ => c.length - (intOf i).toNat)
  case atStart => exact ⟨0, ⟨0, 0, false⟩, Nat.zero_le _, rfl, rfl, hid (by simp [opens]), Hb0, Hg0.out⟩
  case round =>
    obtain ⟨n, la, hn, rfl, rfl, Hla, Hbl, hg⟩ := hrel
    have hlen := opens_take D c n
    have Hg := hid hg
    by_cases hlt : n < c.length
    · obtain ⟨l, hx⟩ := get_some hlt
      obtain ⟨⟨hv0, hv1⟩, hval⟩ := litOk_iff.1 (Hok.out l (List.mem_of_getElem? hx))
      have hsn := opens_snoc (D := D) hx
      obtain ⟨b, o, rfl, -, k0, k1, k2⟩ := (Hc.out.gr hg).at hx
      obtain ⟨lv, lw, ln⟩ := l
      dsimp only at hv0 hv1 hval k0 k1 k2
      obtain ⟨k, rfl⟩ := Int.eq_ofNat_of_zero_le hv0
      have hk : k < D.length := by omega
      obtain ⟨d, hdd⟩ := get_some hk
      have hd64 : d < 64 := H64.out d (List.mem_of_getElem? hdd)
      have hl64 := litD_lt ⟨(k : Int), lw, ln⟩ hval
      have hop : opn D ⟨(k : Int), lw, ln⟩ = ((((d &&& litD ⟨(k : Int), lw, ln⟩) : Nat) : Int) != 0) := by
        unfold opn
        simp only [Int.toNat_natCast]
        rw [List.getD_eq_getElem?_getD, hdd, Bool.eq_iff_iff]
        simp only [Option.getD_some, bne_iff_ne, ne_eq]
        omega
      have hand := i64_and d (litD ⟨(k : Int), lw, ln⟩) (by omega) (by omega)
      have hga : Gr [] wr (wr.alloc (.cells #[.int .i64 (k : Int), .int .i64 lw, .bool ln] 45)) := (Gr.refl _ _).alloc _
      have hbx := heap_alloc_new wr (.cells #[.int .i64 (k : Int), .int .i64 lw, .bool ln] 45)
      have fbx := fld hbx
      have Hga := hid hga; have Hbx := hid hbx; have Hx := hid hx; have Hdd := hid hdd; have Hval := hid hval; have Hsn := hid hsn; have Hop := hid hop
      clear hx hdd hd64 hl64 hsn hop hga hbx hval hv0 hv1 hg
      go_wp2_with fail
      have hbl8 : w.heap.size < wr.heap.size := by have := (hidden_lt Hbl); exact this
      generalize hWa : wr.alloc (.cells #[.int .i64 (k : Int), .int .i64 lw, .bool ln] 45) = wa at *
      clear hWa
      obtain ⟨b', o', e2, -, d0⟩ := (Hd.out.gr (Hg.out.trans Hga.out)).at (i := k) (x := (d : Int)) (by rw [ints_get, Hdd.out]; rfl)
      subst e2
      have eD : ∀ q : GrW [] wa, q.val.cell? ⟨b', o' + k, none⟩ = some (.int .i64 d) := fun q => q.gr.cell d0 (by simp)
      have ebx : ∀ (q : GrW [] wa) j, q.val.cell? ⟨wr.heap.size, j, none⟩ = #[.int .i64 (k : Int), .int .i64 lw, .bool ln][j]? := fun q => fld (q.gr.obj Hbx.out (by simp))
      have htr : ∀ q : GrW [] wa, Calls Tryz.prog 177 #[.agg #[.int .i64 (k : Int), .int .i64 lw, .bool ln]] q.val fun e w'' => e = .returned (.int .i64 ((litD ⟨(k : Int), lw, ln⟩ : Nat) : Int)) ∧ ∃ m : GrW [] wa, w'' = m.val := fun q =>
        Calls.gr_of ((trues_c ⟨(k : Int), lw, ln⟩ _ Hval.out).mono fun e w' h => h)
      have Htr := hid htr
      clear htr fbx d0
      obtain ⟨A, hA⟩ : ∃ A : Nat, A = litD ⟨(k : Int), lw, ln⟩ := ⟨_, rfl⟩
      cases hq : ((((d &&& litD ⟨(k : Int), lw, ln⟩) : Nat) : Int) != 0)
      all_goals
        have Hq := hid hq
        refine wp_region_gr [] _ (by kernel_rfl) (by kernel_rfl) (Gr.refl _ _) ?_
        repeat (go_big_quiet_step ((go_at_call 177; exact Htr.out _)))
        refine wpQuiet_nil ?_
        rintro w9 ⟨n9, rfl⟩
        have hg9 := n9.gr
        have f9 := fld (hg9.obj Hbx.out (by simp))
        have Hb9 := hid (hg9.obj (Hga.out.obj Hbl.out (by simp)) (by simp))
        have f8 := fld Hb9.out
        have f7 := fldF Hb9.out
        clear eD ebx
        go_wp2_with fail
      · have hF : opens D (c.take (n + 1)) = opens D (c.take n) := by rw [Hsn.out, Hop.out, Hq.out]; simp
        refine ⟨⟨n + 1, la, by omega, by rw [hF], by go_num, hid (by rw [hF]; exact Hla.out), Hb9, Hg.out.trans (Hga.out.trans hg9)⟩, by simp [intOf]; omega⟩
      · have hF : opens D (c.take (n + 1)) = opens D (c.take n) ++ [⟨(k : Int), lw, ln⟩] := by rw [Hsn.out, Hop.out, Hq.out]; simp
        refine ⟨⟨n + 1, ⟨(k : Int), lw, ln⟩, by omega, ?_, by go_num, hid (by rw [hF]; simp), hid (set3u _ _ _ Hb9.out).1, ?_⟩, by simp [intOf]; omega⟩
        · rw [hF, List.length_append]; first | rfl | go_num
        · exact (((Hg.out.trans (Hga.out.trans hg9)).setCell _ _ (.inr (by simp))).setCell _ _ (.inr (by simp))).setCell _ _ (.inr (by simp))
    · have hk : n = c.length := by omega
      subst hk
      rw [List.take_length] at *
      have f8 := fld Hbl.out
      generalize hN : (opens D c).length = N at *
      have HN := hid hN
      clear hN
      have hN2 : N = 0 ∨ N = 1 ∨ 2 ≤ N := by omega
      rcases hN2 with rfl | rfl | h2
      · go_wp2_with fail
        go_ret
        have h0 : opens D c = [] := List.eq_nil_of_length_eq_zero HN.out
        refine ⟨_, rfl, ?_, Hg.out.alloc _⟩
        rw [unitF_0 h0]
        have : ints (zeros D.length) = List.replicate D.length (0 : Int) := by simp [ints, zeros]
        rw [this]
        exact (own_made (heap_alloc_new _ _) (by have := Hg.out.size; omega) (by omega)).c
      · have h1 := opens_last HN.out Hla.out
        have hm : la ∈ c := opens_mem (D := D) (by rw [h1]; simp)
        obtain ⟨⟨hv0, hv1⟩, hval⟩ := litOk_iff.1 (Hok.out la hm)
        have H1 := hid h1
        obtain ⟨lv, lw, ln⟩ := la
        dsimp only at hv0 hv1 hval f8
        obtain ⟨k, rfl⟩ := Int.eq_ofNat_of_zero_le hv0
        have Hval := hid hval
        have e8 : ∀ (q : GrW [] wr) j, q.val.cell? ⟨w.heap.size, j, none⟩ = #[.int .i64 (k : Int), .int .i64 lw, .bool ln][j]? := fun q => fld (q.gr.obj Hbl.out (by simp))
        have htr : ∀ q : GrW [] wr, Calls Tryz.prog 177 #[.agg #[.int .i64 (k : Int), .int .i64 lw, .bool ln]] q.val fun e w'' => e = .returned (.int .i64 ((litD ⟨(k : Int), lw, ln⟩ : Nat) : Int)) ∧ ∃ m : GrW [] wr, w'' = m.val := fun q =>
          Calls.gr_of ((trues_c ⟨(k : Int), lw, ln⟩ _ Hval.out).mono fun e w' h => h)
        have Htr := hid htr
        clear htr f8 h1 hval hv0
        go_wp2_with fail
        have f8 := fld Hbl.out
        have f8d := fld ((Gr.refl [] wr).drew.obj Hbl.out (by simp))
        go_region_law (first
          | (go_simp; go_at_call 177; refine (trues_c ⟨(k : Int), lw, ln⟩ _ Hval.out).mono ?_; rintro e w5 ⟨rfl, hg5⟩; have hgx : Gr [] wr w5 := Gr.trans (by first | exact (Gr.refl [] wr).drew | exact Gr.refl [] wr) hg5; have HGX := hid hgx; have fb5 := fld (hgx.obj Hbl.out (by simp)); clear hg5 hgx; (try dsimp only))
          | (go_simp; go_at_call 224; refine (limited_c D k _ _ _ (Hd.out.gr (Hg.out.trans HGX.out)) (by omega) hl.2 H64.out (litD_lt ⟨(k : Int), lw, ln⟩ Hval.out)).mono ?_; rintro e w6 ⟨v6, rfl, ho6, hg6⟩; have HO6 := hid ho6; have HG6 := hid hg6; clear ho6 hg6; (try dsimp only)))
        all_goals
          go_wp2_with fail
          go_ret
          refine ⟨_, rfl, ?_, Hg.out.trans (HGX.out.trans HG6.out)⟩
          rw [unitF_1 H1.out]
          exact HO6.out.le (Nat.le_trans Hg.out.size HGX.out.size)
      · have t0 : ((N : Int) == 0) = false := by rw [beq_eq_false_iff_ne]; omega
        have t1 : ((N : Int) == 1) = false := by rw [beq_eq_false_iff_ne]; omega
        go_wp2_with fail
        have hcall := copied_c _ (ints D) _ (Hd.out.gr Hg.out) (by rw [ints_len]; omega)
        (with_reducible refine hcall.mono ?_)
        clear hcall
        rintro e w5 ⟨v5, rfl, ho5, hg5⟩
        go_wp2_with fail
        go_ret
        refine ⟨_, rfl, ?_, Hg.out.trans hg5⟩
        rw [unitF_2 (by rw [HN.out]; exact h2)]
        exact ho5.le Hg.out.size
end Go.Proofs.YtlekngkcifgonaaGreat
