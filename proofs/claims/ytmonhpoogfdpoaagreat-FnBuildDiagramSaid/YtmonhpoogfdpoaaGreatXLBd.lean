/-
  Walk of FnBuildDiagram.
-/
import Derived.Test.YtmonhpoogfdpoaaGreatXRh
import Derived.Test.YtmonhpoogfdpoaaGreatXRg
import Derived.Test.YtmonhpoogfdpoaaGreatXBy
import Derived.Test.YtmonhpoogfdpoaaGreatXSk
set_option linter.unusedVariables false
set_option linter.unusedSimpArgs false
namespace Go.Proofs.YtmonhpoogfdpoaaGreat
open Go.RowKit

/-- The domains while the others are set to one value. -/
def oneN (c : Con) (D : List Nat) (n : Nat) : List Nat := (oneD c D).take n ++ D.drop n
theorem oneN_get {c : Con} {D : List Nat} {n d : Nat} (h : D[n]? = some d) : (oneN c D n)[n]? = some d := by
  have hl := (List.getElem?_eq_some_iff.1 h).1
  unfold oneN
  rw [List.getElem?_append_right (by rw [List.length_take, oneD_len]; omega), List.length_take, oneD_len, Nat.min_eq_left (by omega), Nat.sub_self, List.getElem?_drop]
  simpa using h
theorem oneN_succ {c : Con} {D : List Nat} {n d : Nat} (h : D[n]? = some d) : oneN c D (n + 1) = (oneN c D n).set n (if (n : Int) ∈ c.vars then d else 1) := by
  have hl := (List.getElem?_eq_some_iff.1 h).1
  have hg := oneD_get (c := c) hl
  have hd : D.getD n 0 = d := by simp [List.getD_eq_getElem?_getD, h]
  rw [hd] at hg
  unfold oneN
  rw [List.take_add_one, hg]
  have e1 : D.drop n = d :: D.drop (n + 1) := by
    rw [List.drop_eq_getElem_cons hl]
    congr 1
    exact (List.getElem?_eq_some_iff.1 h).2
  have e2 : ((oneD c D).take n).length = n := by rw [List.length_take, oneD_len]; omega
  rw [e1, List.set_append, if_neg (show ¬ n < ((oneD c D).take n).length by rw [e2]; omega), e2, Nat.sub_self]
  simp
theorem oneN_all (c : Con) (D : List Nat) : oneN c D D.length = oneD c D := by
  unfold oneN
  rw [List.drop_length, List.append_nil, List.take_of_length_le (by rw [oneD_len]; exact Nat.le_refl _)]

theorem consV_one {W : World} {c : Con} {nb : Nat} {kv vv av bv rv : Value} (h : W.heap[nb]? = some (.cells #[kv, vv, av, bv, rv] 26 (0, 0))) (hc : ConV [] W (.agg #[kv, vv, av, bv, rv]) c) : ConsV [] W (.slice (some ⟨nb, 0, none⟩) 1 1) [c] := by
  obtain ⟨v1, v2, v3, e, h1, h2, h3⟩ := hc
  simp only [Value.agg.injEq, Array.mk.injEq, List.cons.injEq, and_true] at e
  obtain ⟨rfl, rfl, rfl, rfl, rfl⟩ := e
  refine ⟨some ⟨nb, 0, none⟩, 1, rfl, by simp, fun i c' hi => ?_⟩
  match i, hi with
  | 0, hi =>
    simp at hi
    subst hi
    exact ⟨nb, 0, _, _, _, rfl, by simp, ⟨by simp [World.cell?, h], by simp [World.cell?, h], by simp [World.cell?, h], by simp [World.cell?, h], by simp [World.cell?, h]⟩, h1, h2, h3⟩
  | i + 1, hi => simp at hi
theorem domsP_len' : ∀ (d : List (List (List Int))) (met : List Int), (domsP d met).length = d.length
  | [], _ => rfl
  | l :: r, met => by rw [domsP, List.length_cons, domsP_len' r, List.length_cons]
theorem domsP_len {n : Nat} (layer : List SS) (met : List Int) : (domsP (dgm n layer) met).length = n := by rw [domsP_len', dgm_len]

set_option maxRecDepth 100000 in
set_option maxHeartbeats 8000000 in
theorem FnBuildDiagram_c (v : Value) (bs : List Int) (ao : Option Addr) (cap : Nat) (w : World) (hv : v = .slice ao bs.length cap) (hlen : bs.length ≤ 9223372036854775807) (hcap : bs.length ≤ cap) (hc : Cells [] w .u8 ao bs) (hb : ∀ b ∈ bs, 0 ≤ b ∧ b ≤ 255) :
    Calls Tryz.prog 3 #[v] w fun e w' => e = .returned (.bool true) ∧ Gr [] w w' := by
  subst hv
  have Hc := hid hc; have Hb := hid hb; clear hc hb
  by_cases hbig : 1048576 < bs.length
  · go_enter Tryz.func3, Tryz.ntmps3
    go_wp2_with fail
    go_ret
    exact ⟨rfl, Gr.refl _ _⟩
  have hbig' : decide ((1048576 : Int) < (bs.length : Int)) = false := by simp; omega
  go_enter Tryz.func3, Tryz.ntmps3
  go_wp2_with fail
  have hcall := DrawBuildDiagram_c _ bs w ao cap rfl hlen hcap Hc.out Hb.out
  (with_reducible refine hcall.mono ?_)
  clear hcall
  rintro e w1 ⟨c, cv, dv, ds, rfl, hcon, hdn, hsm, ⟨hd1, hd4⟩, hg1⟩
  obtain ⟨vo, vc, xo, xc, ro, rc, rfl⟩ := hcon.slices
  have ha2 : Gr [] w1 (w1.alloc (.cells #[.int .i64 c.kind, .slice vo c.vars.length vc, .slice xo c.args.length xc, .int .i64 c.bound, .slice ro c.rows.length rc] 26)) := (Gr.refl _ _).alloc _
  have hb2 := heap_alloc_new w1 (.cells #[.int .i64 c.kind, .slice vo c.vars.length vc, .slice xo c.args.length xc, .int .i64 c.bound, .slice ro c.rows.length rc] 26)
  have HG2 := hid (hg1.trans ha2); have Hcon2 := hid (hcon.gr ha2); have Hsm := hid hsm; have Hb2 := hid hb2; have Hdn2 := hid (hdn.gr ha2)
  obtain ⟨dO, dc, rfl, ⟨hdd1, hdd2, -⟩, -⟩ := hdn
  have fb2 := fld hb2
  clear hcon hsm ha2 hb2 hg1 hbig
  obtain ⟨D, hD⟩ : ∃ D, domsOk ds = true → ds = ints D ∧ Below64 D := by
    by_cases h : domsOk ds = true
    · have h' := h
      unfold domsOk at h'
      rw [Bool.and_eq_true] at h'
      obtain ⟨D, h1, h2⟩ := ints_below (allB_iff.1 h'.2)
      exact ⟨D, fun _ => ⟨h1, h2⟩⟩
    · exact ⟨[], fun h' => absurd h' h⟩
  have HD := hid hD; clear hD
  go_wp2_with fail
  generalize hW2 : w1.alloc (.cells #[.int .i64 c.kind, .slice vo c.vars.length vc, .slice xo c.args.length xc, .int .i64 c.bound, .slice ro c.rows.length rc] 26) = w2 at *
  clear hW2
  have hcall := BuildDiagram_c c ds D _ _ _ Hcon2.out Hdn2.out HD.out
  (with_reducible refine hcall.mono ?_)
  clear hcall
  rintro e w3 ⟨v3, rfl, hd3, hg3⟩
  obtain ⟨B, hB⟩ : ∃ B, B = bldD c ds D := ⟨_, rfl⟩
  rw [← hB] at hd3
  have HB := hid hB
  obtain ⟨bo, bc, rfl, ⟨hbl1, hbl2, -⟩, -⟩ := id hd3
  have Hd3 := hid hd3; have HG3 := hid (HG2.out.trans hg3); have Hb3 := hid (hg3.obj Hb2.out (by simp))
  have Hcon3 := hid (Hcon2.out.gr hg3); have Hdn3 := hid (Hdn2.out.gr hg3)
  have fb3 := fld Hb3.out
  clear hd3 hB hg3 fb2
  go_wp2_with fail
  have hcall := specBuildDiagram_c c ds D _ _ _ Hcon3.out Hdn3.out Hsm.out.vars HD.out
  (with_reducible refine hcall.mono ?_)
  clear hcall
  rw [← HB.out]
  rintro e w4 ⟨v4, rfl, hs4, hg4⟩
  obtain ⟨so, sc, rfl, -, -⟩ := id hs4
  have Hs4 := hid hs4; have HG4 := hid (HG3.out.trans hg4); have Hb4 := hid (hg4.obj Hb3.out (by simp)); have Hd4 := hid (Hd3.out.gr hg4)
  have Hcon4 := hid (Hcon3.out.gr hg4); have Hdn4 := hid (Hdn3.out.gr hg4)
  clear hs4 hg4 fb3
  go_wp2_with fail
  have hcall := equalDiagramsT_c B _ _ _ Hd4.out Hs4.out
  (with_reducible refine hcall.mono ?_)
  clear hcall
  rintro e w5 ⟨rfl, hg5⟩
  have HG5 := hid (HG4.out.trans hg5); have Hb5 := hid (hg5.obj Hb4.out (by simp)); have Hd5 := hid (Hd4.out.gr hg5)
  have Hcon5 := hid (Hcon4.out.gr hg5); have Hdn5 := hid (Hdn4.out.gr hg5)
  have fb5 := fld Hb5.out
  clear hg5
  by_cases hB0 : B = []
  · have hBl : (B.length : Int) = 0 := by rw [hB0]; rfl
    have hBe : ((B.length : Int) == 0) = true := by rw [hBl]; rfl
    clear hB0
    go_wp2_with fail
    have hcall := specBuildDiagram_c c ds D _ _ _ Hcon5.out Hdn5.out Hsm.out.vars HD.out
    (with_reducible refine hcall.mono ?_)
    clear hcall
    rw [← HB.out]
    rintro e w6 ⟨v6, rfl, hs6, hg6⟩
    obtain ⟨so, sc, rfl, -, -⟩ := id hs6
    have Hs6 := hid hs6; have Hg6 := hid hg6
    clear hs6 hg6 fb5
    go_wp2_with fail
    have hcall := equalDiagramsT_c B _ _ _ (Hd5.out.gr Hg6.out) Hs6.out
    (with_reducible refine hcall.mono ?_)
    clear hcall
    rintro e w7 ⟨rfl, hg7⟩
    go_wp2_with fail
    go_ret
    exact ⟨rfl, (HG5.out.trans Hg6.out).trans hg7⟩
  have hBe : ((B.length : Int) == 0) = false := by
    have := List.length_pos_iff.2 hB0
    simp; exact hB0
  have hall : (domsOk ds && validCon c ds.length) = true ∧ tupC c D ≠ [] := by
    have hq := HB.out
    unfold bldD at hq
    cases hv : (domsOk ds && validCon c ds.length)
    · rw [hv] at hq; exact absurd hq hB0
    · rw [hv] at hq
      refine ⟨rfl, fun h0 => ?_⟩
      rw [if_pos rfl, if_pos h0] at hq
      exact hB0 hq
  have hBd : B = dgm c.vars.length [tupC c D] := by
    rw [HB.out]; unfold bldD
    rw [hall.1, if_pos rfl, if_neg hall.2]
  obtain ⟨hvv, ht0⟩ := hall
  rw [Bool.and_eq_true] at hvv
  obtain ⟨hok, hvc⟩ := hvv
  obtain ⟨rfl, hb64⟩ := HD.out hok
  have hdl := ints_len D
  rw [hdl] at hd1 hd4 hdd1 hvc Hdn5 ⊢
  have hVC : VC c D.length := validCon_iff.1 hvc
  have HVC := hid hVC; have HVc := hid hvc; have HOK := hid hok; have H64 := hid hb64; have HBd := hid hBd; have HT0 := hid ht0
  have hk4 : 1 ≤ c.vars.length ∧ c.vars.length ≤ 4 := by have := hVC.k; have := hVC.n4; omega
  have hVD : ValD B := by rw [hBd]; exact dgm_val (tupC_good c D) ht0 hk4
  have HVD := hid hVD
  clear hB0 hok hvc hb64 hVC hBd ht0 hVD hdl HD
  have hn5 := Hdn5.out
  have hown0 : Own w5.heap.size (w5.alloc (.cells #[] 3)) 3 (.slice (some ⟨w5.heap.size, 0, none⟩) 0 0) [] := Own.empty w5 _ (Nat.le_refl _)
  go_wp2_with (at_builtin; refine wp_appN rfl _ _ 23 rfl w5.heap.size 3 infoInt Tryz.underlying23 _ [] (ints D) rfl hown0 _ [] rfl (hn5.gr ((Gr.refl _ _).alloc _)) (by simp [ints_len]; omega) (by simp) ?_; intro v6 w6 hown6 hbel6)
  rw [List.nil_append] at hown6
  have hg6 : Gr [] w5 w6 := ((Gr.refl [] w5).alloc _).low hbel6 (Nat.le_refl _)
  obtain ⟨g, gc, rfl, ⟨hgB, hgl⟩, -, -⟩ := hown6.open (by rw [ints_len]; omega)
  have hdl := ints_len D
  have ho6 := hown6.c
  rw [hdl] at ho6 ⊢
  have HO0 := hid ho6; have Hg6 := hid hg6
  clear hown6 hbel6 hg6 hdl ho6 hn5 hown0 fb5
  obtain ⟨vv, av, rv, e1, nv, -, -⟩ := id Hcon5.out
  simp only [Value.agg.injEq, Array.mk.injEq, List.cons.injEq, and_true, true_and] at e1
  obtain ⟨rfl, rfl, rfl⟩ := e1
  have Hnv := hid nv
  clear nv
  go_wp2_with fail
  go_loopw [7] (fun u wr => ∃ n : Nat, n ≤ D.length ∧ u = .int .i64 n ∧ OwnC w5.heap.size wr 3 (.slice (some ⟨g, 0, none⟩) D.length gc) (ints (oneN c D n)) ∧ Gr [] w5 wr) (fun u _ => D.length - (intOf u).toNat)
  case atStart => exact ⟨0, by omega, rfl, by simpa [oneN] using HO0.out, Hg6.out⟩
  case round =>
    obtain ⟨n, hn, rfl, hown, hgr⟩ := hrel
    have Hown := hid hown; have Hgr := hid hgr
    have fbr := fld (hgr.obj Hb5.out (by simp))
    clear hown
    by_cases hlt : n < D.length
    · obtain ⟨dd, hdd⟩ := get_some hlt
      have hsc := oneN_succ (c := c) hdd
      have Hsc := hid hsc
      have hog := oneN_get (c := c) hdd
      obtain ⟨hc1, hc2⟩ := OwnC.at Hown.out (i := n) (x := (dd : Int)) (by rw [ints_get, hog]; rfl)
      have hset0 : (oneN c D n).set n dd = oneN c D n := by
        refine List.ext_getElem? fun j => ?_
        rw [List.getElem?_set]
        by_cases hj : n = j
        · subst hj
          have := (List.getElem?_eq_some_iff.1 hog).1
          rw [if_pos rfl, if_pos this, hog]
        · rw [if_neg hj]
      have Hset0 := hid hset0
      clear hdd hsc hog hset0
      go_wp2_with fail
      have hcall := lawContainsD_c c.vars (n : Int) _ wr (Hnv.out.gr hgr)
      (with_reducible refine hcall.mono ?_)
      clear hcall
      rintro e w7 ⟨rfl, hw7⟩
      subst hw7
      clear fbr
      by_cases hm : (n : Int) ∈ c.vars
      · have hmb : memB (n : Int) c.vars = true := decide_eq_true hm
        rw [if_pos hm, Hset0.out] at Hsc
        rw [hmb]
        clear hm
        go_wp2_with fail
        exact ⟨⟨n + 1, by omega, by go_num, by rw [Hsc.out]; exact Hown.out, Hgr.out⟩, by simp [intOf]; omega⟩
      · have hmb : memB (n : Int) c.vars = false := decide_eq_false hm
        rw [if_neg hm] at Hsc
        rw [hmb]
        clear hm
        go_wp2_with fail
        refine ⟨⟨n + 1, by omega, by go_num, ?_, Hgr.out.setCell _ _ (.inr hgB)⟩, by simp [intOf]; omega⟩
        rw [Hsc.out, ints_set]
        exact OwnC.set Hown.out n 1
    · have hne : n = D.length := by omega
      subst hne
      have hown := Hown.out
      rw [oneN_all] at hown
      have HOwn := hid hown
      clear hown
      go_wp2_with fail
      have hg5r := Hgr.out
      have hcall := Filter_c c D _ _ wr (Hcon5.out.gr hg5r) (Hdn5.out.gr hg5r) HOK.out HVc.out H64.out
      (with_reducible refine hcall.mono ?_)
      clear hcall
      rintro e w7 ⟨v7, rfl, hf7, hg7⟩
      have hflen : (ints (filt c D)).length = D.length := by rw [ints_len]; exact filt_len c D
      obtain ⟨fo, fc, rfl, ⟨hf1, hf2, -⟩, -⟩ := id hf7
      rw [hflen] at hf7 hf1 ⊢
      have Hf7 := hid hf7; have HG57 := hid (hg5r.trans hg7); have HO7 := hid (HOwn.out.gr hg7 (by simp))
      clear hf7 hg7 hg5r fbr hgr hflen
      go_wp2_with fail
      have hcall := DiagramDomains_c B _ _ (Hd5.out.gr HG57.out) HVD.out
      (with_reducible refine hcall.mono ?_)
      clear hcall
      rintro e w8 ⟨v8, rfl, hv8, hg8⟩
      have hvl : (ints (domsP B [0])).length = c.vars.length := by
        rw [ints_len, HBd.out]
        exact domsP_len _ _
      obtain ⟨uo, uc, rfl, ⟨hu1, hu2, -⟩, -⟩ := id hv8
      rw [hvl] at hv8 hu1 ⊢
      have Hv8 := hid hv8; have HG58 := hid (HG57.out.trans hg8); have HO8 := hid (HO7.out.gr hg8 (by simp)); have Hf8 := hid (Hf7.out.gr hg8)
      have hfb8 := fld ((HG57.out.trans hg8).obj Hb5.out (by simp))
      clear hv8 hg8 hvl
      go_wp2_with fail
      clear hfb8
      go_loopw [10] (fun u wr => ∃ i : Nat, i ≤ c.vars.length ∧ u = .int .i64 i ∧ Gr [] w8 wr) (fun u _ => c.vars.length - (intOf u).toNat)
      case atStart => exact ⟨0, by omega, rfl, Gr.refl _ _⟩
      case round =>
        obtain ⟨i, hi, rfl, hg8⟩ := hrel
        have Hg8 := hid hg8
        have hfb := fld ((HG58.out.trans hg8).obj Hb5.out (by simp))
        by_cases hil : i < c.vars.length
        · obtain ⟨vx, hvx⟩ := get_some hil
          have hvr := HVC.out.rng vx (List.mem_of_getElem? hvx)
          obtain ⟨vn, rfl⟩ := Int.eq_ofNat_of_zero_le hvr.1
          have hvn : vn < D.length := by have := hvr.2; omega
          obtain ⟨y, hy⟩ := get_some (xs := filt c D) (k := vn) (by rw [filt_len]; exact hvn)
          have hdf := domsP_filt HVC.out HT0.out hvx
          rw [← HBd.out, Int.toNat_natCast, show (filt c D).getD vn 0 = y by simp [List.getD_eq_getElem?_getD, hy]] at hdf
          obtain ⟨b1, o1, rfl, -, hc1⟩ := (Hnv.out.gr (HG58.out.trans hg8)).at hvx
          obtain ⟨b2, o2, rfl, -, hc2⟩ := (Hv8.out.gr hg8).at (i := i) (x := (y : Int)) (by rw [ints_get, hdf]; rfl)
          obtain ⟨b3, o3, rfl, -, hc3⟩ := (Hf8.out.gr hg8).at (i := vn) (x := (y : Int)) (by rw [ints_get, hy]; rfl)
          have hvni : (vn : Int) < (D.length : Int) := by omega
          clear hvx hvr hy hdf hg8
          go_wp2_with fail
          go_quiet (fail)
          go_wp2_with fail
          exact ⟨⟨i + 1, by omega, by go_num, Hg8.out.drewN _⟩, by simp [intOf]; omega⟩
        · have HG5r := hid (HG58.out.trans hg8)
          have HVM : Hid (VM ⟨ints (oneD c D), [c]⟩ (oneD c D)) := hid ⟨rfl, by rw [oneD_len]; exact ⟨hd1, hd4⟩, oneD_below H64.out, fun d hd => by simp at hd; subst hd; rw [oneD_len]; exact HVC.out, by simp⟩
          have HCt : Hid (countI ⟨ints (oneD c D), [c]⟩ (oneD c D) = ((tupC c D).length : Int)) := hid (by
            unfold countI
            rw [if_pos HVM.out.valid, count_one HVC.out])
          have HPc : Hid (((pathsP B).headD [])[0]? = some (tupC c D).length) := hid (by
            have hok : LayOk c.vars.length [tupC c D] := layS_ok (tupC_good c D) HT0.out 0 (by omega)
            rw [HBd.out, pathsP_dgm _ _ hok]; rfl)
          go_wp2_with fail
          refine wp_region_held_drew (S := (fun W => Gr [] wr W ∧ ∀ j, W.cell? ⟨w1.heap.size, j, none⟩ = #[Value.int .i64 c.kind, .slice vo c.vars.length vc, .slice xo c.args.length xc, .int .i64 c.bound, .slice ro c.rows.length rc][j]?)) (by kernel_rfl) ?_ (fun hHeld => ?_)
          · exact ⟨(Gr.refl _ _).drew, hfb⟩
          refine wpAnyH_take (i := 0) (v := ?_) rfl (by kernel_rfl) (by kernel_rfl) (by kernel_rfl) (fun _ _ _ h => h) (Or.inl ⟨by rfl, ?_⟩) (by assumption) ?_
          rotate_left
          · intro Wx hSw; (try dsimp only at hSw); go_simp; (try with_reducible rfl)
          try simp only [Act.put, List.setIfInBounds_toArray, List.set_cons_zero, List.set_cons_succ, List.getElem_toArray, List.getElem_cons_zero, List.getElem_cons_succ]
          refine wpAnyH_ready (rs := [1]) (by kernel_rfl) (by simp) ?_
          refine AllReadyH.cons rfl (fun Kx hKx => ?_) AllReadyH.nil
          go_simp; refine (ValidDiagram_c B _ _ (Hd5.out.gr (HG5r.out.trans hHeld.1)) HVD.out).mono ?_; rintro e wa ⟨rfl, hga⟩; have Hga := hid (hHeld.1.trans hga); clear hga hHeld; (try dsimp only)
          refine hKx.out _ _ ?_ (fun hHeld => ?_)
          · (try dsimp only); (exact ⟨Hga.out, fld ((HG5r.out.trans Hga.out).obj Hb5.out (by simp))⟩)
          clear hKx Kx
          try simp only [Act.put, List.setIfInBounds_toArray, List.set_cons_zero, List.set_cons_succ, List.getElem_toArray, List.getElem_cons_zero, List.getElem_cons_succ]
          refine wpAnyH_take (i := 2) (v := ?_) rfl (by kernel_rfl) (by kernel_rfl) (by kernel_rfl) (fun _ _ _ h => h) (Or.inl ⟨by rfl, ?_⟩) (by assumption) ?_
          rotate_left
          · intro Wx hSw; (try dsimp only at hSw); go_simp; (try with_reducible rfl)
          try simp only [Act.put, List.setIfInBounds_toArray, List.set_cons_zero, List.set_cons_succ, List.getElem_toArray, List.getElem_cons_zero, List.getElem_cons_succ]
          refine wpAnyH_take (i := 3) (v := ?_) rfl (by kernel_rfl) (by kernel_rfl) (by kernel_rfl) (fun _ _ _ h => h) (Or.inl ⟨by rfl, ?_⟩) (by assumption) ?_
          rotate_left
          · intro Wx hSw; (try dsimp only at hSw); go_simp; (try with_reducible rfl)
          try simp only [Act.put, List.setIfInBounds_toArray, List.set_cons_zero, List.set_cons_succ, List.getElem_toArray, List.getElem_cons_zero, List.getElem_cons_succ]
          refine wpAnyH_take (i := 5) (v := ?_) rfl (by kernel_rfl) (by kernel_rfl) (by kernel_rfl) (fun _ _ _ h => h) (Or.inl ⟨by rfl, ?_⟩) (by assumption) ?_
          rotate_left
          · intro Wx hSw; (try dsimp only at hSw); go_simp; (try with_reducible rfl)
          try simp only [Act.put, List.setIfInBounds_toArray, List.set_cons_zero, List.set_cons_succ, List.getElem_toArray, List.getElem_cons_zero, List.getElem_cons_succ]
          refine wpAnyH_take (i := 6) (v := ?_) rfl (by kernel_rfl) (by kernel_rfl) (by kernel_rfl) (fun _ _ _ h => h) (Or.inl ⟨by rfl, ?_⟩) (by assumption) ?_
          rotate_left
          · intro Wx hSw; (try dsimp only at hSw); go_simp; (try with_reducible rfl)
          try simp only [Act.put, List.setIfInBounds_toArray, List.set_cons_zero, List.set_cons_succ, List.getElem_toArray, List.getElem_cons_zero, List.getElem_cons_succ]
          refine wpAnyH_ready (rs := [4, 7]) (by kernel_rfl) (by simp) ?_
          refine AllReadyH.cons rfl (fun Kx hKx => ?_) (AllReadyH.cons rfl (fun Kx hKx => ?_) AllReadyH.nil)
          · go_simp; refine (DiagramCount_c B _ (tupC c D).length _ (Hd5.out.gr (HG5r.out.trans Hga.out)) HVD.out HPc.out).mono ?_; rintro e wb ⟨rfl, hgb⟩; have Hgb := hid (Gr.trans (Hga.out) hgb); have Hgb1 := hid hgb; clear hgb; (try dsimp only)
            refine hKx.out _ _ ?_ (fun hHeld => ?_)
            · (try dsimp only); (exact ⟨Hgb.out, fld ((HG5r.out.trans Hgb.out).obj Hb5.out (by simp))⟩)
            clear hKx Kx
            try simp only [Act.put, List.setIfInBounds_toArray, List.set_cons_zero, List.set_cons_succ, List.getElem_toArray, List.getElem_cons_zero, List.getElem_cons_succ]
            refine wpAnyH_ready (rs := [7]) (by kernel_rfl) (by simp) ?_
            refine AllReadyH.cons rfl (fun Kx hKx => ?_) AllReadyH.nil
            go_simp
            refine hKx.out _ _ ?_ (fun hHeld => ?_)
            · (try dsimp only); (exact ⟨(Hgb.out.alloc _), fld ((HG5r.out.trans (Hgb.out.alloc _)).obj Hb5.out (by simp))⟩)
            clear hKx Kx
            try simp only [Act.put, List.setIfInBounds_toArray, List.set_cons_zero, List.set_cons_succ, List.getElem_toArray, List.getElem_cons_zero, List.getElem_cons_succ]
            refine wpAnyH_take (i := 8) (v := ?_) rfl (by kernel_rfl) (by kernel_rfl) (by kernel_rfl) (fun _ _ _ h => h) (Or.inl ⟨by rfl, ?_⟩) (by assumption) ?_
            rotate_left
            · intro Wx hSw; (try dsimp only at hSw); go_simp; (try with_reducible rfl)
            try simp only [Act.put, List.setIfInBounds_toArray, List.set_cons_zero, List.set_cons_succ, List.getElem_toArray, List.getElem_cons_zero, List.getElem_cons_succ]
            refine wpAnyH_ready (rs := [9]) (by kernel_rfl) (by simp) ?_
            refine AllReadyH.cons rfl (fun Kx hKx => ?_) AllReadyH.nil
            have HMV : Hid (ModV [] (wb.alloc (.cells #[.int .i64 c.kind, .slice vo c.vars.length vc, .slice xo c.args.length xc, .int .i64 c.bound, .slice ro c.rows.length rc] 26)) (.agg #[.slice (some ⟨g, 0, none⟩) D.length gc, .slice (some ⟨wb.heap.size, 0, none⟩) 1 1]) ⟨ints (oneD c D), [c]⟩) := hid ⟨_, _, rfl, (OwnC.nums' ((HO8.out.gr hg8 (by simp)).gr ((Hgb.out.alloc _)) (by simp)) (by simp)), consV_one (heap_alloc_new wb _) (Hcon5.out.gr (HG5r.out.trans ((Hgb.out.alloc _))))⟩
            go_simp; refine (CountSolutions_c _ _ _ HMV.out (oneD c D) (fun _ => HVM.out)).mono ?_; rw [HCt.out]; rintro e wd ⟨rfl, hgd⟩; have Hgd := hid (Gr.trans ((Hgb.out.alloc _)) hgd); clear hgd; (try dsimp only)
            refine hKx.out _ _ ?_ (fun hHeld => ?_)
            · (try dsimp only); (exact ⟨Hgd.out, fld ((HG5r.out.trans Hgd.out).obj Hb5.out (by simp))⟩)
            clear hKx Kx
            try simp only [Act.put, List.setIfInBounds_toArray, List.set_cons_zero, List.set_cons_succ, List.getElem_toArray, List.getElem_cons_zero, List.getElem_cons_succ]
            refine wpAnyH_take (i := 10) (v := ?_) rfl (by kernel_rfl) (by kernel_rfl) (by kernel_rfl) (fun _ _ _ h => h) (Or.inl ⟨by rfl, ?_⟩) (by assumption) ?_
            rotate_left
            · intro Wx hSw; (try dsimp only at hSw); go_simp; (try with_reducible rfl)
            try simp only [Act.put, List.setIfInBounds_toArray, List.set_cons_zero, List.set_cons_succ, List.getElem_toArray, List.getElem_cons_zero, List.getElem_cons_succ]
            refine wpAnyH_take (i := 11) (v := ?_) rfl (by kernel_rfl) (by kernel_rfl) (by kernel_rfl) (fun _ _ _ h => h) (Or.inl ⟨by rfl, ?_⟩) (by assumption) ?_
            rotate_left
            · intro Wx hSw; (try dsimp only at hSw); go_simp; (try with_reducible rfl)
            try simp only [Act.put, List.setIfInBounds_toArray, List.set_cons_zero, List.set_cons_succ, List.getElem_toArray, List.getElem_cons_zero, List.getElem_cons_succ]
            refine wpAnyH_take (i := 12) (v := ?_) rfl (by kernel_rfl) (by kernel_rfl) (by kernel_rfl) (fun _ _ _ h => h) (Or.inl ⟨by rfl, ?_⟩) (by assumption) ?_
            rotate_left
            · intro Wx hSw; (try dsimp only at hSw); go_simp; (try with_reducible rfl)
            try simp only [Act.put, List.setIfInBounds_toArray, List.set_cons_zero, List.set_cons_succ, List.getElem_toArray, List.getElem_cons_zero, List.getElem_cons_succ]
            refine wpAnyH_done (by kernel_rfl) ?_ _
            go_wp2_with fail
            go_ret
            exact ⟨rfl, (HG5.out.trans HG5r.out).trans Hgd.out⟩
          · go_simp
            refine hKx.out _ _ ?_ (fun hHeld => ?_)
            · (try dsimp only); (exact ⟨(Hga.out.alloc _), fld ((HG5r.out.trans (Hga.out.alloc _)).obj Hb5.out (by simp))⟩)
            clear hKx Kx
            try simp only [Act.put, List.setIfInBounds_toArray, List.set_cons_zero, List.set_cons_succ, List.getElem_toArray, List.getElem_cons_zero, List.getElem_cons_succ]
            refine wpAnyH_take (i := 8) (v := ?_) rfl (by kernel_rfl) (by kernel_rfl) (by kernel_rfl) (fun _ _ _ h => h) (Or.inl ⟨by rfl, ?_⟩) (by assumption) ?_
            rotate_left
            · intro Wx hSw; (try dsimp only at hSw); go_simp; (try with_reducible rfl)
            try simp only [Act.put, List.setIfInBounds_toArray, List.set_cons_zero, List.set_cons_succ, List.getElem_toArray, List.getElem_cons_zero, List.getElem_cons_succ]
            refine wpAnyH_ready (rs := [4]) (by kernel_rfl) (by simp) ?_
            refine AllReadyH.cons rfl (fun Kx hKx => ?_) AllReadyH.nil
            go_simp; refine (DiagramCount_c B _ (tupC c D).length _ (Hd5.out.gr (HG5r.out.trans (Hga.out.alloc _))) HVD.out HPc.out).mono ?_; rintro e wb ⟨rfl, hgb⟩; have Hgb := hid (Gr.trans ((Hga.out.alloc _)) hgb); have Hgb1 := hid hgb; clear hgb; (try dsimp only)
            refine hKx.out _ _ ?_ (fun hHeld => ?_)
            · (try dsimp only); (exact ⟨Hgb.out, fld ((HG5r.out.trans Hgb.out).obj Hb5.out (by simp))⟩)
            clear hKx Kx
            try simp only [Act.put, List.setIfInBounds_toArray, List.set_cons_zero, List.set_cons_succ, List.getElem_toArray, List.getElem_cons_zero, List.getElem_cons_succ]
            refine wpAnyH_ready (rs := [9]) (by kernel_rfl) (by simp) ?_
            refine AllReadyH.cons rfl (fun Kx hKx => ?_) AllReadyH.nil
            have HMV : Hid (ModV [] (wb) (.agg #[.slice (some ⟨g, 0, none⟩) D.length gc, .slice (some ⟨wa.heap.size, 0, none⟩) 1 1]) ⟨ints (oneD c D), [c]⟩) := hid ⟨_, _, rfl, (OwnC.nums' ((HO8.out.gr hg8 (by simp)).gr (Hgb.out) (by simp)) (by simp)), consV_one (Hgb1.out.obj (heap_alloc_new wa _) (by simp)) (Hcon5.out.gr (HG5r.out.trans (Hgb.out)))⟩
            go_simp; refine (CountSolutions_c _ _ _ HMV.out (oneD c D) (fun _ => HVM.out)).mono ?_; rw [HCt.out]; rintro e wd ⟨rfl, hgd⟩; have Hgd := hid (Gr.trans (Hgb.out) hgd); clear hgd; (try dsimp only)
            refine hKx.out _ _ ?_ (fun hHeld => ?_)
            · (try dsimp only); (exact ⟨Hgd.out, fld ((HG5r.out.trans Hgd.out).obj Hb5.out (by simp))⟩)
            clear hKx Kx
            try simp only [Act.put, List.setIfInBounds_toArray, List.set_cons_zero, List.set_cons_succ, List.getElem_toArray, List.getElem_cons_zero, List.getElem_cons_succ]
            refine wpAnyH_take (i := 10) (v := ?_) rfl (by kernel_rfl) (by kernel_rfl) (by kernel_rfl) (fun _ _ _ h => h) (Or.inl ⟨by rfl, ?_⟩) (by assumption) ?_
            rotate_left
            · intro Wx hSw; (try dsimp only at hSw); go_simp; (try with_reducible rfl)
            try simp only [Act.put, List.setIfInBounds_toArray, List.set_cons_zero, List.set_cons_succ, List.getElem_toArray, List.getElem_cons_zero, List.getElem_cons_succ]
            refine wpAnyH_take (i := 11) (v := ?_) rfl (by kernel_rfl) (by kernel_rfl) (by kernel_rfl) (fun _ _ _ h => h) (Or.inl ⟨by rfl, ?_⟩) (by assumption) ?_
            rotate_left
            · intro Wx hSw; (try dsimp only at hSw); go_simp; (try with_reducible rfl)
            try simp only [Act.put, List.setIfInBounds_toArray, List.set_cons_zero, List.set_cons_succ, List.getElem_toArray, List.getElem_cons_zero, List.getElem_cons_succ]
            refine wpAnyH_take (i := 12) (v := ?_) rfl (by kernel_rfl) (by kernel_rfl) (by kernel_rfl) (fun _ _ _ h => h) (Or.inl ⟨by rfl, ?_⟩) (by assumption) ?_
            rotate_left
            · intro Wx hSw; (try dsimp only at hSw); go_simp; (try with_reducible rfl)
            try simp only [Act.put, List.setIfInBounds_toArray, List.set_cons_zero, List.set_cons_succ, List.getElem_toArray, List.getElem_cons_zero, List.getElem_cons_succ]
            refine wpAnyH_done (by kernel_rfl) ?_ _
            go_wp2_with fail
            go_ret
            exact ⟨rfl, (HG5.out.trans HG5r.out).trans Hgd.out⟩
end Go.Proofs.YtmonhpoogfdpoaaGreat
