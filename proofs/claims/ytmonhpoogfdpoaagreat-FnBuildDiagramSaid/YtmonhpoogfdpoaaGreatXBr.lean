/-
  Walk of the program's BuildDiagram.
-/
import Derived.Test.YtmonhpoogfdpoaaGreatXBo
import Derived.Test.YtmonhpoogfdpoaaGreatXBq
import Derived.Test.YtmonhpoogfdpoaaGreatXBf
import Derived.Test.YtmonhpoogfdpoaaGreatXCF
import Derived.Test.YtmonhpoogfdpoaaGreatXHJ
set_option linter.unusedVariables false
set_option linter.unusedSimpArgs false
namespace Go.Proofs.YtmonhpoogfdpoaaGreat
open Go.RowKit

/-- The diagram that both sides build. -/
def bldD (c : Con) (ds : List Int) (D : List Nat) : List (List (List Int)) :=
  if domsOk ds && validCon c ds.length then (if tupC c D = [] then [] else dgm c.vars.length [tupC c D]) else []
theorem DgV.nil (S : List Nat) (w : World) : DgV S w (.slice none 0 0) [] := ⟨none, 0, rfl, by simp, fun i r h => by simp at h⟩
theorem heap_two (w : World) (a b : Obj) : ((w.alloc a).alloc b).heap[w.heap.size + 1]? = some b := by
  have := heap_alloc_new (w.alloc a) b
  rwa [World.size_alloc] at this
theorem infoNd : (Tryz.prog.info? 77).map (fun i => (i.zero, i.size, i.bytes)) = some (some (.slice none 0 0), 1, 24) := by kernel_rfl
theorem infoMp : (Tryz.prog.info? 53).map (fun i => (i.zero, i.size, i.bytes)) = some (some (.map none), 1, 8) := by kernel_rfl

/-- The loop that lays the maps. -/
structure BrI (M : Nat) (obj : Value → Obj) (k : Nat) (mbs : List Nat) (lv : Value) (wx wr : World) : Prop where
  blk : wr.heap[M]? = some (obj lv)
  ow : OwnV 1 (M + 1) wr 53 lv (mbs.map fun m => [Value.map (some m)])
  ml : mbs.length = k
  mp : ∀ m ∈ mbs, M + 1 ≤ m ∧ wr.heap[m]? = some (.map #[] 0) ∧ lv.ownBlock ≠ some m
  nd : mbs.Nodup
  gr : Gr [M] wx wr
theorem lay_rep {n i : Nat} (h : i < n) : lay (List.replicate n []) i = [] := by
  unfold lay; rw [List.getElem?_replicate, if_pos h]; rfl
theorem compX_nil (p : MkP) (D : List Nat) (h : p.W = wordN p.c.vars D) : compX p [] = tupC p.c D := by
  unfold compX tupC
  rw [← h]; rfl

set_option maxRecDepth 100000 in
set_option maxHeartbeats 4000000 in
theorem BuildDiagram_c (c : Con) (ds : List Int) (D : List Nat) (cv dv0 : Value) (w : World) (hv : ConV [] w cv c) (hx : Nums [] w .i64 dv0 ds) (hD : domsOk ds = true → ds = ints D ∧ Below64 D) :
    Calls Tryz.prog 5 #[cv, dv0] w fun e w' => ∃ v, e = .returned v ∧ DgV [] w' v (bldD c ds D) ∧ Gr [] w w' := by
  have Hv := hid hv
  have Hx := hid hx
  obtain ⟨vv, av, rv, rfl, nv, na, nr⟩ := hv
  obtain ⟨vo, vc, rfl, ⟨hvl1, hvl2, -⟩, -⟩ := nv
  obtain ⟨ao, ac, rfl, -, -⟩ := na
  obtain ⟨ro, rc, rfl, -, -⟩ := nr
  obtain ⟨dO, dc, rfl, ⟨hd1, hd2, _⟩, _⟩ := hx
  have hb0 := heap_alloc_new w (.cells #[.int .i64 c.kind, .slice vo c.vars.length vc, .slice ao c.args.length ac, .int .i64 c.bound, .slice ro c.rows.length rc] 26)
  have hg0 : Gr [] w (w.alloc (.cells #[.int .i64 c.kind, .slice vo c.vars.length vc, .slice ao c.args.length ac, .int .i64 c.bound, .slice ro c.rows.length rc] 26)) := (Gr.refl _ _).alloc _
  have hfl := fld hb0
  have Hb0 := hid hb0; have Hg0 := hid hg0; have HD := hid hD
  clear hb0 hg0 hD
  go_enter Tryz.func5, Tryz.ntmps5
  go_wp2_with fail
  have hcall := domainsOk_c ds _ _ (Hx.out.gr Hg0.out)
  (with_reducible refine hcall.mono ?_)
  clear hcall
  rintro e w1 ⟨rfl, hg1⟩
  have hb1 := hg1.obj Hb0.out (by simp)
  have hfl1 := fld hb1
  have Hg1 := hid (Hg0.out.trans hg1); have HB1 := hid hb1
  clear hg1 hfl hb1
  cases hok : domsOk ds
  · go_wp2_with fail
    go_ret
    exact ⟨_, rfl, by unfold bldD; rw [hok]; exact DgV.nil _ _, Hg1.out⟩
  obtain ⟨rfl, hb64⟩ := HD.out hok
  have hn4 : 1 ≤ D.length ∧ D.length ≤ 4 := by
    unfold domsOk at hok
    rw [Bool.and_eq_true, inB_iff, ints_len] at hok
    omega
  have hdl := ints_len D
  rw [hdl] at hd1 ⊢
  rw [hdl] at Hx
  have HB64 := hid hb64
  have HOK := hid hok
  clear hok hb64 HD hdl
  go_wp2_with fail
  have hcall := ValidConstraint_c c (D.length : Int) _ _ (Hv.out.gr Hg1.out)
  (with_reducible refine hcall.mono ?_)
  clear hcall
  rintro e w2 ⟨rfl, hg2⟩
  have hb2 := hg2.obj HB1.out (by simp)
  have hg2' := Hg1.out.trans hg2
  obtain ⟨w1, rfl⟩ : ∃ w1, w1 = w2 := ⟨_, rfl⟩
  have fc1 := fld hb2
  have HB1 := hid hb2; have Hg1 := hid hg2'
  clear hg2 hg2' hfl1 hb2
  cases hvc : validCon c (D.length : Int)
  · go_wp2_with fail
    go_ret
    exact ⟨_, rfl, by unfold bldD; rw [HOK.out, ints_len, hvc]; exact DgV.nil _ _, Hg1.out⟩
  have hc : VC c D.length := validCon_iff.1 hvc
  have HC := hid hc
  have hl : 1 ≤ c.vars.length ∧ c.vars.length ≤ 4 := by have := hc.k; have := hc.n4; omega
  have HVC := hid hvc
  obtain ⟨n, hn⟩ : ∃ n, n = c.vars.length := ⟨_, rfl⟩
  have Hn := hid hn
  clear hc hvc hn
  have hwl : (ints (wordN c.vars D)).length = c.vars.length := by rw [ints_len, wordN_len]
  have hmk := fun W => run_make_row' (P := Tryz.prog) 49 77 (.slice none 0 0) 24 Tryz.underlying49 infoNd rfl .i64 .i64 c.vars.length (by omega) (by omega) W
  go_wp2_with fail
  go_cut [5] from 17 to 26 (fun mp wx => ∃ (wy : World) (M Nb : Nat) (dv : Value), wy = wx ∧ mp = .pointer (some ⟨M, 0, none⟩) ∧ wx.heap[M]? = some (.cells #[.int .i64 c.kind, .slice vo c.vars.length vc, .slice ao c.args.length ac, .int .i64 c.bound, .slice ro c.rows.length rc, dv, .slice none 0 0, .slice (some ⟨Nb, 0, none⟩) c.vars.length c.vars.length] 52 (0, 0)) ∧ wx.heap[Nb]? = some (.cells (madeCells #[.slice none 0 0] c.vars.length) 77 (0, 0)) ∧
    (∀ S : List Nat, (∀ b ∈ S, b = Nb ∨ M ≤ b ∨ b < w1.heap.size) → Nums S wx .i64 dv (ints (wordN c.vars D))) ∧ (w1.heap.size ≤ Nb ∧ Nb < M ∧ wx.heap.size = M + 1) ∧ Gr [] w1 wx)
  case first =>
    refine wp_region_held_drew (S := (fun W => ∀ j, W.cell? ⟨w.heap.size, j, none⟩ = #[Value.int .i64 c.kind, .slice vo c.vars.length vc, .slice ao c.args.length ac, .int .i64 c.bound, .slice ro c.rows.length rc][j]?)) (by kernel_rfl) ?_ (fun hHeld => ?_)
    · exact fc1
    refine wpAnyH_take (i := 0) (v := ?_) rfl (by kernel_rfl) (by kernel_rfl) (by kernel_rfl) (fun _ _ _ h => h) (Or.inl ⟨by rfl, ?_⟩) (by assumption) ?_
    rotate_left
    · intro Wx hSw; (try dsimp only at hSw); go_simp; (try with_reducible rfl)
    try simp only [Act.put, List.setIfInBounds_toArray, List.set_cons_zero, List.set_cons_succ, List.getElem_toArray, List.getElem_cons_zero, List.getElem_cons_succ]
    refine wpAnyH_take (i := 1) (v := ?_) rfl (by kernel_rfl) (by kernel_rfl) (by kernel_rfl) (fun _ _ _ h => h) (Or.inl ⟨by rfl, ?_⟩) (by assumption) ?_
    rotate_left
    · intro Wx hSw; (try dsimp only at hSw); go_simp; (try with_reducible rfl)
    try simp only [Act.put, List.setIfInBounds_toArray, List.set_cons_zero, List.set_cons_succ, List.getElem_toArray, List.getElem_cons_zero, List.getElem_cons_succ]
    refine wpAnyH_take (i := 2) (v := ?_) rfl (by kernel_rfl) (by kernel_rfl) (by kernel_rfl) (fun _ _ _ h => h) (Or.inl ⟨by rfl, ?_⟩) (by assumption) ?_
    rotate_left
    · intro Wx hSw; (try dsimp only at hSw); go_simp; (try with_reducible rfl)
    try simp only [Act.put, List.setIfInBounds_toArray, List.set_cons_zero, List.set_cons_succ, List.getElem_toArray, List.getElem_cons_zero, List.getElem_cons_succ]
    refine wpAnyH_take (i := 4) (v := ?_) rfl (by kernel_rfl) (by kernel_rfl) (by kernel_rfl) (fun _ _ _ h => h) (Or.inl ⟨by rfl, ?_⟩) (by assumption) ?_
    rotate_left
    · intro Wx hSw; (try dsimp only at hSw); go_simp; (try with_reducible rfl)
    try simp only [Act.put, List.setIfInBounds_toArray, List.set_cons_zero, List.set_cons_succ, List.getElem_toArray, List.getElem_cons_zero, List.getElem_cons_succ]
    refine wpAnyH_take (i := 5) (v := ?_) rfl (by kernel_rfl) (by kernel_rfl) (by kernel_rfl) (fun _ _ _ h => h) (Or.inl ⟨by rfl, ?_⟩) (by assumption) ?_
    rotate_left
    · intro Wx hSw; (try dsimp only at hSw); go_simp; (try with_reducible rfl)
    try simp only [Act.put, List.setIfInBounds_toArray, List.set_cons_zero, List.set_cons_succ, List.getElem_toArray, List.getElem_cons_zero, List.getElem_cons_succ]
    refine wpAnyH_take (i := 6) (v := ?_) rfl (by kernel_rfl) (by kernel_rfl) (by kernel_rfl) (fun _ _ _ h => h) (Or.inl ⟨by rfl, ?_⟩) (by assumption) ?_
    rotate_left
    · intro Wx hSw; (try dsimp only at hSw); go_simp; (try with_reducible rfl)
    try simp only [Act.put, List.setIfInBounds_toArray, List.set_cons_zero, List.set_cons_succ, List.getElem_toArray, List.getElem_cons_zero, List.getElem_cons_succ]
    refine wpAnyH_ready (rs := [3, 7]) (by kernel_rfl) (by simp) ?_
    refine AllReadyH.cons rfl (fun Kx hKx => ?_) (AllReadyH.cons rfl (fun Kx hKx => ?_) AllReadyH.nil)
    · go_simp; refine (word_c c (ints D) _ _ _ (Hv.out.gr (Hg1.out.trans ((Gr.refl _ _).drew))) (Hx.out.gr (Hg1.out.trans ((Gr.refl _ _).drew))) (by omega) (by have := HC.out.rng; simpa [ints] using this)).mono ?_; rintro e w2 ⟨dv, rfl, hown2, hg2⟩; rw [wordN_ints] at hown2; obtain ⟨dwo, dwc, rfl, -, -⟩ := hown2.form2; rw [hwl] at hown2 ⊢; have Hown2 := hid hown2; have Hg2 := hid (((Gr.refl [] w1).drew).trans hg2); clear hown2 hg2; (try dsimp only)
      refine hKx.out _ _ ?_ (fun hHeld => ?_)
      · (try dsimp only); (exact fld (Hg2.out.obj HB1.out (by simp)))
      clear hKx Kx
      try simp only [Act.put, List.setIfInBounds_toArray, List.set_cons_zero, List.set_cons_succ, List.getElem_toArray, List.getElem_cons_zero, List.getElem_cons_succ]
      refine wpAnyH_ready (rs := [7]) (by kernel_rfl) (by simp) ?_
      refine AllReadyH.cons rfl (fun Kx hKx => ?_) AllReadyH.nil
      go_simp
      refine hKx.out _ _ ?_ (fun hHeld => ?_)
      · (try dsimp only); (exact fld ((Hg2.out.alloc _).obj HB1.out (by simp)))
      clear hKx Kx
      try simp only [Act.put, List.setIfInBounds_toArray, List.set_cons_zero, List.set_cons_succ, List.getElem_toArray, List.getElem_cons_zero, List.getElem_cons_succ]
      refine wpAnyH_take (i := 8) (v := ?_) rfl (by kernel_rfl) (by kernel_rfl) (by kernel_rfl) (fun _ _ _ h => h) (Or.inl ⟨by rfl, ?_⟩) (by assumption) ?_
      rotate_left
      · intro Wx hSw; (try dsimp only at hSw); go_simp; (try with_reducible rfl)
      try simp only [Act.put, List.setIfInBounds_toArray, List.set_cons_zero, List.set_cons_succ, List.getElem_toArray, List.getElem_cons_zero, List.getElem_cons_succ]
      refine wpAnyH_ready (rs := [9]) (by kernel_rfl) (by simp) ?_
      refine AllReadyH.cons rfl (fun Kx hKx => ?_) AllReadyH.nil
      go_simp
      refine hKx.out _ _ ?_ (fun hHeld => ?_)
      · (try dsimp only); (exact fld (((Hg2.out.alloc _).alloc _).obj HB1.out (by simp)))
      clear hKx Kx
      try simp only [Act.put, List.setIfInBounds_toArray, List.set_cons_zero, List.set_cons_succ, List.getElem_toArray, List.getElem_cons_zero, List.getElem_cons_succ]
      refine wpAnyH_take (i := 10) (v := ?_) rfl (by kernel_rfl) (by kernel_rfl) (by kernel_rfl) (fun _ _ _ h => h) (Or.inl ⟨by rfl, ?_⟩) (by assumption) ?_
      rotate_left
      · intro Wx hSw; (try dsimp only at hSw); go_simp; (try with_reducible rfl)
      try simp only [Act.put, List.setIfInBounds_toArray, List.set_cons_zero, List.set_cons_succ, List.getElem_toArray, List.getElem_cons_zero, List.getElem_cons_succ]
      refine wpAnyH_done (by kernel_rfl) ?_ _
      go_wp2_with fail
      go_meet
      refine ⟨_, w2.heap.size + 1, w2.heap.size, _, rfl, rfl, heap_two _ _ _, ((Gr.refl [] _).alloc _).obj (heap_alloc_new w2 _) (by simp), fun S hS => ?_, ⟨Hg2.out.size, by omega, by simp⟩, (Hg2.out.alloc _).alloc _⟩
      refine (Hown2.out.nums' fun b hb => ?_).gr (((Gr.refl S _).alloc _).alloc _)
      rcases hS b hb with h | h | h
      · exact .inr (by omega)
      · exact .inr (by omega)
      · exact .inl (by exact h)
    · go_simp
      refine hKx.out _ _ ?_ (fun hHeld => ?_)
      · (try dsimp only); (exact fld (((Gr.refl [] w1).alloc _).drew.obj HB1.out (by simp)))
      clear hKx Kx
      try simp only [Act.put, List.setIfInBounds_toArray, List.set_cons_zero, List.set_cons_succ, List.getElem_toArray, List.getElem_cons_zero, List.getElem_cons_succ]
      refine wpAnyH_ready (rs := [3]) (by kernel_rfl) (by simp) ?_
      refine AllReadyH.cons rfl (fun Kx hKx => ?_) AllReadyH.nil
      go_simp; refine (word_c c (ints D) _ _ _ (Hv.out.gr (Hg1.out.trans (((Gr.refl _ _).alloc _).drew))) (Hx.out.gr (Hg1.out.trans (((Gr.refl _ _).alloc _).drew))) (by omega) (by have := HC.out.rng; simpa [ints] using this)).mono ?_; rintro e w2 ⟨dv, rfl, hown2, hg2⟩; rw [wordN_ints] at hown2; obtain ⟨dwo, dwc, rfl, -, -⟩ := hown2.form2; rw [hwl] at hown2 ⊢; have Hown2 := hid hown2; have Hg2 := hid hg2; have Hg2b := hid ((((Gr.refl [] w1).alloc (.cells (madeCells #[.slice none 0 0] c.vars.length) 77)).drew).trans hg2); clear hown2 hg2; (try dsimp only)
      refine hKx.out _ _ ?_ (fun hHeld => ?_)
      · (try dsimp only); (exact fld (Hg2b.out.obj HB1.out (by simp)))
      clear hKx Kx
      try simp only [Act.put, List.setIfInBounds_toArray, List.set_cons_zero, List.set_cons_succ, List.getElem_toArray, List.getElem_cons_zero, List.getElem_cons_succ]
      refine wpAnyH_take (i := 8) (v := ?_) rfl (by kernel_rfl) (by kernel_rfl) (by kernel_rfl) (fun _ _ _ h => h) (Or.inl ⟨by rfl, ?_⟩) (by assumption) ?_
      rotate_left
      · intro Wx hSw; (try dsimp only at hSw); go_simp; (try with_reducible rfl)
      try simp only [Act.put, List.setIfInBounds_toArray, List.set_cons_zero, List.set_cons_succ, List.getElem_toArray, List.getElem_cons_zero, List.getElem_cons_succ]
      refine wpAnyH_ready (rs := [9]) (by kernel_rfl) (by simp) ?_
      refine AllReadyH.cons rfl (fun Kx hKx => ?_) AllReadyH.nil
      go_simp
      refine hKx.out _ _ ?_ (fun hHeld => ?_)
      · (try dsimp only); (exact fld ((Hg2b.out.alloc _).obj HB1.out (by simp)))
      clear hKx Kx
      try simp only [Act.put, List.setIfInBounds_toArray, List.set_cons_zero, List.set_cons_succ, List.getElem_toArray, List.getElem_cons_zero, List.getElem_cons_succ]
      refine wpAnyH_take (i := 10) (v := ?_) rfl (by kernel_rfl) (by kernel_rfl) (by kernel_rfl) (fun _ _ _ h => h) (Or.inl ⟨by rfl, ?_⟩) (by assumption) ?_
      rotate_left
      · intro Wx hSw; (try dsimp only at hSw); go_simp; (try with_reducible rfl)
      try simp only [Act.put, List.setIfInBounds_toArray, List.set_cons_zero, List.set_cons_succ, List.getElem_toArray, List.getElem_cons_zero, List.getElem_cons_succ]
      refine wpAnyH_done (by kernel_rfl) ?_ _
      go_wp2_with fail
      go_meet
      have hs2 := Hg2.out.size
      have hs3 : (w1.alloc (.cells (madeCells #[.slice none 0 0] c.vars.length) 77)).drew.heap.size = w1.heap.size + 1 := by
        show (w1.alloc (.cells (madeCells #[.slice none 0 0] c.vars.length) 77)).heap.size = _
        simp
      have ho2 := Hown2.out
      rw [hs3] at ho2 hs2
      refine ⟨_, w2.heap.size, w1.heap.size, _, rfl, rfl, heap_alloc_new _ _, ((Gr.refl [] _).alloc _).obj (Hg2.out.obj (((Gr.refl [] _).drew).obj (heap_alloc_new w1 _) (by simp)) (by simp)) (by simp), fun S hS => ?_, ⟨Nat.le_refl _, by omega, by simp⟩, Hg2b.out.alloc _⟩
      refine (ho2.nums' fun b hb => ?_).gr ((Gr.refl S _).alloc _)
      rcases hS b hb with h | h | h
      · exact .inl (by omega)
      · exact .inr (by omega)
      · exact .inl (by omega)
  case rest =>
    obtain ⟨wx, M, Nb, dv, rfl, rfl, hM, hN, hdom, ⟨hz1, hz2, hz3⟩, hgx⟩ := hcut
    have hgwx := Hg1.out.trans hgx
    have hs1 := Hg1.out.size
    have fcx := fld (hgx.obj HB1.out (by simp))
    have HI0 : Hid (BrI M (fun lv => .cells #[.int .i64 c.kind, .slice vo c.vars.length vc, .slice ao c.args.length ac, .int .i64 c.bound, .slice ro c.rows.length rc, dv, lv, .slice (some ⟨Nb, 0, none⟩) c.vars.length c.vars.length] 52) 0 [] (.slice none 0 0) wx wx) := hid ⟨hM, OwnV.nil _ _ _ _, rfl, by simp, List.nodup_nil, Gr.refl _ _⟩
    have HN := hid hN; have Hdom := hid hdom; have Hgwx := hid hgwx
    have hmm := @run_makeMap Tryz.prog
    clear hM hN hdom hgx hgwx
    go_wp2_with fail
    clear fcx fc1
    go_loopw [30] (fun u wr => ∃ (k : Nat) (mbs : List Nat) (lv : Value), k ≤ c.vars.length ∧ u = .int .i64 k ∧ BrI M (fun lv => .cells #[.int .i64 c.kind, .slice vo c.vars.length vc, .slice ao c.args.length ac, .int .i64 c.bound, .slice ro c.rows.length rc, dv, lv, .slice (some ⟨Nb, 0, none⟩) c.vars.length c.vars.length] 52) k mbs lv wx wr) (fun u _ => c.vars.length - (intOf u).toNat)
    case atStart => exact ⟨0, [], _, by omega, rfl, HI0.out⟩
    case round =>
      obtain ⟨k, mbs, lv, hk, rfl, hI⟩ := hrel
      have HI := hid hI
      obtain ⟨lo, lc, hlv, hlc⟩ := hI.ow.form
      rw [List.length_map] at hlv hlc
      subst hlv
      have fM := fld hI.blk
      clear hI
      by_cases hlt : k < c.vars.length
      · have hml : mbs.length ≤ 4 := by rw [HI.out.ml]; omega
        have hwM := lt_of_block HI.out.blk
        have hg2 : Gr [] wr ((wr.alloc (.map #[] 0)).alloc (.cells #[.map (some wr.heap.size)] 53)) := ((Gr.refl _ _).alloc _).alloc _
        have hownA := HI.out.ow.gr hg2
        have HownA := hid hownA
        have HmA := hid (((Gr.refl [] _).alloc (.cells #[.map (some wr.heap.size)] 53)).obj (heap_alloc_new wr (.map #[] 0)) (by simp))
        have hnew : ∀ j u, [Value.map (some wr.heap.size)][j]? = some u → ((wr.alloc (.map #[] 0)).alloc (.cells #[.map (some wr.heap.size)] 53)).cell? ⟨wr.heap.size + 1, j, none⟩ = some u := fun j u hj => by
          have := fld (heap_two wr (.map #[] 0) (.cells #[.map (some wr.heap.size)] 53)) j
          rw [this, ← hj]
          match j with
          | 0 => rfl
          | j + 1 => simp
        have Hnew := hid hnew; have Hg2 := hid hg2
        clear hnew hownA hg2
        go_wp2_with (at_builtin; refine wp_appV rfl _ _ 50 rfl 1 (M + 1) 53 _ 8 infoMp rfl (by omega) (by omega) Tryz.underlying50 _ (mbs.map fun m => [Value.map (some m)]) rfl HownA.out (wr.heap.size + 1) 1 [.map (some wr.heap.size)] rfl rfl (by simp [Value.oneCell']) Hnew.out (by rw [List.length_map]; omega) (by have := Hg2.out.size; omega) ?_; intro g4 c4 w4 hown4 hg4 hwh4 hlt4; have hM4 := hg4.obj (Hg2.out.obj HI.out.blk (by simp)) (by simp only [Option.mem_toList]; intro hx; have := (HI.out.ow.own hx).1; omega); have fM4 := fld hM4; have ffM4 := fldF hM4)
        have hg9 : Gr [M] w4 (w4.setCell ⟨M, 6, none⟩ (.slice (some ⟨g4, 0, none⟩) (mbs.length + 1) c4)) := (Gr.refl _ _).setCell _ _ (.inl (by simp))
        have hb9 := cells_sto hM4 6 (.slice (some ⟨g4, 0, none⟩) (mbs.length + 1) c4)
        have hsg := Hg2.out.size
        have hs4 := hg4.size
        have hown1 : ∀ b, (Value.slice lo mbs.length lc).ownBlock = some b → M + 1 ≤ b ∧ b < wr.heap.size := fun b hb => HI.out.ow.own hb
        have hg4' : Gr (Value.slice lo mbs.length lc).ownBlock.toList wr w4 := Hg2.out.any.trans hg4
        have hgW : Gr (M :: (Value.slice lo mbs.length lc).ownBlock.toList) wr (w4.setCell ⟨M, 6, none⟩ (.slice (some ⟨g4, 0, none⟩) (mbs.length + 1) c4)) := (hg4'.sub (fun t _ ht => List.mem_cons_of_mem _ ht)).trans (hg9.sub (fun t _ ht => by simp at ht; simp [ht]))
        rw [List.length_map] at hown4
        have hszA : ((wr.alloc (.map #[] 0)).alloc (.cells #[.map (some wr.heap.size)] 53)).heap.size = wr.heap.size + 2 := by simp
        rw [hszA] at hwh4 hsg hs4
        refine ⟨⟨k + 1, mbs ++ [wr.heap.size], _, by omega, by go_num, ⟨hb9, ?_, by simp [HI.out.ml], fun m hm => ?_, ?_, ?_⟩⟩, by simp [intOf]; omega⟩
        · have := hown4.keep hg9 (fun b hb hx => by rw [ob] at hb; cases hb; have := (hown4.own (b := g4) rfl).1; simp at hx; omega)
          simpa using this
        · have hmd : ∀ {m : Nat}, m ∈ mbs ++ [wr.heap.size] → (m ∈ mbs ∧ m < wr.heap.size) ∨ m = wr.heap.size := fun {m} hm => by
            rcases List.mem_append.1 hm with hm | hm
            · exact .inl ⟨hm, lt_of_block (HI.out.mp m hm).2.1⟩
            · exact .inr (by simpa using hm)
          rcases hmd hm with ⟨hm, hml2⟩ | rfl
          · obtain ⟨k1, k2, k3⟩ := HI.out.mp m hm
            refine ⟨k1, hgW.obj k2 (fun hx => ?_), fun hx => ?_⟩
            · rcases List.mem_cons.1 hx with rfl | hx
              · omega
              · exact k3 (Option.mem_toList.1 hx)
            · rw [ob] at hx
              cases hx
              rcases hwh4 with h | h
              · exact k3 h
              · omega
          · refine ⟨by omega, hg9.obj (hg4.obj HmA.out (fun hx => ?_)) (by simp; omega), fun hx => ?_⟩
            · have := (hown1 _ (Option.mem_toList.1 hx)).2; omega
            · rw [ob] at hx
              cases hx
              rcases hwh4 with h | h
              · have := (hown1 _ h).2; omega
              · omega
        · rw [List.nodup_append]
          refine ⟨HI.out.nd, by simp, fun a ha b hb e => ?_⟩
          have := lt_of_block (HI.out.mp a ha).2.1
          have hb' : b = wr.heap.size := by simpa using hb
          omega
        · refine HI.out.gr.step hgW fun t ht => ?_
          rcases List.mem_cons.1 ht with rfl | ht
          · exact .inl (by simp)
          · have := (hown1 _ (Option.mem_toList.1 ht)).1; exact .inr (by omega)
      · have hkn : k = c.vars.length := by omega
        subst hkn
        clear hlt
        -- the maker is laid
        obtain ⟨m0, hm0⟩ := get_some (xs := mbs) (k := 0) (by rw [HI.out.ml]; omega)
        obtain ⟨Lb, lc', e, hLb, -, -⟩ := HI.out.ow.at (i := 0) (cs := [.map (some m0)]) (by rw [List.getElem?_map, hm0]; rfl)
        rw [List.length_map] at e
        cases e
        obtain ⟨p, hp⟩ : ∃ p : MkP, p = { B := M + 1, M := M, Lb := Lb, Nb := Nb, c := c, vv := .slice vo c.vars.length vc, av := .slice ao c.args.length ac, rv := .slice ro c.rows.length rc, dv := dv, lc := lc, nc := c.vars.length, mbs := mbs, W := wordN c.vars D } := ⟨_, rfl⟩
        have hWl : (wordN c.vars D).length = c.vars.length := wordN_len _ _
        have hml := HI.out.ml
        have hlc1 := hlc.1; have hlc2 := hlc.2.1
        have hpo : MkOk p := by
          rw [hp]
          refine ⟨by rw [hWl]; exact HI.out.ml, HI.out.nd, by rw [hWl]; exact hl, HB64.out.word _, fun x hx hb => ?_, by rw [hWl]; exact ⟨Nat.le_refl _, by show c.vars.length ≤ 1000; omega⟩, by rw [hWl]; exact ⟨by show c.vars.length ≤ lc; omega, hlc2⟩⟩
          have hxl : x.length = c.vars.length := by rw [← hWl]; exact hx
          exact ⟨HC.out.fits, hxl, by omega, by omega, hb⟩
        have hgwr : Gr [M] w wr := Hgwx.out.any.trans HI.out.gr
        have hrl := HI.out.gr.size
        have hrp : ∀ i, i < c.vars.length → rowsD (List.replicate c.vars.length []) i = [] := fun i hi => by unfold rowsD; rw [lay_rep hi]; rfl
        have hnb : ∀ (s : Value), s ∈ List.replicate c.vars.length (Value.slice none 0 0) → s = .slice none 0 0 := fun s hs => List.eq_of_mem_replicate hs
        have hws : ∀ b, b ∈ wset Nb mbs (List.replicate c.vars.length (.slice none 0 0)) → b = Nb ∨ b ∈ mbs := fun b hb => by
          rcases mem_wset.1 hb with h | h | ⟨s, hs, h⟩
          · exact .inl h
          · exact .inr h
          · rw [hnb s hs] at h; cases h
        have hNr : wr.heap[Nb]? = some (.cells (List.replicate c.vars.length (.slice none 0 0)).toArray 77 (0, 0)) := by
          have h1 := HI.out.gr.obj HN.out (by simp; omega)
          have e1 : madeCells #[Value.slice none 0 0] c.vars.length = (List.replicate c.vars.length (.slice none 0 0)).toArray := by
            apply Array.ext'
            rw [toList_madeCells_one]
          rw [← e1]; exact h1
        have hmv : MkV p wr (List.replicate c.vars.length (.slice none 0 0)) (List.replicate c.vars.length []) := by
          rw [hp]
          refine ⟨by rw [hWl]; have := HI.out.blk; rw [hml] at this; exact this, fun S hS => ?_, fun S hS => ?_, by rw [hWl]; exact OkD.nil _, fun i m hm => ?_, hNr, fun i s hs => ?_, by rw [hWl]; simp, ⟨by simp, by simp; omega⟩, ⟨fun hx => ?_, hLb.1⟩, fun m hm => ⟨(HI.out.mp m hm).1, by have := (HI.out.mp m hm).1; simp; omega⟩, fun s hs b hb => ?_, fun i j s t b hi _ hb _ => ?_, fun b hb => ?_⟩
          · exact (((Hv.out.sub (S' := M :: S) (fun b hb hm => by rcases List.mem_cons.1 hm with rfl | hm; omega; (have := hS b hm; simp at this; omega))).gr (hgwr.sub (fun t _ ht => by simp at ht; simp [ht]))).sub (fun b _ hb => List.mem_cons_of_mem _ hb))
          · exact ((Hdom.out (M :: S) (fun b hb => by rcases List.mem_cons.1 hb with rfl | hb; exact .inr (.inl (Nat.le_refl _)); (have := hS b hb; simp at this; omega))).gr (HI.out.gr.sub (fun t _ ht => by simp at ht; simp [ht]))).sub (fun b _ hb => List.mem_cons_of_mem _ hb)
          · have hil : i < c.vars.length := by rw [← hml]; exact (List.getElem?_eq_some_iff.1 hm).1
            obtain ⟨g', c', e2, -, h3, -⟩ := HI.out.ow.at (i := i) (cs := [.map (some m)]) (by rw [List.getElem?_map, hm]; rfl)
            rw [List.length_map] at e2
            cases e2
            rw [hrp i hil]
            exact ⟨by simpa using h3 0 _ rfl, (HI.out.mp m (List.mem_of_getElem? hm)).2.1⟩
          · have hil : i < c.vars.length := by have := (List.getElem?_eq_some_iff.1 hs).1; simpa using this
            rw [hrp i hil, hnb s (List.mem_of_getElem? hs)]
            exact OwnV.nil _ _ _ _
          · rcases hws _ hx with h | h
            · simp at h hLb; omega
            · exact (HI.out.mp _ h).2.2 rfl
          · rw [hnb s hs] at hb; cases hb
          · rw [hnb s (List.mem_of_getElem? hi)] at hb; cases hb
          · rcases hb with rfl | hb
            · exact hLb.2
            · rcases hws _ hb with h | h
              · rw [h]; exact lt_of_block hNr
              · exact lt_of_block (HI.out.mp _ h).2.1
        have hpM : p.M = M := by rw [hp]
        have hpW : p.W.length = c.vars.length := by rw [hp]; exact hWl
        have hcx : compX p [] = tupC c D := by
          have := compX_nil p D (by rw [hp])
          rwa [show p.c = c by rw [hp]] at this
        have hwp : ∀ b, b ∈ wset p.Nb p.mbs (List.replicate c.vars.length (.slice none 0 0)) → w.heap.size ≤ b := fun b hb => by
          rw [hp] at hb
          rcases hws b hb with h | h
          · omega
          · have := (HI.out.mp _ h).1; omega
        have hcall := node_c p hpo c.vars.length [] (.slice none 0 0) wr _ _ (by rw [hpW]; simp) (by simp) hmv ⟨none, 0, rfl, by simp, fun i x h => by simp at h⟩ (fun j hj => by
          rw [hpW] at hj
          rw [lay_rep hj]
          have : grow 0 j ≤ 6 ^ 3 := by unfold grow; rw [if_neg (by omega)]; exact Nat.pow_le_pow_right (by decide) (by omega)
          simp; omega)
        rw [hpM] at hcall
        have Hcall := hid hcall; have Hpo := hid hpo; have HpM := hid hpM; have HpW := hid hpW; have Hcx := hid hcx; have Hwp := hid hwp; have Hgwr := hid hgwr
        clear hcall hpo hpM hpW hcx hwp hgwr hmv hNr hws hnb hrp hWl hml hm0 hp hmm hmk
        go_wp2_with fail
        refine Hcall.out.mono ?_
        rintro e w5 ⟨svs', D', rfl, hmv5, hgD, hmem, hg5, hws5, hrm⟩
        rw [Hcx.out] at hmem ⊢
        have hgw5 : Gr [] w w5 := ((Gr.refl [] w).step Hgwr.out (fun t ht => by simp at ht; exact .inr (by omega))).step hg5 (fun t ht => .inr (Hwp.out t ht))
        obtain ⟨r, hr⟩ : ∃ r, r = ixL (lay D' 0) (tupC c D) := ⟨_, rfl⟩
        have hr' : ixL (lay D' ([] : List Int).length) (tupC c D) = r := hr.symm
        rw [hr']
        have Hr := hid hr; have Hmv5 := hid hmv5; have Hmem := hid hmem; have Hgw5 := hid hgw5; have Hrm := hid hrm
        clear hmv5 hgD hmem hg5 hws5 hrm hgw5 hr hr' HI0 HI
        by_cases hT : tupC c D = []
        · have hr0 : r = -1 := by rw [Hr.out]; unfold ixL; rw [if_pos hT]
          subst hr0
          have HT := hid hT
          clear hT
          go_wp2_with fail
          go_ret
          exact ⟨_, rfl, by unfold bldD; rw [HOK.out, ints_len, HVC.out, HT.out]; exact DgV.nil _ _, Hgw5.out⟩
        · have hin : tupC c D ∈ lay D' 0 := Hmem.out.resolve_left hT
          obtain ⟨k0, hk0⟩ : ∃ k0, k0 = (lay D' 0).idxOf (tupC c D) := ⟨_, rfl⟩
          have hr0 : r = (k0 : Int) := by rw [Hr.out]; unfold ixL; rw [if_neg hT, hk0]
          subst hr0
          have hget : (lay D' 0)[k0]? = some (tupC c D) := by rw [hk0, List.getElem?_eq_getElem (List.idxOf_lt_length_of_mem hin), List.getElem_idxOf]
          have hnum := numbered_c p Hpo.out w5 svs' D' Hmv5.out k0 (tupC c D) hget (fun j hj => by
            have h1 := Hrm.out j hj
            rw [HpW.out] at hj
            rw [lay_rep hj] at h1
            have h2 : grow ([] : List Int).length j ≤ 6 ^ 3 := by unfold grow; rw [if_neg (by simp)]; exact Nat.pow_le_pow_right (by decide) (by simp; omega)
            simp at h1 h2 ⊢; omega)
          rw [HpM.out, HpW.out] at hnum
          have Hnum := hid hnum; have HT := hid hT
          clear hin hk0 hget hnum hT
          go_wp2_with fail
          refine Hnum.out.mono ?_
          rintro e w6 ⟨v6, rfl, hd6, hg6⟩
          go_wp2_with fail
          go_ret
          exact ⟨_, rfl, by unfold bldD; rw [HOK.out, ints_len, HVC.out, if_neg HT.out]; exact hd6, Hgw5.out.trans hg6⟩
end Go.Proofs.YtmonhpoogfdpoaaGreat
