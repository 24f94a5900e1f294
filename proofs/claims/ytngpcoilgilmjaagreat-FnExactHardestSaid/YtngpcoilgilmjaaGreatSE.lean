/-
  Soft constraints that came in as arguments: how they are read; walks of the exact laws' conversions of them: sizes, copies, comparisons, marks.
-/
import Derived.Test.YtngpcoilgilmjaaGreatSo
import Derived.Test.YtngpcoilgilmjaaGreatEH
set_option linter.unusedVariables false
set_option linter.unusedSimpArgs false
namespace Go.Proofs.YtngpcoilgilmjaaGreat
open Go.RowKit

def SftM (M : Nat → Prop) (w : World) (v : Value) (s : Sft) : Prop :=
  ∃ vv av rv, v = .agg #[.int .i64 s.con.kind, vv, av, .int .i64 s.con.bound, rv, .int .i64 s.wt] ∧ NumsM M w vv s.con.vars ∧ NumsM M w av s.con.args ∧ RowsM M w rv s.con.rows
def SftsM (M : Nat → Prop) (w : World) (v : Value) (ss : List Sft) : Prop :=
  ∃ ao cap, v = .slice ao ss.length cap ∧ (ss.length ≤ cap ∧ cap ≤ 9223372036854775807 ∧ (ao = none → cap = 0)) ∧
    ∀ i s, ss[i]? = some s → ∃ b o vv av rv, ao = some ⟨b, o, none⟩ ∧ M b ∧
      (w.cell? ⟨b, o + i * 6, none⟩ = some (.int .i64 s.con.kind) ∧ w.cell? ⟨b, o + i * 6 + 1, none⟩ = some vv ∧ w.cell? ⟨b, o + i * 6 + 2, none⟩ = some av ∧
       w.cell? ⟨b, o + i * 6 + 3, none⟩ = some (.int .i64 s.con.bound) ∧ w.cell? ⟨b, o + i * 6 + 4, none⟩ = some rv ∧ w.cell? ⟨b, o + i * 6 + 5, none⟩ = some (.int .i64 s.wt)) ∧
      (∀ j, w.frozen? ⟨b, j, none⟩ = false) ∧ NumsM (but M b) w vv s.con.vars ∧ NumsM (but M b) w av s.con.args ∧ RowsM (but M b) w rv s.con.rows
section
variable {M M' : Nat → Prop} {S : List Nat} {w w' : World}
theorem SftsM.move {v : Value} {cs : List Sft} (h : SftsM M w v cs) (hc : ∀ a u, M a.block → w.cell? a = some u → w'.cell? a = some u ∧ w'.frozen? a = w.frozen? a ∧ M' a.block)
    (hf' : ∀ b, M b → b < w.heap.size → ∀ j, w'.frozen? ⟨b, j, none⟩ = w.frozen? ⟨b, j, none⟩) : SftsM M' w' v cs := by
  obtain ⟨ao, cap, e, hl, h⟩ := h
  refine ⟨ao, cap, e, hl, fun i r hi => ?_⟩
  obtain ⟨b, o, vv, av, rv, e1, hm, ⟨c0, c1, c2, c3, c4, c5⟩, hf, n1, n2, n3⟩ := h i r hi
  have hk : ∀ a x, but M b a.block → w.cell? a = some x → w'.cell? a = some x ∧ w'.frozen? a = w.frozen? a ∧ but M' b a.block := fun a x ha hx => by
    obtain ⟨j1, j2, j3⟩ := hc a x ha.1 hx
    exact ⟨j1, j2, j3, ha.2⟩
  exact ⟨b, o, vv, av, rv, e1, (hc ⟨b, o + i * 6, none⟩ _ hm c0).2.2, ⟨(hc _ _ hm c0).1, (hc _ _ hm c1).1, (hc _ _ hm c2).1, (hc _ _ hm c3).1, (hc _ _ hm c4).1, (hc _ _ hm c5).1⟩,
    fun j => (hf' b hm (World.block_lt_of_cell? w _ c0) j).trans (hf j), n1.move hk, n2.move hk, n3.move hk⟩
theorem SftsM.gr' {v : Value} {cs : List Sft} (h : SftsM M w v cs) (hg : Gr S w w') (hS : ∀ b ∈ S, ¬ M b) (hM : ∀ b, b < w.heap.size → M b → M' b) : SftsM M' w' v cs :=
  h.move (keepGr hg hS hM) fun b hb hlt j => hg.frozen hlt fun h => hS _ h hb
theorem SftsM.apart {v : Value} {cs : List Sft} (h : SftsM M w v cs) (k : Mk M' w w') (hd : ∀ b, M b → ¬ M' b) : SftsM M w' v cs :=
  h.move (fun a u hm hu => ⟨(World.cell?_of_block (k.block a.block (World.block_lt_of_cell? w a hu) (hd _ hm))).trans hu, k.frozen a (World.block_lt_of_cell? w a hu), hm⟩) fun b hb hlt j => k.frozen ⟨b, j, none⟩ hlt
theorem SftsM.sfts {v : Value} {cs : List Sft} (h : SftsM M w v cs) (hS : ∀ b ∈ S, ¬ M b) : SftsV S w v cs :=
  let ⟨ao, cap, e, hl, h⟩ := h
  ⟨ao, cap, e, hl, fun i c hi => let ⟨b, o, vv, av, rv, e1, hm, hc, _, n1, n2, n3⟩ := h i c hi
    ⟨b, o, vv, av, rv, e1, fun hb => hS b hb hm, hc, n1.nums fun k hk hm => hS k hk hm.1, n2.nums fun k hk hm => hS k hk hm.1, n3.rows fun k hk hm => hS k hk hm.1⟩⟩
theorem SftsM.at {ao : Option Addr} {n cap : Nat} {cs : List Sft} (h : SftsM M w (.slice ao n cap) cs) {i : Nat} {s : Sft} (hi : cs[i]? = some s) :
    ∃ b o vv av rv, ao = some ⟨b, o, none⟩ ∧ M b ∧
      (w.cell? ⟨b, o + i * 6, none⟩ = some (.int .i64 s.con.kind) ∧ w.cell? ⟨b, o + i * 6 + 1, none⟩ = some vv ∧ w.cell? ⟨b, o + i * 6 + 2, none⟩ = some av ∧
       w.cell? ⟨b, o + i * 6 + 3, none⟩ = some (.int .i64 s.con.bound) ∧ w.cell? ⟨b, o + i * 6 + 4, none⟩ = some rv ∧ w.cell? ⟨b, o + i * 6 + 5, none⟩ = some (.int .i64 s.wt)) ∧
      (∀ j, w.frozen? ⟨b, j, none⟩ = false) ∧ NumsM (but M b) w vv s.con.vars ∧ NumsM (but M b) w av s.con.args ∧ RowsM (but M b) w rv s.con.rows := by
  obtain ⟨ao', cap', e, _, h⟩ := h
  simp only [Value.slice.injEq] at e
  obtain ⟨rfl, _, _⟩ := e
  exact h i s hi
end
theorem SftM.open {M : Nat → Prop} {w : World} {v : Value} {s : Sft} (h : SftM M w v s) :
    ∃ vo vc ao ac ro rc, v = .agg #[.int .i64 s.con.kind, .slice vo s.con.vars.length vc, .slice ao s.con.args.length ac, .int .i64 s.con.bound, .slice ro s.con.rows.length rc, .int .i64 s.wt] ∧
      NumsM M w (.slice vo s.con.vars.length vc) s.con.vars ∧ NumsM M w (.slice ao s.con.args.length ac) s.con.args ∧ RowsM M w (.slice ro s.con.rows.length rc) s.con.rows := by
  obtain ⟨vv, av, rv, rfl, h1, h2, h3⟩ := h
  obtain ⟨vo, vc, rfl, k1⟩ := h1
  obtain ⟨ao, ac, rfl, k2⟩ := h2
  obtain ⟨ro, rc, rfl, k3⟩ := h3
  exact ⟨vo, vc, ao, ac, ro, rc, rfl, ⟨vo, vc, rfl, k1⟩, ⟨ao, ac, rfl, k2⟩, ⟨ro, rc, rfl, k3⟩⟩
theorem sft_open {S : List Nat} {w : World} {v : Value} {s : Sft} (h : SftV S w v s) :
    ∃ vo vc ao ac ro rc, v = .agg #[.int .i64 s.con.kind, .slice vo s.con.vars.length vc, .slice ao s.con.args.length ac, .int .i64 s.con.bound, .slice ro s.con.rows.length rc, .int .i64 s.wt] ∧
      ConV S w (.agg #[.int .i64 s.con.kind, .slice vo s.con.vars.length vc, .slice ao s.con.args.length ac, .int .i64 s.con.bound, .slice ro s.con.rows.length rc]) s.con := by
  obtain ⟨vv, av, rv, rfl, h1⟩ := h
  obtain ⟨vo, vc, ao, ac, ro, rc, e⟩ := h1.slices
  simp only [Value.agg.injEq, Array.mk.injEq, List.cons.injEq, and_true, true_and] at e
  obtain ⟨rfl, rfl, rfl⟩ := e
  exact ⟨vo, vc, ao, ac, ro, rc, rfl, h1⟩

theorem set6_cell (w : World) (b p : Nat) (a0 a1 a2 a3 a4 a5 : Value) (hc : ∀ j, j < 6 → ∃ u, w.cell? ⟨b, p + j, none⟩ = some u) :
    (∀ j x, [a0, a1, a2, a3, a4, a5][j]? = some x → ((((((w.setCell ⟨b, p, none⟩ a0).setCell ⟨b, p + 1, none⟩ a1).setCell ⟨b, p + 2, none⟩ a2).setCell ⟨b, p + 3, none⟩ a3).setCell ⟨b, p + 4, none⟩ a4).setCell ⟨b, p + 5, none⟩ a5).cell? ⟨b, p + j, none⟩ = some x) ∧
    ∀ q : Addr, (q.block ≠ b ∨ q.off < p ∨ p + 6 ≤ q.off) → ((((((w.setCell ⟨b, p, none⟩ a0).setCell ⟨b, p + 1, none⟩ a1).setCell ⟨b, p + 2, none⟩ a2).setCell ⟨b, p + 3, none⟩ a3).setCell ⟨b, p + 4, none⟩ a4).setCell ⟨b, p + 5, none⟩ a5).cell? q = w.cell? q := by
  obtain ⟨s1, s2⟩ := set5_cell w b p a0 a1 a2 a3 a4 (fun j hj => hc j (by omega))
  obtain ⟨u5, h5⟩ := hc 5 (by omega)
  constructor
  · intro j x hj
    match j, hj with
    | 0, hj => exact (World.cell?_setCell_other _ _ _ _ (by intro e; have := congrArg Addr.off e; simp at this)).trans (s1 0 x (by simpa using hj))
    | 1, hj => exact (World.cell?_setCell_other _ _ _ _ (by intro e; have := congrArg Addr.off e; simp at this)).trans (s1 1 x (by simpa using hj))
    | 2, hj => exact (World.cell?_setCell_other _ _ _ _ (by intro e; have := congrArg Addr.off e; simp at this)).trans (s1 2 x (by simpa using hj))
    | 3, hj => exact (World.cell?_setCell_other _ _ _ _ (by intro e; have := congrArg Addr.off e; simp at this)).trans (s1 3 x (by simpa using hj))
    | 4, hj => exact (World.cell?_setCell_other _ _ _ _ (by intro e; have := congrArg Addr.off e; simp at this)).trans (s1 4 x (by simpa using hj))
    | 5, hj => cases hj; exact World.cell?_setCell_same _ _ _ ((s2 ⟨b, p + 5, none⟩ (by right; right; exact Nat.le_refl _)).trans h5)
    | j + 6, hj => simp at hj
  · intro q hq
    have hne : (⟨b, p + 5, none⟩ : Addr) ≠ q := by
      rintro rfl
      rcases hq with h | h | h
      · exact h rfl
      · first | (simp at h; done) | (simp at h; omega)
      · first | (simp at h; done) | (simp at h; omega)
    exact (World.cell?_setCell_other _ _ _ _ hne).trans (s2 q (by rcases hq with h | h | h; exact .inl h; exact .inr (.inl h); exact .inr (.inr (by omega))))
theorem SftsM.set6 {M : Nat → Prop} {w : World} {b n cap : Nat} {cs : List Sft} (h : SftsM M w (.slice (some ⟨b, 0, none⟩) n cap) cs) {k : Nat} (hk : k < cs.length) {s : Sft} {vv av rv : Value}
    (nv : NumsM (but M b) w vv s.con.vars) (na : NumsM (but M b) w av s.con.args) (nr : RowsM (but M b) w rv s.con.rows) :
    SftsM M ((((((w.setCell ⟨b, k * 6, none⟩ (.int .i64 s.con.kind)).setCell ⟨b, k * 6 + 1, none⟩ vv).setCell ⟨b, k * 6 + 2, none⟩ av).setCell ⟨b, k * 6 + 3, none⟩ (.int .i64 s.con.bound)).setCell ⟨b, k * 6 + 4, none⟩ rv).setCell ⟨b, k * 6 + 5, none⟩ (.int .i64 s.wt)) (.slice (some ⟨b, 0, none⟩) n cap) (cs.set k s) := by
  obtain ⟨ao, cap', e, hl, h⟩ := h
  cases e
  obtain ⟨c0, hc0⟩ := get_some hk
  obtain ⟨b', o', vv0, av0, rv0, e1, hm0, ⟨k0, k1, k2, k3, k4, k5⟩, hf0, _⟩ := h k c0 hc0
  cases e1
  simp only [Nat.zero_add] at k0 k1 k2 k3 k4 k5
  obtain ⟨s1, s2⟩ := set6_cell w b (k * 6) (.int .i64 s.con.kind) vv av (.int .i64 s.con.bound) rv (.int .i64 s.wt) (fun j hj => by
    match j, hj with
    | 0, _ => exact ⟨_, k0⟩
    | 1, _ => exact ⟨_, k1⟩
    | 2, _ => exact ⟨_, k2⟩
    | 3, _ => exact ⟨_, k3⟩
    | 4, _ => exact ⟨_, k4⟩
    | 5, _ => exact ⟨_, k5⟩
    | j + 6, hj => omega)
  obtain ⟨W, hW⟩ : ∃ W, W = (((((w.setCell ⟨b, k * 6, none⟩ (.int .i64 s.con.kind)).setCell ⟨b, k * 6 + 1, none⟩ vv).setCell ⟨b, k * 6 + 2, none⟩ av).setCell ⟨b, k * 6 + 3, none⟩ (.int .i64 s.con.bound)).setCell ⟨b, k * 6 + 4, none⟩ rv).setCell ⟨b, k * 6 + 5, none⟩ (.int .i64 s.wt) := ⟨_, rfl⟩
  have hfr : ∀ a, W.frozen? a = w.frozen? a := fun a => by rw [hW]; simp
  rw [← hW] at s1 s2 ⊢
  have hoth : ∀ a x, but M b a.block → w.cell? a = some x → W.cell? a = some x ∧ W.frozen? a = w.frozen? a ∧ but M b a.block := fun a x ha hx => ⟨(s2 a (.inl ha.2)).trans hx, hfr a, ha⟩
  refine ⟨some ⟨b, 0, none⟩, cap, by simp, by simpa using hl, fun i c' hi => ?_⟩
  by_cases hik : k = i
  · subst hik
    rw [List.getElem?_set_self hk] at hi
    cases hi
    refine ⟨b, 0, vv, av, rv, rfl, hm0, ⟨?_, ?_, ?_, ?_, ?_, ?_⟩, fun j => (hfr _).trans (hf0 j), nv.move hoth, na.move hoth, nr.move hoth⟩
    · simpa using s1 0 _ rfl
    · simpa using s1 1 _ rfl
    · simpa using s1 2 _ rfl
    · simpa using s1 3 _ rfl
    · simpa using s1 4 _ rfl
    · simpa using s1 5 _ rfl
  · rw [List.getElem?_set_ne hik] at hi
    obtain ⟨b', o', vv', av', rv', e1, hm, ⟨j0, j1, j2, j3, j4, j5⟩, hf, n1, n2, n3⟩ := h i c' hi
    cases e1
    refine ⟨b, 0, vv', av', rv', rfl, hm, ⟨(s2 _ ?_).trans j0, (s2 _ ?_).trans j1, (s2 _ ?_).trans j2, (s2 _ ?_).trans j3, (s2 _ ?_).trans j4, (s2 _ ?_).trans j5⟩, fun j => (hfr _).trans (hf j), n1.move hoth, n2.move hoth, n3.move hoth⟩ <;> (right; dsimp only; omega)
theorem sftsM_made {w : World} {B g n : Nat} {e : TypeId} (h : w.ownsRow B e 6 (.slice (some ⟨g, 0, none⟩) n n) n (madeCells #[.int .i64 0, .slice none 0 0, .slice none 0 0, .int .i64 0, .slice none 0 0, .int .i64 0] (n * 6)).toList) (hn : n ≤ 1000000000) :
    SftsM (New B w) w (.slice (some ⟨g, 0, none⟩) n n) (List.replicate n ⟨⟨0, [], [], 0, []⟩, 0⟩) := by
  rcases h.2 with ⟨e1, _⟩ | ⟨g', cap, cur, e1, hB, hg, h6, h7, h8, h9⟩
  · cases e1
  · cases e1
    refine ⟨_, _, by rw [List.length_replicate], by rw [List.length_replicate]; exact ⟨Nat.le_refl _, by omega, by simp⟩, fun i r hi => ?_⟩
    have hil : i < n := by have := (List.getElem?_eq_some_iff.1 hi).1; simpa using this
    rw [List.getElem?_replicate, if_pos hil] at hi
    cases hi
    have hcell : ∀ j, j < 6 → w.cell? ⟨g, 0 + i * 6 + j, none⟩ = [Value.int .i64 0, .slice none 0 0, .slice none 0 0, .int .i64 0, .slice none 0 0, .int .i64 0][j]? := by
      intro j hj
      have h3 := congrArg (fun l => l[i * 6 + j]?) h9
      simp only [List.getElem?_take, show i * 6 + j < n * 6 by omega, if_true, madeCells, Array.toList_map, List.getElem?_map, Array.toList_range, List.getElem?_range] at h3
      simp only [World.cell?, hg, Nat.zero_add]
      have hm : (i * 6 + j) % 6 = j := by omega
      have e2 : cur[i * 6 + j]? = (cur.toList)[i * 6 + j]? := by simp
      simp only [Option.isSome_none, Bool.false_eq_true, if_false]
      rw [e2, h3]
      match j, hj with
      | 0, _ => simp
      | 1, _ => simp [hm]
      | 2, _ => simp [hm]
      | 3, _ => simp [hm]
      | 4, _ => simp [hm]
      | 5, _ => simp [hm]
      | j + 6, hj => omega
    exact ⟨g, 0, .slice none 0 0, .slice none 0 0, .slice none 0 0, rfl, ⟨hB, lt_of_block hg⟩, ⟨hcell 0 (by omega), hcell 1 (by omega), hcell 2 (by omega), hcell 3 (by omega), hcell 4 (by omega), hcell 5 (by omega)⟩, fun j => by simp [World.frozen?, hg], NumsM.nil _ _, NumsM.nil _ _, RowsM.nil _ _⟩

/-! ### Sizes -/
def szSs (ss : List Sft) : Nat := ss.length + (ss.map fun s => szC s.con).sum
theorem sfts_small_of_sz {ss : List Sft} (h : szSs ss ≤ 1048576) : ss.length ≤ 2000000 ∧ ∀ s ∈ ss, s.con.Small := by
  unfold szSs at h
  refine ⟨by omega, fun s hs => ?_⟩
  have h1 := sum_mem (fun s : Sft => szC s.con) hs
  have h2 : szC s.con ≤ 1048576 := by have h3 : szC s.con ≤ _ := h1; omega
  unfold szC szR at h2
  exact ⟨by omega, by omega, by omega, fun r hr => by have := sum_mem List.length hr; omega⟩
theorem SftsV.open {S : List Nat} {w : World} {v : Value} {ss : List Sft} (h : SftsV S w v ss) : ∃ ao cap, v = .slice ao ss.length cap ∧ (ss.length ≤ cap ∧ cap ≤ 9223372036854775807) ∧ SftsV S w (.slice ao ss.length cap) ss := by
  have h' := h
  obtain ⟨ao, cap, rfl, ⟨h1, h2, -⟩, -⟩ := h
  exact ⟨ao, cap, rfl, ⟨h1, h2⟩, h'⟩


theorem szSoft_c (s : Sft) (left : Int) (v : Value) (w : World) (hv : SftV [] w v s) (hl : 0 ≤ left ∧ left ≤ 2000000) :
    Calls Tryz.prog 64 #[v, .int .i64 left] w fun e w' => e = .returned (.int .i64 (cut left (szC s.con))) ∧ Gr [] w w' := by
  obtain ⟨vo, vc, ao, ac, ro, rc, rfl, hcon⟩ := sft_open hv
  have hg0 : Gr [] w (w.alloc (.cells #[.int .i64 s.con.kind, .slice vo s.con.vars.length vc, .slice ao s.con.args.length ac, .int .i64 s.con.bound, .slice ro s.con.rows.length rc, .int .i64 s.wt] 98)) := (Gr.refl _ _).alloc _
  have hb0 : (w.alloc (.cells #[.int .i64 s.con.kind, .slice vo s.con.vars.length vc, .slice ao s.con.args.length ac, .int .i64 s.con.bound, .slice ro s.con.rows.length rc, .int .i64 s.wt] 98)).heap[w.heap.size]? = some (.cells #[.int .i64 s.con.kind, .slice vo s.con.vars.length vc, .slice ao s.con.args.length ac, .int .i64 s.con.bound, .slice ro s.con.rows.length rc, .int .i64 s.wt] 98 (0, 0)) := heap_alloc_new _ _
  have hfl := fld hb0
  have Hg0 := hid hg0; have H1 := hid (hcon.gr hg0)
  clear hb0 hcon hg0 hv
  go_enter Tryz.func64, Tryz.ntmps64
  go_wp2_with fail
  have hcall := szConstraint_c s.con left _ _ H1.out hl
  (with_reducible refine hcall.mono ?_)
  clear hcall
  obtain ⟨z, hz⟩ : ∃ z, z = szC s.con := ⟨_, rfl⟩
  rw [← hz]
  rintro e w2 ⟨rfl, hg2⟩
  have Hg2 := hid (Hg0.out.trans hg2); have Hz := hid hz
  clear hg2 hz
  by_cases h1 : left < (z : Int)
  · rw [cut_neg h1]
    go_wp2_with fail
    go_ret
    exact ⟨ret_int (by rw [← Hz.out, cut_neg h1]), Hg2.out⟩
  rw [cut_pos (by omega)]
  go_wp2_with fail
  go_ret
  exact ⟨ret_int (by rw [← Hz.out, cut_pos (by omega)]), Hg2.out⟩


theorem szSoftS_c (cs : List Sft) (left : Int) (v : Value) (w : World) (hv : SftsV [] w v cs) (hl : 0 ≤ left ∧ left ≤ 2000000) :
    Calls Tryz.prog 18 #[v, .int .i64 left] w fun e w' => e = .returned (.int .i64 (cut left (szSs cs))) ∧ Gr [] w w' := by
  obtain ⟨ao, cap, rfl, ⟨h1, h2⟩, hcc⟩ := hv.open
  have Hc := hid hcc
  clear hcc hv
  by_cases hlt : left < (cs.length : Int)
  · rw [cut_neg (by unfold szSs; omega)]
    go_enter Tryz.func18, Tryz.ntmps18
    go_wp2_with fail
    go_ret
    exact ⟨rfl, Gr.refl _ _⟩
  · go_enter Tryz.func18, Tryz.ntmps18
    go_wp2_with fail
    go_loopw [1, 5] (fun lv i wr => ∃ (n : Nat) (l : Int), n ≤ cs.length ∧ i = .int .i64 n ∧ lv = .int .i64 l ∧ (0 ≤ l ∧ l ≤ 2000000) ∧ l = left - (cs.length + ((cs.take n).map fun s => szC s.con).sum : Nat) ∧ Gr [] w wr) (fun _ i _ => cs.length - (intOf i).toNat)
    case atStart => exact ⟨0, left - cs.length, Nat.zero_le _, rfl, by go_num, by omega, by simp, Gr.refl _ _⟩
    case round =>
      obtain ⟨n, l, hn, rfl, rfl, hl, he, hg⟩ := hrel
      have He := hid he; clear he
      by_cases hlt : n < cs.length
      · obtain ⟨s, hr⟩ := get_some hlt
        obtain ⟨b, o, vo, vc, xo, xc, ro, rc, rfl, _, ⟨c0, c1, c2, c3, c4, c5⟩, hcon⟩ := (Hc.out.gr hg).at hr
        have Hn1 : Hid (SftV [] wr (.agg #[.int .i64 s.con.kind, .slice vo s.con.vars.length vc, .slice xo s.con.args.length xc, .int .i64 s.con.bound, .slice ro s.con.rows.length rc, .int .i64 s.wt]) s) := hid ⟨_, _, _, rfl, hcon⟩
        have Hs := hid (sum_take (fun s : Sft => szC s.con) hr); have Hle := hid (sum_take_le (fun s : Sft => szC s.con) cs (n + 1)); have Hg := hid hg
        clear hr hcon hg
        go_wp2_with fail
        have hcall := szSoft_c s l _ wr Hn1.out hl
        (with_reducible refine hcall.mono ?_)
        clear hcall
        rintro e w2 ⟨rfl, hg2⟩
        obtain ⟨z, hz⟩ : ∃ z, z = szC s.con := ⟨_, rfl⟩
        rw [← hz]
        have Hz := hid hz
        have Hg2 := hid (Hg.out.trans hg2)
        clear hz hg2
        by_cases hlr : l < (z : Int)
        · rw [cut_neg hlr]
          go_wp2_with fail
          go_ret
          exact ⟨ret_int (by rw [cut_neg]; have := He.out; have h9 := Hs.out; have := Hle.out; have := Hz.out; (try dsimp only at h9); unfold szSs; omega), Hg2.out⟩
        · rw [cut_pos (by omega)]
          go_wp2_with fail
          exact ⟨⟨n + 1, l - z, by omega, by go_num, rfl, by omega, by have := He.out; have h9 := Hs.out; have := Hz.out; (try dsimp only at h9); omega, Hg2.out⟩, by simp [intOf]; omega⟩
      · go_wp2_with fail
        go_ret
        refine ⟨ret_int ?_, hg⟩
        have := He.out
        rw [List.take_of_length_le (by omega)] at this
        rw [cut_pos (by unfold szSs; omega)]; unfold szSs; omega

/-! ### Copies -/
theorem infoSft6 : (Tryz.prog.info? 39).map (fun i => (i.zero, i.size, i.bytes)) = some (some (.agg #[.int .i64 0, .slice none 0 0, .slice none 0 0, .int .i64 0, .slice none 0 0, .int .i64 0]), 6, 96) := by kernel_rfl


set_option maxRecDepth 100000 in
theorem toSoft_c (s : Sft) (v : Value) (w : World) (hv : SftV [] w v s) (hs : s.con.Small) :
    Calls Tryz.prog 67 #[v] w fun e w' => ∃ v', e = .returned v' ∧ SftM (New w.heap.size w') w' v' s ∧ Gr [] w w' := by
  obtain ⟨vo, vc, ao, ac, ro, rc, rfl, hcon⟩ := sft_open hv
  have H1 := hid hcon; have Hs := hid hs
  clear hcon hv hs
  go_enter Tryz.func67, Tryz.ntmps67
  go_wp2_with fail
  generalize hW0 : World.alloc (World.alloc (World.alloc _ _) _) _ = W0
  have h30 := heap3 w (.cells #[.int .i64 s.con.kind, .slice vo s.con.vars.length vc, .slice ao s.con.args.length ac, .int .i64 s.con.bound, .slice ro s.con.rows.length rc, .int .i64 s.wt] 98) (.cells #[.int .i64 0, .slice none 0 0, .slice none 0 0, .int .i64 0, .slice none 0 0, .int .i64 0] 39) (.cells #[.int .i64 0, .slice none 0 0, .slice none 0 0, .int .i64 0, .slice none 0 0, .int .i64 0] 39)
  rw [hW0] at h30
  have hg0 : Gr [] w W0 := by rw [← hW0]; exact (((Gr.refl [] w).alloc _).alloc _).alloc _
  have hs0 : W0.heap.size = w.heap.size + 3 := by rw [← hW0]; simp
  obtain ⟨hbB, hbR, hbO⟩ := h30
  have HB := hid hbB; have HR := hid hbR; have HO : Hid (W0.heap[w.heap.size + 1 + 1]? = some (.cells #[.int .i64 0, .slice none 0 0, .slice none 0 0, .int .i64 0, .slice none 0 0, .int .i64 0] 39 (0, 0))) := hid hbO
  have Hg0 := hid hg0
  clear hW0 hbB hbR hbO hg0
  have hcall := toConstraint_c s.con _ W0 (H1.out.gr Hg0.out) Hs.out
  (with_reducible refine hcall.mono ?_)
  clear hcall
  rintro e w2 ⟨v2, rfl, hown2, hg2⟩
  obtain ⟨vo2, vc2, xo2, xc2, ro2, rc2, rfl, m1, m2, m3⟩ := hown2.open
  have flB := fld (hg2.obj HB.out (by simp)); have flO := fld (hg2.obj HO.out (by simp)); have ffO := fldF (hg2.obj HO.out (by simp)); have flR := fld (hg2.obj HR.out (by simp)); have ffR := fldF (hg2.obj HR.out (by simp))
  have HR2 := hid (hg2.obj HR.out (by simp)); have HO2 := hid (hg2.obj HO.out (by simp))
  have Hg2 := hid (Hg0.out.trans hg2); have M1 := hid m1; have M2 := hid m2; have M3 := hid m3; have hs2 := hg2.size
  clear hown2 hg2 m1 m2 m3
  go_wp2_with fail
  have hgO : Gr [w.heap.size + 1 + 1] w2 ((((((w2.setCell ⟨w.heap.size + 1 + 1, 0, none⟩ (.int .i64 s.con.kind)).setCell ⟨w.heap.size + 1 + 1, 1, none⟩ (.slice vo2 s.con.vars.length vc2)).setCell ⟨w.heap.size + 1 + 1, 2, none⟩ (.slice xo2 s.con.args.length xc2)).setCell ⟨w.heap.size + 1 + 1, 3, none⟩ (.int .i64 s.con.bound)).setCell ⟨w.heap.size + 1 + 1, 4, none⟩ (.slice ro2 s.con.rows.length rc2)).setCell ⟨w.heap.size + 1 + 1, 5, none⟩ (.int .i64 s.wt)) :=
    (((((((Gr.refl _ _).setCell _ _ (.inl (by simp))).setCell _ _ (.inl (by simp))).setCell _ _ (.inl (by simp))).setCell _ _ (.inl (by simp))).setCell _ _ (.inl (by simp))).setCell _ _ (.inl (by simp)))
  have hbE := (block_cells (cur' := #[]) (block_cells (cur' := #[]) (block_cells (cur' := #[]) (block_cells (cur' := #[]) (block_cells (cur' := #[]) (block_cells (cur' := #[]) (hgO.obj HR2.out (by simp)) 0 (.int .i64 s.con.kind)) 1 (.slice vo2 s.con.vars.length vc2)) 2 (.slice xo2 s.con.args.length xc2)) 3 (.int .i64 s.con.bound)) 4 (.slice ro2 s.con.rows.length rc2)) 5 (.int .i64 s.wt))
  have hgE : Gr [w.heap.size + 1 + 1, w.heap.size + 1] w2 ((((((((((((w2.setCell ⟨w.heap.size + 1 + 1, 0, none⟩ (.int .i64 s.con.kind)).setCell ⟨w.heap.size + 1 + 1, 1, none⟩ (.slice vo2 s.con.vars.length vc2)).setCell ⟨w.heap.size + 1 + 1, 2, none⟩ (.slice xo2 s.con.args.length xc2)).setCell ⟨w.heap.size + 1 + 1, 3, none⟩ (.int .i64 s.con.bound)).setCell ⟨w.heap.size + 1 + 1, 4, none⟩ (.slice ro2 s.con.rows.length rc2)).setCell ⟨w.heap.size + 1 + 1, 5, none⟩ (.int .i64 s.wt)).setCell ⟨w.heap.size + 1, 0, none⟩ (.int .i64 s.con.kind)).setCell ⟨w.heap.size + 1, 1, none⟩ (.slice vo2 s.con.vars.length vc2)).setCell ⟨w.heap.size + 1, 2, none⟩ (.slice xo2 s.con.args.length xc2)).setCell ⟨w.heap.size + 1, 3, none⟩ (.int .i64 s.con.bound)).setCell ⟨w.heap.size + 1, 4, none⟩ (.slice ro2 s.con.rows.length rc2)).setCell ⟨w.heap.size + 1, 5, none⟩ (.int .i64 s.wt)) :=
    (((((((((((((Gr.refl _ _).setCell _ _ (.inl (by simp))).setCell _ _ (.inl (by simp))).setCell _ _ (.inl (by simp))).setCell _ _ (.inl (by simp))).setCell _ _ (.inl (by simp))).setCell _ _ (.inl (by simp))).setCell _ _ (.inl (by simp))).setCell _ _ (.inl (by simp))).setCell _ _ (.inl (by simp))).setCell _ _ (.inl (by simp))).setCell _ _ (.inl (by simp))).setCell _ _ (.inl (by simp)))
  generalize hWE : ((((((((((((w2.setCell ⟨w.heap.size + 1 + 1, 0, none⟩ (.int .i64 s.con.kind)).setCell ⟨w.heap.size + 1 + 1, 1, none⟩ (.slice vo2 s.con.vars.length vc2)).setCell ⟨w.heap.size + 1 + 1, 2, none⟩ (.slice xo2 s.con.args.length xc2)).setCell ⟨w.heap.size + 1 + 1, 3, none⟩ (.int .i64 s.con.bound)).setCell ⟨w.heap.size + 1 + 1, 4, none⟩ (.slice ro2 s.con.rows.length rc2)).setCell ⟨w.heap.size + 1 + 1, 5, none⟩ (.int .i64 s.wt)).setCell ⟨w.heap.size + 1, 0, none⟩ (.int .i64 s.con.kind)).setCell ⟨w.heap.size + 1, 1, none⟩ (.slice vo2 s.con.vars.length vc2)).setCell ⟨w.heap.size + 1, 2, none⟩ (.slice xo2 s.con.args.length xc2)).setCell ⟨w.heap.size + 1, 3, none⟩ (.int .i64 s.con.bound)).setCell ⟨w.heap.size + 1, 4, none⟩ (.slice ro2 s.con.rows.length rc2)).setCell ⟨w.heap.size + 1, 5, none⟩ (.int .i64 s.wt)) = WE at hgE hbE ⊢
  have flE := fld hbE
  have hsE := hgE.size
  refine bodyPost_ret (v := .agg #[.int .i64 s.con.kind, .slice vo2 s.con.vars.length vc2, .slice xo2 s.con.args.length xc2, .int .i64 s.con.bound, .slice ro2 s.con.rows.length rc2, .int .i64 s.wt]) ?_ rfl ?_
  · simp [results, Tryz.results67, go_sem, flE]
  · refine ⟨_, rfl, ⟨_, _, _, rfl, ?_, ?_, ?_⟩, Hg2.out.step hgE (fun i hi => .inr (by simp at hi; omega))⟩
    · exact M1.out.gr' hgE (by intro b hb h; have := h.1; simp at hb; omega) (fun b hb h => h.le (by omega) hsE)
    · exact M2.out.gr' hgE (by intro b hb h; have := h.1; simp at hb; omega) (fun b hb h => h.le (by omega) hsE)
    · exact M3.out.gr' hgE (by intro b hb h; have := h.1; simp at hb; omega) (fun b hb h => h.le (by omega) hsE)


set_option maxRecDepth 100000 in
theorem toSoftS_c (cs : List Sft) (v : Value) (w : World) (hv : SftsV [] w v cs) (hl : cs.length ≤ 2000000) (hr : ∀ s ∈ cs, s.con.Small) :
    Calls Tryz.prog 20 #[v] w fun e w' => ∃ v', e = .returned v' ∧ SftsM (New w.heap.size w') w' v' cs ∧ Gr [] w w' := by
  have Hr := hid hr
  obtain ⟨ao, cap, rfl, ⟨h1, h2⟩, hcc⟩ := hv.open
  have Hc := hid hcc
  clear hr hv hcc
  go_enter Tryz.func20, Tryz.ntmps20
  go_wp2_with (at_make; refine wp_mkG rfl _ _ 27 rfl 39 (.agg #[.int .i64 0, .slice none 0 0, .slice none 0 0, .int .i64 0, .slice none 0 0, .int .i64 0]) 6 96 infoSft6 (by omega) Tryz.underlying27 cs.length rfl rfl (by omega) ?_; intro w1 hown1 hg1; have HO1 := hid (sftsM_made hown1 (by omega)); have HG1 := hid hg1; clear hown1 hg1)
  go_loopw [4] (fun i wr => ∃ n : Nat, n ≤ cs.length ∧ i = .int .i64 n ∧ SftsM (New w.heap.size wr) wr (.slice (some ⟨w.heap.size, 0, none⟩) cs.length cs.length) (cs.take n ++ List.replicate (cs.length - n) (⟨⟨0, [], [], 0, []⟩, 0⟩ : Sft)) ∧ Gr [] w wr) (fun i _ => cs.length - (intOf i).toNat)
  case atStart => exact ⟨0, Nat.zero_le _, rfl, by simpa using HO1.out, HG1.out⟩
  case round =>
    obtain ⟨n, hn, rfl, hown, hg⟩ := hrel
    by_cases hlt : n < cs.length
    · obtain ⟨x, hx⟩ := get_some hlt
      obtain ⟨b, o, vo, vc, xo, xc, ro, rc, rfl, _, ⟨c0, c1, c2, c3, c4, c5⟩, hcon⟩ := (Hc.out.gr hg).at hx
      have hxs := Hr.out x (List.mem_of_getElem? hx)
      have Hn0 : Hid (SftV [] wr (.agg #[.int .i64 x.con.kind, .slice vo x.con.vars.length vc, .slice xo x.con.args.length xc, .int .i64 x.con.bound, .slice ro x.con.rows.length rc, .int .i64 x.wt]) x) := hid ⟨_, _, _, rfl, hcon⟩
      have Hown := hid hown; have Hg := hid hg; have Hx := hid hx; have Hxs := hid hxs
      clear hcon hown hg hx hxs
      go_wp2_with fail
      have hcall := toSoft_c x _ wr Hn0.out Hxs.out
      (with_reducible refine hcall.mono ?_)
      clear hcall
      rintro e w2 ⟨v2, rfl, hown2, hg2⟩
      have hR2 := Hown.out.gr' (M' := New w.heap.size w2) hg2 (by simp) (fun b hb h => h.le (Nat.le_refl _) hg2.size)
      obtain ⟨z, hz⟩ := get_some (xs := cs.take n ++ List.replicate (cs.length - n) (⟨⟨0, [], [], 0, []⟩, 0⟩ : Sft)) (k := n) (by simp; omega)
      have hwr : w.heap.size < wr.heap.size := by
        obtain ⟨b9, o9, _, _, _, e10, hM9, _⟩ := Hown.out.at hz
        have e11 : b9 = w.heap.size := (by simp at e10; exact e10.1.symm)
        have := hM9.2; omega
      have hbut : ∀ b, b < w2.heap.size → New wr.heap.size w2 b → but (New w.heap.size w2) w.heap.size b := fun b hb h => ⟨h.le Hg.out.size (Nat.le_refl _), by have := h.1; omega⟩
      obtain ⟨vo2, vc2, xo2, xc2, ro2, rc2, rfl, m1, m2, m3⟩ := hown2.open
      obtain ⟨k0, k1, k2, k3, k4, k5, hf⟩ : (∃ u, w2.cell? ⟨w.heap.size, n * 6, none⟩ = some u) ∧ (∃ u, w2.cell? ⟨w.heap.size, n * 6 + 1, none⟩ = some u) ∧ (∃ u, w2.cell? ⟨w.heap.size, n * 6 + 2, none⟩ = some u) ∧ (∃ u, w2.cell? ⟨w.heap.size, n * 6 + 3, none⟩ = some u) ∧ (∃ u, w2.cell? ⟨w.heap.size, n * 6 + 4, none⟩ = some u) ∧ (∃ u, w2.cell? ⟨w.heap.size, n * 6 + 5, none⟩ = some u) ∧ ∀ j, w2.frozen? ⟨w.heap.size, j, none⟩ = false := by
        obtain ⟨b9, o9, _, _, _, e10, _, ⟨j0, j1, j2, j3, j4, j5⟩, hf, _⟩ := hR2.at hz
        simp only [Option.some.injEq, Addr.mk.injEq] at e10
        obtain ⟨rfl, rfl, _⟩ := e10
        rw [Nat.zero_add] at j0 j1 j2 j3 j4 j5
        exact ⟨⟨_, j0⟩, ⟨_, j1⟩, ⟨_, j2⟩, ⟨_, j3⟩, ⟨_, j4⟩, ⟨_, j5⟩, hf⟩
      obtain ⟨u0, k0⟩ := k0; obtain ⟨u1, k1⟩ := k1; obtain ⟨u2, k2⟩ := k2; obtain ⟨u3, k3⟩ := k3; obtain ⟨u4, k4⟩ := k4; obtain ⟨u5, k5⟩ := k5
      have hset := hR2.set6 (k := n) (by simp; omega) (m1.gr' (Gr.refl [] w2) (by simp) hbut) (m2.gr' (Gr.refl [] w2) (by simp) hbut) (m3.gr' (Gr.refl [] w2) (by simp) hbut)
      have e1 : (cs.take n ++ List.replicate (cs.length - n) (⟨⟨0, [], [], 0, []⟩, 0⟩ : Sft)).set n x = cs.take (n + 1) ++ List.replicate (cs.length - (n + 1)) (⟨⟨0, [], [], 0, []⟩, 0⟩ : Sft) := by
        have hl : (cs.take n).length = n := by rw [List.length_take]; omega
        rw [List.set_append_right _ _ (by omega), hl, Nat.sub_self, List.take_add_one, Hx.out]
        obtain ⟨k, hk⟩ : ∃ k, cs.length - n = k + 1 := ⟨cs.length - n - 1, by omega⟩
        rw [hk, List.replicate_succ, List.set_cons_zero, show cs.length - (n + 1) = k by omega]; simp
      rw [e1] at hset
      have hne : Gr [] w ((((((w2.setCell ⟨w.heap.size, n * 6, none⟩ (.int .i64 x.con.kind)).setCell ⟨w.heap.size, n * 6 + 1, none⟩ (.slice vo2 x.con.vars.length vc2)).setCell ⟨w.heap.size, n * 6 + 2, none⟩ (.slice xo2 x.con.args.length xc2)).setCell ⟨w.heap.size, n * 6 + 3, none⟩ (.int .i64 x.con.bound)).setCell ⟨w.heap.size, n * 6 + 4, none⟩ (.slice ro2 x.con.rows.length rc2)).setCell ⟨w.heap.size, n * 6 + 5, none⟩ (.int .i64 x.wt)) :=
        ((((((Hg.out.trans hg2).setCell _ _ (.inr (Nat.le_refl _))).setCell _ _ (.inr (Nat.le_refl _))).setCell _ _ (.inr (Nat.le_refl _))).setCell _ _ (.inr (Nat.le_refl _))).setCell _ _ (.inr (Nat.le_refl _))).setCell _ _ (.inr (Nat.le_refl _))
      have Hset := hid hset; have Hne := hid hne
      clear hset hne e1 hz hown2 hg2 hR2 m1 m2 m3 hbut
      go_wp2_with fail
      refine ⟨⟨n + 1, by omega, by go_num, Hset.out.gr' (Gr.refl [] _) (by simp) (fun b hb h => ⟨h.1, hb⟩), Hne.out⟩, by simp [intOf]; omega⟩
    · have e1 : cs.take n ++ List.replicate (cs.length - n) (⟨⟨0, [], [], 0, []⟩, 0⟩ : Sft) = cs := by rw [List.take_of_length_le (by omega), show cs.length - n = 0 by omega]; simp
      rw [e1] at hown
      have Hown := hid hown
      clear e1 hown
      go_wp2_with fail
      go_ret
      exact ⟨_, rfl, Hown.out, hg⟩

/-! ### Comparisons -/

set_option maxRecDepth 100000 in
theorem eqSoft_t (s : Sft) (v1 v2 : Value) (w : World) (h1 : SftV [] w v1 s) (h2 : SftV [] w v2 s) :
    Calls Tryz.prog 69 #[v1, v2] w fun e w' => e = .returned (.bool true) ∧ Gr [] w w' := by
  obtain ⟨vo, vc, ao, ac, ro, rc, rfl, n1⟩ := sft_open h1
  obtain ⟨vo', vc', ao', ac', ro', rc', rfl, m1⟩ := sft_open h2
  have hg0 : Gr [] w ((w.alloc (.cells #[.int .i64 s.con.kind, .slice vo s.con.vars.length vc, .slice ao s.con.args.length ac, .int .i64 s.con.bound, .slice ro s.con.rows.length rc, .int .i64 s.wt] 39)).alloc (.cells #[.int .i64 s.con.kind, .slice vo' s.con.vars.length vc', .slice ao' s.con.args.length ac', .int .i64 s.con.bound, .slice ro' s.con.rows.length rc', .int .i64 s.wt] 39)) := ((Gr.refl _ _).alloc _).alloc _
  have hb1 : ((w.alloc (.cells #[.int .i64 s.con.kind, .slice vo s.con.vars.length vc, .slice ao s.con.args.length ac, .int .i64 s.con.bound, .slice ro s.con.rows.length rc, .int .i64 s.wt] 39)).alloc (.cells #[.int .i64 s.con.kind, .slice vo' s.con.vars.length vc', .slice ao' s.con.args.length ac', .int .i64 s.con.bound, .slice ro' s.con.rows.length rc', .int .i64 s.wt] 39)).heap[w.heap.size]? = some (.cells #[.int .i64 s.con.kind, .slice vo s.con.vars.length vc, .slice ao s.con.args.length ac, .int .i64 s.con.bound, .slice ro s.con.rows.length rc, .int .i64 s.wt] 39 (0, 0)) := (heap_alloc_old _ _ (by simp)).trans (heap_alloc_new _ _)
  have hb2 : ((w.alloc (.cells #[.int .i64 s.con.kind, .slice vo s.con.vars.length vc, .slice ao s.con.args.length ac, .int .i64 s.con.bound, .slice ro s.con.rows.length rc, .int .i64 s.wt] 39)).alloc (.cells #[.int .i64 s.con.kind, .slice vo' s.con.vars.length vc', .slice ao' s.con.args.length ac', .int .i64 s.con.bound, .slice ro' s.con.rows.length rc', .int .i64 s.wt] 39)).heap[w.heap.size + 1]? = some (.cells #[.int .i64 s.con.kind, .slice vo' s.con.vars.length vc', .slice ao' s.con.args.length ac', .int .i64 s.con.bound, .slice ro' s.con.rows.length rc', .int .i64 s.wt] 39 (0, 0)) := by
    have := heap_alloc_new (w.alloc (.cells #[.int .i64 s.con.kind, .slice vo s.con.vars.length vc, .slice ao s.con.args.length ac, .int .i64 s.con.bound, .slice ro s.con.rows.length rc, .int .i64 s.wt] 39)) (.cells #[.int .i64 s.con.kind, .slice vo' s.con.vars.length vc', .slice ao' s.con.args.length ac', .int .i64 s.con.bound, .slice ro' s.con.rows.length rc', .int .i64 s.wt] 39)
    rwa [World.size_alloc] at this
  have N1 := hid (n1.gr hg0); have M1 := hid (m1.gr hg0)
  have Hg0 := hid hg0; have Hb1 := hid hb1; have Hb2 := hid hb2
  have f1 := fld hb1; have f2 := fld hb2
  clear n1 m1 hg0 hb1 hb2 h1 h2
  go_enter Tryz.func69, Tryz.ntmps69
  go_wp2_with fail
  have hcall := eqConstraint_t s.con _ _ _ N1.out M1.out
  (with_reducible refine hcall.mono ?_)
  clear hcall
  rintro e w2 ⟨rfl, hg2⟩
  have g1 := fld (hg2.obj Hb1.out (by simp)); have g2 := fld (hg2.obj Hb2.out (by simp))
  have Hg2 := hid (Hg0.out.trans hg2)
  clear f1 f2 hg2
  go_wp2_with fail
  go_ret
  exact ⟨rfl, Hg2.out⟩


set_option maxRecDepth 100000 in
theorem eqSoftS_t (cs : List Sft) (vx vy : Value) (w : World) (hx : SftsV [] w vx cs) (hy : SftsV [] w vy cs) :
    Calls Tryz.prog 23 #[vx, vy] w fun e w' => e = .returned (.bool true) ∧ Gr [] w w' := by
  have Hx := hid hx; have Hy := hid hy
  obtain ⟨xo, xc, rfl, ⟨hx1, hx2, _⟩, _⟩ := hx
  obtain ⟨yo, yc, rfl, ⟨hy1, hy2, _⟩, _⟩ := hy
  go_enter Tryz.func23, Tryz.ntmps23
  go_wp2_with fail
  go_loopw [5] (fun i wr => ∃ n : Nat, n ≤ cs.length ∧ i = .int .i64 n ∧ Gr [] w wr) (fun i _ => cs.length - (intOf i).toNat)
  case atStart => exact ⟨0, Nat.zero_le _, rfl, Gr.refl _ _⟩
  case round =>
    obtain ⟨n, hn, rfl, hg⟩ := hrel
    by_cases hlt : n < cs.length
    · obtain ⟨x, hx⟩ := get_some hlt
      obtain ⟨b, o, vo, vc, xo, xc, ro, rc, rfl, _, ⟨c0, c1, c2, c3, c4, c5⟩, hcon⟩ := (Hx.out.gr hg).at hx
      obtain ⟨b', o', vo', vc', xo', xc', ro', rc', rfl, _, ⟨d0, d1, d2, d3, d4, d5⟩, hcon'⟩ := (Hy.out.gr hg).at hx
      have e0 : ∀ k : GrW [] wr, k.val.cell? ⟨b, o + n * 6, none⟩ = some (.int .i64 x.con.kind) := fun k => k.gr.cell c0 (by simp)
      have e1 : ∀ k : GrW [] wr, k.val.cell? ⟨b, o + n * 6 + 1, none⟩ = some (.slice vo x.con.vars.length vc) := fun k => k.gr.cell c1 (by simp)
      have e2 : ∀ k : GrW [] wr, k.val.cell? ⟨b, o + n * 6 + 2, none⟩ = some (.slice xo x.con.args.length xc) := fun k => k.gr.cell c2 (by simp)
      have e3 : ∀ k : GrW [] wr, k.val.cell? ⟨b, o + n * 6 + 3, none⟩ = some (.int .i64 x.con.bound) := fun k => k.gr.cell c3 (by simp)
      have e4 : ∀ k : GrW [] wr, k.val.cell? ⟨b, o + n * 6 + 4, none⟩ = some (.slice ro x.con.rows.length rc) := fun k => k.gr.cell c4 (by simp)
      have e5 : ∀ k : GrW [] wr, k.val.cell? ⟨b, o + n * 6 + 5, none⟩ = some (.int .i64 x.wt) := fun k => k.gr.cell c5 (by simp)
      have e0' : ∀ k : GrW [] wr, k.val.cell? ⟨b', o' + n * 6, none⟩ = some (.int .i64 x.con.kind) := fun k => k.gr.cell d0 (by simp)
      have e1' : ∀ k : GrW [] wr, k.val.cell? ⟨b', o' + n * 6 + 1, none⟩ = some (.slice vo' x.con.vars.length vc') := fun k => k.gr.cell d1 (by simp)
      have e2' : ∀ k : GrW [] wr, k.val.cell? ⟨b', o' + n * 6 + 2, none⟩ = some (.slice xo' x.con.args.length xc') := fun k => k.gr.cell d2 (by simp)
      have e3' : ∀ k : GrW [] wr, k.val.cell? ⟨b', o' + n * 6 + 3, none⟩ = some (.int .i64 x.con.bound) := fun k => k.gr.cell d3 (by simp)
      have e4' : ∀ k : GrW [] wr, k.val.cell? ⟨b', o' + n * 6 + 4, none⟩ = some (.slice ro' x.con.rows.length rc') := fun k => k.gr.cell d4 (by simp)
      have e5' : ∀ k : GrW [] wr, k.val.cell? ⟨b', o' + n * 6 + 5, none⟩ = some (.int .i64 x.wt) := fun k => k.gr.cell d5 (by simp)

      have Hn1 : Hid (SftV [] wr (.agg #[.int .i64 x.con.kind, .slice vo x.con.vars.length vc, .slice xo x.con.args.length xc, .int .i64 x.con.bound, .slice ro x.con.rows.length rc, .int .i64 x.wt]) x) := hid ⟨_, _, _, rfl, hcon⟩
      have Hn2 : Hid (SftV [] wr (.agg #[.int .i64 x.con.kind, .slice vo' x.con.vars.length vc', .slice xo' x.con.args.length xc', .int .i64 x.con.bound, .slice ro' x.con.rows.length rc', .int .i64 x.wt]) x) := hid ⟨_, _, _, rfl, hcon'⟩
      have Hg := hid hg
      clear hx hcon hcon' hg c0 c1 c2 c3 c4 c5 d0 d1 d2 d3 d4 d5
      go_wp2_with fail
      refine wp_region_gr [] _ (by kernel_rfl) (by kernel_rfl) (Gr.refl _ _) ?_
      repeat (go_big_quiet_step ((go_at_call 69; exact Calls.gr_of (eqSoft_t x _ _ _ (Hn1.out.gr (GrW.gr _)) (Hn2.out.gr (GrW.gr _))))))
      refine wpQuiet_nil ?_
      rintro w7 ⟨n7, hw7⟩
      have hg7 : Gr [] wr w7 := hw7 ▸ n7.gr
      clear hw7 n7 e0 e1 e2 e3 e4 e5 e0' e1' e2' e3' e4' e5'
      go_wp2_with fail
      exact ⟨⟨n + 1, by omega, by go_num, Hg.out.trans hg7⟩, by simp [intOf]; omega⟩
    · go_wp2_with fail
      go_ret
      exact ⟨rfl, hg⟩

/-! ### Marks -/
def mkSs (ss : List Sft) : Nat := (ss.map fun s => mkC s.con + 1).sum
theorem mkSs_le {ss : List Sft} (h : szSs ss ≤ 1048576) : mkSs ss ≤ 4194304 := by
  have h1 : mkSs ss ≤ 3 * ss.length + (ss.map fun s => szC s.con).sum := by
    unfold mkSs
    clear h
    induction ss with
    | nil => simp
    | cons c r ih =>
      have : mkC c.con ≤ 2 + szC c.con := by unfold mkC szC szR mkR; omega
      simp only [List.map_cons, List.sum_cons, List.length_cons]; omega
  unfold szSs at h
  omega
theorem SftsM.seg {M M' : Nat → Prop} {w w' : World} {b o n cap : Nat} {cs : List Sft} (h : SftsM M w (.slice (some ⟨b, o, none⟩) n cap) cs) (k : Mk M' w w') {i : Nat} {s : Sft} (hi : cs[i]? = some s) :
    ∃ kd bd wt vo vc xo xc ro rc vs ars rs, M b ∧ (w'.cell? ⟨b, o + i * 6, none⟩ = some (.int .i64 kd) ∧ w'.cell? ⟨b, o + i * 6 + 1, none⟩ = some (.slice vo s.con.vars.length vc) ∧ w'.cell? ⟨b, o + i * 6 + 2, none⟩ = some (.slice xo s.con.args.length xc) ∧
      w'.cell? ⟨b, o + i * 6 + 3, none⟩ = some (.int .i64 bd) ∧ w'.cell? ⟨b, o + i * 6 + 4, none⟩ = some (.slice ro s.con.rows.length rc) ∧ w'.cell? ⟨b, o + i * 6 + 5, none⟩ = some (.int .i64 wt)) ∧ (∀ j, w'.frozen? ⟨b, j, none⟩ = false) ∧
      (vs.length = s.con.vars.length ∧ ars.length = s.con.args.length ∧ mkR rs = mkR s.con.rows) ∧
      NumsM (but M b) w' (.slice vo s.con.vars.length vc) vs ∧ NumsM (but M b) w' (.slice xo s.con.args.length xc) ars ∧ RowsM (but M b) w' (.slice ro s.con.rows.length rc) rs := by
  obtain ⟨b', o', vv, av, rv, e, hm, ⟨c0, c1, c2, c3, c4, c5⟩, hf, n1, n2, n3⟩ := h.at hi
  simp only [Option.some.injEq, Addr.mk.injEq] at e
  obtain ⟨rfl, rfl, _⟩ := e
  obtain ⟨vo, vc, rfl, _⟩ := id n1
  obtain ⟨xo, xc, rfl, _⟩ := id n2
  obtain ⟨ro, rc, rfl, _⟩ := id n3
  obtain ⟨kd, hkd⟩ := k.int _ _ c0
  obtain ⟨bd, hbd⟩ := k.int _ _ c3
  obtain ⟨wt, hwt⟩ := k.int _ _ c5
  obtain ⟨vs, l1, m1⟩ := n1.mk k
  obtain ⟨ars, l2, m2⟩ := n2.mk k
  obtain ⟨rs, l3, m3⟩ := n3.mk k
  exact ⟨kd, bd, wt, vo, vc, xo, xc, ro, rc, vs, ars, rs, hm, ⟨hkd, k.same _ _ c1 n1.form, k.same _ _ c2 n2.form, hbd, k.same _ _ c4 n3.form, hwt⟩,
    fun j => (k.frozen ⟨b, j, none⟩ (show b < w.heap.size from World.block_lt_of_cell? w ⟨b, o + i * 6, none⟩ c0)).trans (hf j), ⟨l1, l2, by unfold mkR; rw [l3]⟩, m1, m2, m3⟩


set_option maxRecDepth 100000 in
theorem markSoftS_c (M : Nat → Prop) (cs : List Sft) (k : Int) (v : Value) (w : World) (hv : SftsM M w v cs) (hk : 0 ≤ k ∧ k ≤ 10000000) (hl : mkSs cs ≤ 10000000) :
    Calls Tryz.prog 25 #[v, .int .i64 k] w fun e w' => e = .returned (.int .i64 (k + mkSs cs)) ∧ Mk M w w' := by
  have Hv := hid hv
  obtain ⟨ao, cap, rfl, ⟨h1, h2, _⟩, _⟩ := hv
  go_enter Tryz.func25, Tryz.ntmps25
  go_wp2_with fail
  go_loopw [1, 5] (fun kv i wr => ∃ (n : Nat) (q : Nat), n ≤ cs.length ∧ i = .int .i64 n ∧ kv = .int .i64 (k + q) ∧ q = ((cs.take n).map fun s => mkC s.con + 1).sum ∧ Mk M w wr) (fun _ i _ => cs.length - (intOf i).toNat)
  case atStart => exact ⟨0, 0, Nat.zero_le _, rfl, by simp, by simp, Mk.refl _ _⟩
  case round =>
    obtain ⟨n, q, hn, rfl, rfl, hq, hg⟩ := hrel
    have hq2 : q ≤ 10000000 := by have := sum_take_le (fun s : Sft => mkC s.con + 1) cs n; unfold mkSs at hl; omega
    have Hq := hid hq; clear hq
    by_cases hlt : n < cs.length
    · obtain ⟨s, hc⟩ := get_some hlt
      have hst : ((cs.take (n + 1)).map fun s => mkC s.con + 1).sum = ((cs.take n).map fun s => mkC s.con + 1).sum + (mkC s.con + 1) := sum_take (fun s : Sft => mkC s.con + 1) hc
      have hsl := sum_take_le (fun s : Sft => mkC s.con + 1) cs (n + 1)
      have hcl : mkC s.con ≤ 10000000 := by unfold mkSs at hl; omega
      obtain ⟨b, o, _, _, _, rfl, _⟩ := Hv.out.at hc
      obtain ⟨kd, bd, wt, vo, vc, xo, xc, ro, rc, vs, ars, rs, hm, ⟨c0, c1, c2, c3, c4, c5⟩, hf, ⟨l1, l2, l3⟩, n1, n2, n3⟩ := Hv.out.seg hg hc
      have Hg := hid hg; have Hc := hid hc; have Hst := hid hst; have Hcl := hid hcl
      have hmk1 := hg.set (y := k + q) hm c0
      have hs1 : Mk M wr (wr.setCell ⟨b, o + n * 6, none⟩ (.int .i64 (k + q))) := (Mk.refl M wr).set hm c0
      have hd1 : (wr.setCell ⟨b, o + n * 6, none⟩ (.int .i64 (k + q))).cell? ⟨b, o + n * 6 + 1, none⟩ = some (.slice vo s.con.vars.length vc) := hs1.same _ _ c1 (by intro x h; cases h)
      obtain ⟨vs1, l1', m1⟩ := n1.mk hs1
      have Hm1 := hid m1; have Hmk1 := hid hmk1; have L1 := hid (l1'.trans l1)
      have hvl : s.con.vars.length ≤ 10000000 := by unfold mkC at hcl; omega
      have hm' := hid hm
      clear hg hc hst hsl n1 n2 n3 m1 hmk1 hs1 l1 l2 l3 l1' hm c1 c2 c3 c4 c5
      go_wp2_with fail
      have hcall := markIntS_c (but M b) vs1 (k + q + 1) _ _ Hm1.out (by omega) (by rw [L1.out]; omega)
      rw [L1.out] at hcall
      (with_reducible refine hcall.mono ?_)
      clear hcall
      rintro e w2 ⟨rfl, _, hmk2⟩
      have hmk2 := Hmk1.out.trans (hmk2.imp fun _ h => h.1)
      obtain ⟨kd2, bd2, wt2, vo2, vc2, xo2, xc2, ro2, rc2, vs2, ars2, rs2, _, ⟨d0, d1, d2, d3, d4, d5⟩, hf2, ⟨_, l2, _⟩, _, n2, _⟩ := Hv.out.seg hmk2 Hc.out
      have Hn2 := hid n2; have Hmk2 := hid hmk2; have L2 := hid l2
      have hal : s.con.args.length ≤ 10000000 := by have := Hcl.out; unfold mkC at this; omega
      clear n2 hmk2 l2 c0 hf hd1 d0 d1 d3 d4 d5
      go_wp2_with fail
      have hcall := markIntS_c (but M b) ars2 (k + q + 1 + s.con.vars.length) _ _ Hn2.out (by omega) (by rw [L2.out]; omega)
      rw [L2.out] at hcall
      (with_reducible refine hcall.mono ?_)
      clear hcall
      rintro e w3 ⟨rfl, _, hmk3⟩
      have hmk3 := Hmk2.out.trans (hmk3.imp fun _ h => h.1)
      obtain ⟨kd3, bd3, wt3, vo3, vc3, xo3, xc3, ro3, rc3, vs3, ars3, rs3, _, ⟨e0, e1, e2, e3, e4, e5⟩, hf3, ⟨_, _, l3⟩, _, _, n3⟩ := Hv.out.seg hmk3 Hc.out
      have hmk4 := hmk3.set (y := k + q + 1 + s.con.vars.length + s.con.args.length) hm'.out e3
      have hs4 : Mk M w3 (w3.setCell ⟨b, o + n * 6 + 3, none⟩ (.int .i64 (k + q + 1 + s.con.vars.length + s.con.args.length))) := (Mk.refl M w3).set hm'.out e3
      have he4 : (w3.setCell ⟨b, o + n * 6 + 3, none⟩ (.int .i64 (k + q + 1 + s.con.vars.length + s.con.args.length))).cell? ⟨b, o + n * 6 + 4, none⟩ = some (.slice ro3 s.con.rows.length rc3) := hs4.same _ _ e4 (by intro x h; cases h)
      obtain ⟨rs4, l4, n4⟩ := n3.mk hs4
      have Hn4 := hid n4; have Hmk4 := hid hmk4; have L4 := hid (show mkR rs4 = mkR s.con.rows by rw [← l3]; unfold mkR; rw [l4])
      have hrl : mkR s.con.rows ≤ 10000000 := by have := Hcl.out; unfold mkC at this; omega
      clear n3 n4 hmk3 hmk4 l3 l4 hs4 hf2 d2 e0 e1 e2 e4 e5
      go_wp2_with fail
      have hcall := markIntSS_c (but M b) rs4 (k + q + 1 + s.con.vars.length + s.con.args.length + 1) _ _ Hn4.out (by omega) (by rw [L4.out]; omega)
      rw [L4.out] at hcall
      (with_reducible refine hcall.mono ?_)
      clear hcall
      rintro e w5 ⟨rfl, hmk5⟩
      have hmk5 := Hmk4.out.trans (hmk5.imp fun _ h => h.1)
      obtain ⟨kd5, bd5, wt5, vo5, vc5, xo5, xc5, ro5, rc5, vs5, ars5, rs5, _, ⟨_, _, _, _, _, g5⟩, hf5, _⟩ := Hv.out.seg hmk5 Hc.out
      obtain ⟨z, hz⟩ : ∃ z, z = mkR s.con.rows := ⟨_, rfl⟩
      rw [← hz] at hrl ⊢
      have Hz := hid hz
      have Hmk6 := hid (hmk5.set (y := k + q + 1 + s.con.vars.length + s.con.args.length + 1 + z) hm'.out g5)
      clear hmk5 he4 e3 hf3 hz
      go_wp2_with fail
      refine ⟨⟨n + 1, q + (mkC s.con + 1), by omega, by go_num, ?_, by rw [Hst.out, Hq.out], Hmk6.out⟩, by simp [intOf]; omega⟩
      have := Hz.out
      unfold mkC
      rw [← this]
      congr 1
      omega
    · have hnl : q = mkSs cs := by rw [Hq.out, List.take_of_length_le (by omega)]; rfl
      have Hnl := hid hnl; have Hg := hid hg
      clear hnl hg
      go_wp2_with fail
      go_ret
      exact ⟨ret_int (by rw [Hnl.out]), Hg.out⟩

end Go.Proofs.YtngpcoilgilmjaaGreat

