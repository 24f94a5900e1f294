/-
  Walk of the generator of soft constraints.
-/
import Derived.Test.YtngpcoilgilmjaaGreatSo
import Derived.Test.YtngpcoilgilmjaaGreatSs
import Derived.Test.YtngpcoilgilmjaaGreatG14
set_option linter.unusedVariables false
set_option linter.unusedSimpArgs false
namespace Go.Proofs.YtngpcoilgilmjaaGreat
open Go.RowKit

def elSft (S : List Nat) (w : World) (cs : List Value) (s : Sft) : Prop :=
  ∃ vo vc xo xc ro rc, cs = [.int .i64 s.con.kind, .slice vo s.con.vars.length vc, .slice xo s.con.args.length xc, .int .i64 s.con.bound, .slice ro s.con.rows.length rc, .int .i64 s.wt] ∧
    ConV S w (.agg #[.int .i64 s.con.kind, .slice vo s.con.vars.length vc, .slice xo s.con.args.length xc, .int .i64 s.con.bound, .slice ro s.con.rows.length rc]) s.con
theorem elSft_ok : ElOk elSft :=
  ⟨fun ⟨a1, a2, a3, a4, a5, a6, e, h⟩ hg => ⟨a1, a2, a3, a4, a5, a6, e, h.gr hg⟩, fun ⟨a1, a2, a3, a4, a5, a6, e, h⟩ hs => ⟨a1, a2, a3, a4, a5, a6, e, h.sub hs⟩⟩
theorem infoSft : (Tryz.prog.info? 39).map (fun i => (i.zero, i.size, i.bytes)) = some (some (.agg #[.int .i64 0, .slice none 0 0, .slice none 0 0, .int .i64 0, .slice none 0 0, .int .i64 0]), 6, 96) := by kernel_rfl
theorem con_parts {S : List Nat} {w : World} {k b : Int} {vo xo ro : Option Addr} {n1 n2 n3 vc xc rc : Nat} {c : Con} (h : ConV S w (.agg #[.int .i64 k, .slice vo n1 vc, .slice xo n2 xc, .int .i64 b, .slice ro n3 rc]) c) :
    Nums S w .i64 (.slice vo n1 vc) c.vars ∧ Nums S w .i64 (.slice xo n2 xc) c.args ∧ RowsV S w (.slice ro n3 rc) c.rows := by
  obtain ⟨vv, av, rv, e2, n1, n2, n3⟩ := h
  simp only [Value.agg.injEq] at e2
  have e3 := congrArg (fun a => a[1]?) e2
  have e4 := congrArg (fun a => a[2]?) e2
  have e5 := congrArg (fun a => a[4]?) e2
  simp only [List.getElem?_toArray, List.getElem?_cons_succ, List.getElem?_cons_zero, Option.some.injEq] at e3 e4 e5
  subst e3 e4 e5
  exact ⟨n1, n2, n3⟩
theorem OwnG.sfts {B : Nat} {w : World} {e : TypeId} {v : Value} {ss : List Sft} (h : OwnG 6 elSft B w e v ss) {S : List Nat} (hS : ∀ b ∈ S, b < B ∨ w.heap.size ≤ b) : SftsV S w v ss := by
  obtain ⟨ao, cap, rfl, h1, h2, h3⟩ := h.slice
  refine ⟨ao, cap, rfl, ⟨h1, h2, h3⟩, fun i c hi => ?_⟩
  obtain ⟨g, cap', us, e1, hb, hlt, hl, hc, hf, hel⟩ := h.cell hi
  cases e1
  obtain ⟨vo, vc, xo, xc, ro, rc, rfl, hcon⟩ := hel S (fun b hb => (hS b hb).imp id .inl)
  obtain ⟨n1, n2, n3⟩ := con_parts hcon
  refine ⟨g, 0, _, _, _, rfl, fun hm => by rcases hS g hm with h | h <;> omega, ⟨?_, ?_, ?_, ?_, ?_, ?_⟩, n1, n2, n3⟩
  · have := hc 0 _ rfl; simpa using this
  · have := hc 1 _ rfl; simpa [Nat.add_assoc] using this
  · have := hc 2 _ rfl; simpa [Nat.add_assoc] using this
  · have := hc 3 _ rfl; simpa [Nat.add_assoc] using this
  · have := hc 4 _ rfl; simpa [Nat.add_assoc] using this
  · have := hc 5 _ rfl; simpa [Nat.add_assoc] using this
theorem cell_other {w : World} {g i j : Nat} {u x : Value} (h : w.cell? ⟨g, j, none⟩ = some x) (hne : j ≠ i) : (w.setCell ⟨g, i, none⟩ u).cell? ⟨g, j, none⟩ = some x := by
  rw [World.cell?_setCell_other (h := by intro e; cases e; exact hne rfl)]; exact h
/-- The first one's weight, set anew. -/
theorem OwnG.sfts_set {B : Nat} {w : World} {e : TypeId} {g n cap : Nat} {ss : List Sft} {s0 : Sft} (h : OwnG 6 elSft B w e (.slice (some ⟨g, 0, none⟩) n cap) ss) (h0 : ss[0]? = some s0) (x : Int) {S : List Nat} (hS : ∀ b ∈ S, b < B ∨ w.heap.size ≤ b) :
    SftsV S (w.setCell ⟨g, 5, none⟩ (.int .i64 x)) (.slice (some ⟨g, 0, none⟩) n cap) (ss.set 0 ⟨s0.con, x⟩) := by
  obtain ⟨ao, cap0, e0, h1, h2, h3⟩ := h.slice
  have hgr : Gr [g] w (w.setCell ⟨g, 5, none⟩ (.int .i64 x)) := (Gr.refl _ _).setCell _ _ (.inl (by simp))
  simp only [Value.slice.injEq] at e0
  obtain ⟨rfl, rfl, rfl⟩ := e0
  refine ⟨some ⟨g, 0, none⟩, cap, by simp, ⟨by simpa using h1, h2, h3⟩, fun i c hi => ?_⟩
  have key : ∃ s, ss[i]? = some s ∧ c.con = s.con ∧ (i ≠ 0 → c = s) ∧ (i = 0 → c.wt = x) := by
    by_cases hz : i = 0
    · subst hz
      rw [List.getElem?_set_self (List.getElem?_eq_some_iff.1 h0).1] at hi
      cases hi
      exact ⟨s0, h0, rfl, by simp, fun _ => rfl⟩
    · rw [List.getElem?_set_ne (Ne.symm hz)] at hi
      exact ⟨c, hi, rfl, fun _ => rfl, fun e => absurd e hz⟩
  obtain ⟨s, hs, hcon0, hc1, hc2⟩ := key
  obtain ⟨g', cap', us, e1, hb, hlt, hl, hc, hf, hel⟩ := h.cell hs
  simp only [Value.slice.injEq, Option.some.injEq, Addr.mk.injEq] at e1
  obtain ⟨⟨rfl, -⟩, -, -⟩ := e1
  obtain ⟨vo, vc, xo, xc, ro, rc, rfl, hcon⟩ := hel (g :: S) (fun b hb => by
    rcases List.mem_cons.1 hb with hb | hb
    · exact .inr (.inr hb)
    · exact (hS b hb).imp id .inl)
  have hcon' := (hcon.gr (hgr.sub fun k _ hk => by simp at hk; simp [hk])).sub (S' := S) (fun b _ hb => by simp [hb])
  obtain ⟨n1, n2, n3⟩ := con_parts hcon'
  rw [hcon0]
  refine ⟨g, 0, _, _, _, rfl, fun hm => by rcases hS g hm with h | h <;> omega, ⟨?_, ?_, ?_, ?_, ?_, ?_⟩, n1, n2, n3⟩
  · have := hc 0 _ rfl; exact cell_other (by simpa using this) (by omega)
  · have := hc 1 _ rfl; exact cell_other (by simpa [Nat.add_assoc] using this) (by omega)
  · have := hc 2 _ rfl; exact cell_other (by simpa [Nat.add_assoc] using this) (by omega)
  · have := hc 3 _ rfl; exact cell_other (by simpa [Nat.add_assoc] using this) (by omega)
  · have := hc 4 _ rfl; exact cell_other (by simpa [Nat.add_assoc] using this) (by omega)
  · have h5 := hc 5 _ rfl
    by_cases hz : i = 0
    · subst hz
      rw [hc2 rfl]
      have h6 : w.cell? ⟨g, 5, none⟩ = some (.int .i64 s.wt) := by simpa using h5
      have h7 := World.cell?_setCell_same w ⟨g, 5, none⟩ (.int .i64 x) h6
      simpa using h7
    · rw [hc1 hz]
      exact cell_other (by simpa [Nat.add_assoc] using h5) (by omega)

/-- As the generator makes them: each constraint valid, only the first one's weight perhaps bad. -/
def SoftOk (ss : List Sft) (n : Nat) : Prop := (∀ s ∈ ss, VC s.con n) ∧ ∀ s ∈ ss.drop 1, 1 ≤ s.wt ∧ s.wt ≤ 9
def SoftPost (n R : Nat) (bs : List Int) (q : Nat) (w : World) (e : Ending) (w' : World) : Prop :=
  ∃ (ss : List Sft) (so : Option Addr) (sc : Nat), e = .returned (.slice so ss.length sc) ∧ (∀ S : List Nat, (∀ b ∈ S, b < w.heap.size ∨ w'.heap.size ≤ b) → SftsV S w' (.slice so ss.length sc) ss) ∧
    ss.length ≤ 4 ∧ (∀ s ∈ ss, TinyV s.con ∧ 0 ≤ s.wt ∧ s.wt ≤ 10) ∧ SoftOk ss n ∧ Rd w' R bs q ∧ Gr [R] w w'


set_option maxRecDepth 100000 in
set_option maxHeartbeats 4000000 in
theorem softList_c (R : Nat) (bs : List Int) (q n : Nat) (w : World) (hr : Rd w R bs q) (hq : q ≤ 1000000) (hn1 : 1 ≤ n) (hn4 : n ≤ 4) :
    Calls Tryz.prog 105 #[.pointer (some ⟨R, 0, none⟩), .int .i64 n] w (SoftPost n R bs (q + 2000) w) := by
  have hRw := hr.lt
  have hown0 : OwnG 6 elSft w.heap.size (w.alloc (.cells #[] 39)) 39 (.slice (some ⟨w.heap.size, 0, none⟩) 0 0) ([] : List Sft) :=
    ⟨[], rfl, by simp, ⟨by simp, .inr ⟨w.heap.size, 0, #[], rfl, Nat.le_refl _, heap_alloc_new _ _, Nat.le_refl _, by simp [maxLen], by simp, by simp⟩⟩, by intro i cs x h; simp at h⟩
  have hg0 : Gr [] w (w.alloc (.cells #[] 39)) := (Gr.refl _ _).alloc _
  have Hown0 := hid hown0; have Hg0 := hid hg0; have Hr := hid hr
  clear hown0 hg0 hr
  go_enter Tryz.func105, Tryz.ntmps105
  go_wp2_with fail
  have hcall := pick_c R bs q 4 _ (Hr.out.gr Hg0.out) (by omega) (by omega)
  (with_reducible refine hcall.mono ?_)
  clear hcall
  rintro e w1 ⟨⟨r1, rfl, hr10, hr1n⟩, hrd1, hg1⟩
  obtain ⟨r1, rfl⟩ := Int.eq_ofNat_of_zero_le hr10
  have hr14 : r1 < 4 := by omega
  have Hown1 := hid (Hown0.out.gr elSft_ok hg1 (by simp; omega)); have HG1 : Hid (Gr [R] w w1) := hid (Hg0.out.any.trans hg1); have Hrd1 := hid hrd1
  clear hg1 hrd1 hr10 hr1n
  go_wp2_with fail
  go_loopw [5, 6] (fun v i wr => ∃ (k : Nat) (ss : List Sft), k ≤ 4 ∧ i = .int .i64 k ∧ ss.length + k = r1 ∧ OwnG 6 elSft w.heap.size wr 39 v ss ∧ (∀ s ∈ ss, (TinyV s.con ∧ VC s.con n) ∧ 1 ≤ s.wt ∧ s.wt ≤ 9) ∧ Rd wr R bs (q + 1 + 300 * ss.length) ∧ Gr [R] w wr) (fun _ i _ => (intOf i).toNat)
  case atStart => exact ⟨r1, [], by omega, rfl, by simp, Hown1.out, by simp, Hrd1.out, HG1.out⟩
  case round =>
    obtain ⟨k, ss, hk, rfl, hal, hown, htv, hrd, hL⟩ := hrel
    obtain ⟨so, sc, rfl, _, _, _⟩ := hown.slice
    have hss4 : ss.length ≤ 4 := by omega
    have hwr := hL.size
    have Hown := hid hown; have Hrd := hid hrd; have HL := hid hL; have Htv := hid htv; have Hal := hid hal
    clear hown hrd hL htv hal
    by_cases hlt : 0 < k
    · go_wp2_with fail
      have hcall := randomConstraint_v R bs (q + 1 + 300 * ss.length) n _ Hrd.out (by omega) hn1 hn4
      (with_reducible refine hcall.mono ?_)
      clear hcall
      rintro e w6 ⟨c6, vo6, vc6, xo6, xc6, ro6, rc6, rfl, hc6, ht6, hv6, hk6, hrd6, hg6⟩
      have Hc6 := hid hc6; have Ht6 : Hid (TinyV c6 ∧ VC c6 n) := hid ⟨⟨ht6, hv6⟩, hk6⟩; have Hrd6 := hid hrd6; have Hg6 := hid hg6
      have hs6 := hg6.size
      clear hc6 ht6 hv6 hk6 hrd6 hg6
      go_wp2_with fail
      have hcall := pick_c R bs (q + 1 + 300 * ss.length + 200) 9 _ Hrd6.out (by omega) (by omega)
      (with_reducible refine hcall.mono ?_)
      clear hcall
      rintro e w7 ⟨⟨r7, rfl, hr70, hr7n⟩, hrd7, hg7⟩
      obtain ⟨r7, rfl⟩ := Int.eq_ofNat_of_zero_le hr70
      have hr79 : r7 < 9 := by omega
      have hs7 := hg7.size
      have Hrd7 := hid hrd7; have Hg7 := hid hg7; have HG7 : Hid (Gr [R] wr w7) := hid (Hg6.out.trans hg7)
      clear hrd7 hg7 hr70 hr7n
      go_wp2_with (at_builtin; go_loud (refine wp_appG rfl _ _ 27 rfl 6 elSft elSft_ok w.heap.size 39 (.agg #[.int .i64 0, .slice none 0 0, .slice none 0 0, .int .i64 0, .slice none 0 0, .int .i64 0]) 96 infoSft rfl (by omega) (by omega) Tryz.underlying27 (.slice so ss.length sc) ss rfl ((Hown.out.gr elSft_ok HG7.out (by simp; omega)).gr elSft_ok ((Gr.refl [] _).alloc _) (by simp)) w7.heap.size 1 ⟨c6, 1 + (r7 : Int)⟩ [.int .i64 c6.kind, .slice vo6 c6.vars.length vc6, .slice xo6 c6.args.length xc6, .int .i64 c6.bound, .slice ro6 c6.rows.length rc6, .int .i64 (1 + (r7 : Int))] rfl rfl (by simp [Value.oneCell']) (fun j u hj => by rw [fld (heap_alloc_new w7 _) j]; simpa using hj) (fun S hS => ⟨_, _, _, _, _, _, rfl, ?_⟩) (by omega) (by simp; omega) ?_; rotate_left; intro v8 w8 hown8 hg8))
      · have hob : ∀ i ∈ (Value.slice so ss.length sc).ownBlock.toList, w.heap.size ≤ i ∧ i < wr.heap.size := fun i hi => Hown.out.ownB (by simpa using hi)
        have hal := Hal.out
        refine ⟨⟨k - 1, ss ++ [⟨c6, 1 + (r7 : Int)⟩], by omega, by go_num, by rw [List.length_append, List.length_singleton]; omega, hown8, fun s hs => ?_, ?_, ((HL.out.trans HG7.out).alloc _).step hg8 (fun i hi => .inr (hob i hi).1)⟩, by simp [intOf]; omega⟩
        · rcases List.mem_append.1 hs with h | h
          · exact Htv.out s h
          · rw [List.mem_singleton.1 h]; exact ⟨Ht6.out, by show (1:Int) ≤ 1 + _; omega, by show 1 + (r7:Int) ≤ 9; omega⟩
        · exact ((Hrd7.out.gr ((Gr.refl _ _).alloc _)).grS hg8 (fun i hi => by have := (hob i hi).1; omega)).le (by rw [List.length_append, List.length_singleton]; omega)
      · have h1 := Hc6.out (R :: S) (fun b hb => by
          rcases List.mem_cons.1 hb with hb | hb
          · left; omega
          · rcases hS b hb with h | h | h
            · left; omega
            · right; simp at h; omega
            · left; exact (Hown.out.ownB h).2)
        exact ((h1.gr (Hg7.out.sub fun k _ hk => by simp at hk; simp [hk])).gr ((Gr.refl _ _).alloc _)).sub (fun b _ hb => by simp [hb])
    · have hk0 : k = 0 := by omega
      subst hk0
      have Htv2 : Hid (∀ s ∈ ss, TinyV s.con ∧ 0 ≤ s.wt ∧ s.wt ≤ 10) := hid fun s hs => ⟨(Htv.out s hs).1.1, by have := (Htv.out s hs).2; omega⟩
      have Hok : Hid (SoftOk ss n) := hid ⟨fun s hs => (Htv.out s hs).1.2, fun s hs => (Htv.out s (List.mem_of_mem_drop hs)).2⟩
      have hfin : ∀ W, Gr [] wr W → SoftPost n R bs (q + 2000) w (.returned (.slice so ss.length sc)) W := fun W hg =>
        ⟨ss, so, sc, rfl, fun S hS => ((Hown.out.gr elSft_ok hg (by simp))).sfts hS, hss4, Htv2.out, Hok.out, (Hrd.out.gr hg).le (by omega), HL.out.trans hg.any⟩
      have Hfin := hid hfin
      clear hfin
      by_cases hz : 0 < ss.length
      · go_wp2_with fail
        have hcall := pick_c R bs (q + 1 + 300 * ss.length) 14 _ Hrd.out (by omega) (by omega)
        (with_reducible refine hcall.mono ?_)
        clear hcall
        rintro e w2 ⟨⟨r2, rfl, hr20, hr2n⟩, hrd2, hg2⟩
        have Hrd2 := hid hrd2; have Hg2 := hid hg2
        have hs2 := hg2.size
        clear hrd2 hg2 hr2n
        by_cases hr2 : r2 = 0
        · subst hr2
          obtain ⟨s0, h0⟩ := get_some (xs := ss) (k := 0) hz
          obtain ⟨g, cap', us, e1, hbg, hlt, hl, hcg, hfg, hel⟩ := Hown.out.cell h0
          simp only [Value.slice.injEq] at e1
          obtain ⟨rfl, -, -⟩ := e1
          obtain ⟨vo, vc, xo, xc, ro, rc, rfl, -⟩ := hel [] (by simp)
          have H0 := hid h0
          have hc5 : wr.cell? ⟨g, 5, none⟩ = some (.int .i64 s0.wt) := by simpa using hcg 5 _ rfl
          have hf5 := hfg 5
          have hgR : g ≠ R := by omega
          have HF : Hid (∀ W, Gr [R] wr W → W.cell? ⟨g, 5, none⟩ = some (.int .i64 s0.wt) ∧ W.frozen? ⟨g, 5, none⟩ = false) := hid fun W h => ⟨h.cell hc5 (by simp; exact hgR), by rw [h.frozen hlt (by simp; exact hgR)]; exact hf5⟩
          clear h0 hcg hfg hel hc5 hf5 hl
          go_wp2_with fail
          refine (one_c R bs (q + 1 + 300 * ss.length + 1) _ [0, 10] _ (Hrd2.out.gr ((Gr.refl _ _).alloc _)) (nums_new _ _ _ (by simp; omega)) (by omega) (by simp) (by simp)).mono ?_
          rintro e w3 ⟨⟨r3, rfl, hr3⟩, hrd3, hg3⟩
          have hr39 : 0 ≤ r3 ∧ r3 ≤ 10 := by simp at hr3; omega
          have hg33 : Gr [R] wr w3 := (Hg2.out.alloc _).trans hg3
          obtain ⟨fc, ff⟩ := HF.out _ hg33
          have Hg3 := hid hg33; have Hrd3 := hid hrd3
          clear hg3 hg33 hrd3 hr3
          go_wp2_with fail
          go_ret
          have hs3 := Hg3.out.size
          have hgE : Gr [g] w3 (w3.setCell ⟨g, 5, none⟩ (.int .i64 r3)) := (Gr.refl _ _).setCell _ _ (.inl (by simp))
          refine ⟨ss.set 0 ⟨s0.con, r3⟩, some ⟨g, 0, none⟩, sc, by simp, fun S hS => ?_, by simp; omega, fun s hs => ?_, ⟨fun s hs => ?_, fun s hs => ?_⟩, (Hrd3.out.grS hgE (by simp; omega)).le (by omega), (HL.out.trans Hg3.out).step hgE (fun i hi => .inr (by simp at hi; omega))⟩
          · rw [List.length_set]
            exact (Hown.out.gr elSft_ok Hg3.out (by simp; omega)).sfts_set H0.out r3 (fun b hb => (hS b hb).imp id (fun h => by have := hgE.size; omega))
          · rcases List.mem_or_eq_of_mem_set hs with h | h
            · exact Htv2.out s h
            · subst h
              exact ⟨(Htv.out s0 (List.mem_of_getElem? H0.out)).1.1, hr39⟩
          · rcases List.mem_or_eq_of_mem_set hs with h | h
            · exact Hok.out.1 s h
            · subst h
              exact (Htv.out s0 (List.mem_of_getElem? H0.out)).1.2
          · refine Hok.out.2 s ?_
            cases ss with
            | nil => simp at hs
            | cons a r => simpa using hs
        · have hr2' : (r2 == 0) = false := by simpa using hr2
          go_wp2_with fail
          go_ret
          exact ⟨ss, so, sc, rfl, fun S hS => (Hown.out.gr elSft_ok Hg2.out (by simp; omega)).sfts hS, hss4, Htv2.out, Hok.out, Hrd2.out.le (by omega), HL.out.trans Hg2.out⟩
      · have hz' : decide ((0 : Int) < (ss.length : Int)) = false := decide_eq_false (by omega)
        go_wp2_with fail
        go_ret
        exact Hfin.out _ (Gr.refl _ _)


set_option maxRecDepth 100000 in
set_option maxHeartbeats 4000000 in
theorem DrawSolveSoft_s (S : List Nat) (v : Value) (bs : List Int) (w : World) (ao : Option Addr) (cap : Nat) (hv : v = .slice ao bs.length cap) (hlen : bs.length ≤ 9223372036854775807) (hcap : bs.length ≤ cap) (hc : Cells [] w .u8 ao bs) (hb : ∀ b ∈ bs, 0 ≤ b ∧ b ≤ 255) (hS : ∀ b ∈ S, b < w.heap.size) :
    Calls Tryz.prog 46 #[v] w fun e w' => ∃ (m : Mod) (mv sv : Value) (ss : List Sft), e = .returned (.tuple #[mv, sv]) ∧ ModV S w' mv m ∧ m.Small ∧ (1 ≤ m.doms.length ∧ m.doms.length ≤ 4) ∧ SftsV S w' sv ss ∧ ss.length ≤ 4 ∧ (∀ s ∈ ss, TinyV s.con ∧ 0 ≤ s.wt ∧ s.wt ≤ 10) ∧ SoftOk ss m.doms.length ∧ Gr [] w w' := by
  subst hv
  have Hc := hid hc; have Hb := hid hb; clear hc hb
  have hg0 : Gr [] w (w.alloc (.cells #[.slice none 0 0, .slice none 0 0] 26)) := (Gr.refl _ _).alloc _
  have hr0 : (w.alloc (.cells #[.slice none 0 0, .slice none 0 0] 26)).heap[w.heap.size]? = some (.cells #[.slice none 0 0, .slice none 0 0] 26 (0, 0)) := heap_alloc_new _ _
  have Hr0 := hid hr0; have Hg0 := hid hg0; clear hr0 hg0
  go_enter Tryz.func46, Tryz.ntmps46
  go_wp2_with fail
  have hcall := newReader_c _ bs _ ao cap rfl hlen hcap (Hc.out.gr Hg0.out) Hb.out
  (with_reducible refine hcall.mono ?_)
  clear hcall
  rintro e w1 ⟨⟨R, cs, rfl, hR, hrd1⟩, hg1⟩
  go_wp2_with fail
  have hcall := anyModel_c R cs 0 _ hrd1 (by omega)
  (with_reducible refine hcall.mono ?_)
  clear hcall
  rintro e w2 ⟨m, M, bo, ac, co, cc, rfl, hown, hdM, ⟨hM1, hM2⟩, hcs, ⟨hd1, hd4⟩, hc4, htv, hrd2, hg2⟩
  simp only [World.size_alloc] at hR
  have hRw1 := hrd1.lt
  have hr2 := hg2.obj (hg1.obj Hr0.out (by simp)) (by simp; omega)
  have hmv := ModPost.modv (S := S ++ [w.heap.size, w2.heap.size, R]) (by have := hg1.size; simp at this; intro b hb; rcases List.mem_append.1 hb with h | h; (have := hS b h; first | omega | (simp; omega)); (simp at h ⊢; omega)) hM1 hown hcs
  have hms := mod_small hd4 hc4 htv
  have HG : Hid (Gr [] w w2) := hid ((Hg0.out.trans hg1).step hg2 (fun i hi => .inr (by simp at hi; omega)))
  have hRl := hrd2.lt
  have ha3 : Gr [] w2 (w2.alloc (.cells #[.slice bo m.doms.length ac, .slice co m.cons.length cc] 26)) := (Gr.refl _ _).alloc _
  have hb3 : (w2.alloc (.cells #[.slice bo m.doms.length ac, .slice co m.cons.length cc] 26)).heap[w2.heap.size]? = some (.cells #[.slice bo m.doms.length ac, .slice co m.cons.length cc] 26 (0, 0)) := heap_alloc_new _ _
  have hwl := lt_of_block hr2
  have hr3 := ha3.obj hr2 (by simp)
  have hs3 : w2.heap.size < (w2.alloc (.cells #[.slice bo m.doms.length ac, .slice co m.cons.length cc] 26)).heap.size := by simp
  have Hmv := hid (hmv.gr ha3.any); have Hms := hid hms; have Hr3 := hid hr3; have Hrd3 := hid (hrd2.gr ha3); have Hb3 := hid hb3
  have HG3 := hid (HG.out.trans ha3)
  have fl3 := fld hb3
  clear hown hcs htv hr2 hg1 hg2 hrd1 hrd2 hmv hms ha3 hb3 HG hdM hr3
  go_wp2_with fail
  generalize hW3 : w2.alloc (.cells #[.slice bo m.doms.length ac, .slice co m.cons.length cc] 26) = w3 at *
  clear hW3
  have flr := fld Hr3.out; have ffr := fldF Hr3.out
  go_region_law (first | (go_simp; go_at_call 105; refine (softList_c R cs (0 + 2000) m.doms.length _ (Hrd3.out.gr ((Gr.refl [] _).drew)) (by omega) (by omega) (by omega)).mono ?_; rintro e w6 ⟨o6, vo6, vc6, rfl, hss6, hl6, hv6, hk6, hrd6, hg6⟩; have Hk6 := hid hk6; have HS6 : Hid (Gr [R] w3 w6) := hid (Gr.trans (a := w3) (Gr.any ((Gr.refl [] _).drew)) hg6); have hn6 := hss6 (S ++ [w.heap.size, w2.heap.size, R]) (by intro b hb; rcases List.mem_append.1 hb with h | h; (have := hS b h; simp; omega); (simp at h ⊢; omega)); have Hn6 := hid hn6; have Hv6 := hid hv6; have Hr6 := hid (HS6.out.obj Hr3.out (by simp; omega)); have fl6 := fld (HS6.out.obj Hb3.out (by simp; omega)); have flr6 := fld Hr6.out; have ffr6 := fldF Hr6.out; clear hg6 hrd6 hss6 hn6 hv6 hk6))
  all_goals
    go_wp2_with fail
    have hbE := block_cells (cur' := #[]) (block_cells (cur' := #[]) Hr6.out 0 (.slice bo m.doms.length ac)) 1 (.slice co m.cons.length cc)
    have flE := fld hbE
    refine bodyPost_ret (v := .tuple #[.agg #[.slice bo m.doms.length ac, .slice co m.cons.length cc], .slice vo6 o6.length vc6]) ?_ rfl ?_
    · simp [results, Tryz.results46, go_sem, flE]
    · have hgE : Gr (S ++ [w.heap.size, w2.heap.size, R]) w6 ((w6.setCell ⟨w.heap.size, 0, none⟩ (.slice bo m.doms.length ac)).setCell ⟨w.heap.size, 1, none⟩ (.slice co m.cons.length cc)) :=
        ((Gr.refl _ _).setCell _ _ (.inl (by simp))).setCell _ _ (.inl (by simp))
      have hgF : Gr (S ++ [w.heap.size, w2.heap.size, R]) w3 ((w6.setCell ⟨w.heap.size, 0, none⟩ (.slice bo m.doms.length ac)).setCell ⟨w.heap.size, 1, none⟩ (.slice co m.cons.length cc)) :=
        (HS6.out.sub (fun k _ hk => by simp at hk ⊢; exact .inr (.inr (.inr hk)))).trans hgE
      exact ⟨m, _, _, o6, rfl, (Hmv.out.gr hgF).sub (fun b _ hb => by simp [hb]), Hms.out, ⟨hd1, hd4⟩, (Hn6.out.gr hgE).sub (fun b _ hb => by simp [hb]), hl6, Hv6.out, Hk6.out, HG3.out.step (S' := [w.heap.size, w2.heap.size, R]) ((HS6.out.sub (fun k _ hk => by simp at hk ⊢; exact .inr (.inr hk))).trans (((Gr.refl _ _).setCell _ _ (.inl (by simp))).setCell _ _ (.inl (by simp)))) (fun i hi => .inr (by simp at hi; omega))⟩

end Go.Proofs.YtngpcoilgilmjaaGreat
