/-
  Walks of the exchange of variables: the program's.
-/
import Derived.Test.YtjmjjdgbkibdaaaGreatSy1
import Derived.Test.YtjmjjdgbkibdaaaGreatSk
import Derived.StillTailTactics
import Derived.Test.YtjmjjdgbkibdaaaGreatEF
set_option linter.unusedVariables false
namespace Go.Proofs.YtjmjjdgbkibdaaaGreat
open Go.RowKit

def presB (cs : List Con) (D : List Nat) (T : List Int → List Int) : Bool := (sols cs D).all fun x => isB cs D (T x)
def swapL (i j : Nat) (x : List Int) : List Int := (x.set i (x.getD j 0)).set j (x.getD i 0)
theorem swapL_len (i j : Nat) (x : List Int) : (swapL i j x).length = x.length := by simp [swapL]
theorem swapL_mem {i j : Nat} {x : List Int} (hi : i < x.length) (hj : j < x.length) {y : Int} (h : y ∈ swapL i j x) : y ∈ x := by
  unfold swapL at h
  have hgi : x.getD i 0 ∈ x := by rw [List.getD_eq_getElem?_getD, List.getElem?_eq_getElem hi]; exact List.getElem_mem hi
  have hgj : x.getD j 0 ∈ x := by rw [List.getD_eq_getElem?_getD, List.getElem?_eq_getElem hj]; exact List.getElem_mem hj
  rcases List.mem_or_eq_of_mem_set h with h | rfl
  · rcases List.mem_or_eq_of_mem_set h with h | rfl
    · exact h
    · exact hgj
  · exact hgi

/-- A list of numbers in a block of its own, none of it frozen. -/
def InB (b : Nat) (W : World) (v : Value) (x : List Int) : Prop := NumsM (fun k => k = b) W v x

theorem RowsD.at {B : Nat} {w : World} {ao : Option Addr} {n cap : Nat} {rows : List (List Int)} (h : RowsD B w (.slice ao n cap) rows) :
    ∃ gs : List Nat, gs.Nodup ∧ gs.length = rows.length ∧ (∀ b ∈ gs, B ≤ b ∧ b < w.heap.size) ∧ ∀ (i : Nat) r, rows[i]? = some r → ∃ g b c, ao = some ⟨g, 0, none⟩ ∧ gs[i]? = some b ∧ (B ≤ g ∧ g < w.heap.size) ∧ (B ≤ b ∧ b < w.heap.size) ∧ g ∉ gs ∧
      w.cell? ⟨g, i, none⟩ = some (.slice (some ⟨b, 0, none⟩) r.length c) ∧ (∀ j, w.frozen? ⟨g, j, none⟩ = false) ∧ InB b w (.slice (some ⟨b, 0, none⟩) r.length c) r := by
  obtain ⟨ao', cap', e, hl, gs, h1, h2, h3⟩ := h
  simp only [Value.slice.injEq] at e
  obtain ⟨rfl, _, _⟩ := e
  refine ⟨gs, h1, h2, fun b hb => ?_, fun i r hi => ?_⟩
  · obtain ⟨i, hi⟩ := List.mem_iff_getElem?.1 hb
    obtain ⟨r, hr⟩ := get_some (xs := rows) (k := i) (by have := (List.getElem?_eq_some_iff.1 hi).1; omega)
    obtain ⟨g, b', c, _, e2, _, hbb, _⟩ := h3 i r hr
    rw [hi] at e2; cases e2; exact hbb
  · obtain ⟨g, b, c, e1, e2, k1, k2, k3, k4, k5, k6, k7, k8⟩ := h3 i r hi
    exact ⟨g, b, c, e1, e2, k1, k2, k3, k4, k6, _, _, rfl, ⟨k5.1, k5.2, by simp⟩, fun j y hy => ⟨b, 0, rfl, rfl, by rw [Nat.zero_add]; exact k8 j y hy, by rw [Nat.zero_add]; exact k7 j⟩⟩

set_option maxRecDepth 100000 in
set_option maxHeartbeats 1000000 in
theorem preserved_c (m : Mod) (D : List Nat) (T : List Int → List Int) (k : Nat) (C : Array Value) (mv : Value) (w : World) (hv : ModV [] w mv m) (hVM : VM m D)
    (hk : ∀ args w, (callFunc k args).run Tryz.prog w = .ok (.enter k args) w)
    (hT : ∀ x ∈ sols m.cons D, (T x).length = x.length ∧ ∀ y ∈ T x, 0 ≤ y ∧ y ≤ 5)
    (hf : ∀ (x : List Int) (b c : Nat) (W : World), x ∈ sols m.cons D → Gr [] w W → w.heap.size ≤ b → InB b W (.slice (some ⟨b, 0, none⟩) x.length c) x →
      Calls Tryz.prog k (#[.slice (some ⟨b, 0, none⟩) x.length c] ++ C) W fun e W' => (∃ v, e = .returned v) ∧ InB b W' (.slice (some ⟨b, 0, none⟩) x.length c) (T x) ∧ Gr [b] W W') :
    Calls Tryz.prog 181 #[mv, .func (.func k) #[] C] w fun e w' => e = .returned (.bool (presB m.cons D T)) ∧ Gr [] w w' := by
  have Hv := hid hv
  obtain ⟨xo, xc, co, cc, rfl⟩ : ∃ a b c d, mv = .agg #[.slice a m.doms.length b, .slice c m.cons.length d] := by
    obtain ⟨dv, cv, rfl, ⟨a, b, rfl, _⟩, ⟨c, d, rfl, _⟩⟩ := hv; exact ⟨a, b, c, d, rfl⟩
  have hg0 : Gr [] w (w.alloc (.cells #[.slice xo m.doms.length xc, .slice co m.cons.length cc] 31)) := (Gr.refl _ _).alloc _
  have hb0 : (w.alloc (.cells #[.slice xo m.doms.length xc, .slice co m.cons.length cc] 31)).heap[w.heap.size]? = some (.cells #[.slice xo m.doms.length xc, .slice co m.cons.length cc] 31 (0, 0)) := heap_alloc_new _ _
  have fl0 := fld hb0
  have Hg0 := hid hg0; have Hb0 := hid hb0; have HVM := hid hVM; have HT := hid hT; have Hf := hid hf
  clear hv hg0 hb0 hVM hT hf
  go_enter Tryz.func181, Tryz.ntmps181
  go_wp2_with fail
  have hcall := solutionsD_c m D _ _ (Hv.out.gr Hg0.out) HVM.out
  (with_reducible refine hcall.mono ?_)
  clear hcall
  rintro e w2 ⟨v2, rfl, ⟨_, hd2⟩, hg2⟩
  obtain ⟨zs, hz⟩ : ∃ zs, zs = sols m.cons D := ⟨_, rfl⟩
  rw [← hz] at hd2
  have Hz := hid hz
  have hd2' := hd2
  obtain ⟨ao, cap, rfl, ⟨hc1, hc2, -⟩, -⟩ := hd2'
  obtain ⟨gs, hnd, hgl, hgr, hrow⟩ := hd2.at
  have Hnd := hid hnd; have Hgl := hid hgl; have Hgr := hid hgr; have Hrow := hid hrow
  have Hb2 := hid (hg2.obj Hb0.out (by simp)); have Hg2 := hid (Hg0.out.trans hg2)
  have hs2 : w.heap.size < w2.heap.size := lt_of_block Hb2.out
  have hsa : w.heap.size + 1 ≤ w2.heap.size := by omega
  clear hd2 hz hg2 fl0 hnd hgl hgr hrow
  go_wp2_with fail
  go_loopw [10] (fun i wr => ∃ n : Nat, n ≤ zs.length ∧ i = .int .i64 n ∧ (∀ x ∈ zs.take n, isB m.cons D (T x) = true) ∧ Gr (gs.take n) w2 wr) (fun i _ => zs.length - (intOf i).toNat)
  case atStart => exact ⟨0, Nat.zero_le _, rfl, by simp, by simpa using Gr.refl _ _⟩
  case round =>
    obtain ⟨n, hn, rfl, hok, hg⟩ := hrel
    have Hok := hid hok; clear hok
    have hgw : Gr [] w wr := Hg2.out.step hg (fun i hi => .inr (by have := (Hgr.out i (List.mem_of_mem_take hi)).1; simp at this; omega))
    have flr := fld (hg.obj Hb2.out (fun hm => by have := (Hgr.out _ (List.mem_of_mem_take hm)).1; simp at this; omega))
    by_cases hlt : n < zs.length
    · obtain ⟨x, hx⟩ := get_some hlt
      obtain ⟨g, b, c, rfl, hgb, ⟨hg1, _⟩, ⟨hb1, _⟩, hgn, hcell, _, hin⟩ := Hrow.out n x hx
      have hxs : x ∈ sols m.cons D := by rw [← Hz.out]; exact List.mem_of_getElem? hx
      have hbt : b ∉ gs.take n := fun hm => by
        obtain ⟨i, hi⟩ := List.mem_iff_getElem?.1 hm
        rw [List.getElem?_take] at hi
        split at hi
        · rename_i hin'
          have h1 := List.getElem?_eq_some_iff.1 hi
          have h2 := List.getElem?_eq_some_iff.1 hgb
          have := (List.getElem_inj Hnd.out).1 (h1.2.trans h2.2.symm)
          omega
        · cases hi
      have hcr := hg.cell hcell (fun hm => hgn (List.mem_of_mem_take hm))
      have hir : InB b wr (.slice (some ⟨b, 0, none⟩) x.length c) x := hin.gr' hg (by intro q hq e; subst e; exact hbt hq) (fun _ _ h => h)
      have hwb : w.heap.size ≤ b := by simp at hb1; omega
      have hne : w.heap.size ≠ b := by simp at hb1; omega
      have hgnb : g ≠ b := fun e => hgn (by subst e; exact List.mem_of_getElem? hgb)
      have Hx := hid hx; have Hxs := hid hxs; have Hir := hid hir; have Hgw := hid hgw; have Hg := hid hg; have Hgb := hid hgb; have Hcl := hid hcell; have Hgn := hid hgn
      have hbr := hg.obj Hb2.out (fun hm => by have := (Hgr.out _ (List.mem_of_mem_take hm)).1; simp at this; omega)
      have Hbr := hid hbr
      clear hx hgb hgn hcell hin hxs hbt hir hgw hg hbr
      go_wp2_with fail
      refine (Hf.out x b c _ Hxs.out Hgw.out hwb Hir.out).mono ?_
      rintro e w4 ⟨⟨ev, rfl⟩, hi4, hg4⟩
      have hlen := (HT.out x Hxs.out).1
      have fl4 := fld (hg4.obj Hbr.out (by simp; exact hne))
      have Hi4 := hid hi4
      have Hgw4 := hid (Hgw.out.step hg4 (fun i hi => .inr (by simp at hi; subst hi; exact hwb)))
      have Hg4 := hid hg4; have Hlen := hid hlen
      clear hi4 hg4 flr hcr hlen
      go_wp2_with fail
      have hxl : x.length = D.length := tups_len (mem_sols.1 Hxs.out).1
      have Hxl := hid hxl; clear hxl
      have hcall := isSolutionG_c m D (T x) _ (.slice (some ⟨b, 0, none⟩) x.length c) w4 (Hv.out.gr Hgw4.out) HVM.out (Hi4.out.nums (by simp)) (Hlen.out.trans Hxl.out) (HT.out x Hxs.out).2
      (with_reducible refine hcall.mono ?_)
      clear hcall
      rintro e w5 ⟨rfl, hg5⟩
      have Hg5 := hid hg5
      clear hg5
      cases hB : isB m.cons D (T x)
      · have HB := hid hB; clear hB
        go_wp2_with fail
        go_ret
        exact ⟨ret_bool (by symm; unfold presB; rw [List.all_eq_false]; exact ⟨x, Hxs.out, by rw [HB.out]; simp⟩), Hgw4.out.trans Hg5.out⟩
      · have HB := hid hB; clear hB
        go_wp2_with fail
        refine ⟨⟨n + 1, by omega, by go_num, ?_, ?_⟩, by simp [intOf]; omega⟩
        · intro y hy
          rw [List.take_add_one, Hx.out] at hy
          rcases List.mem_append.1 hy with h | h
          · exact Hok.out y h
          · simp at h; subst h; exact HB.out
        · have h1 : Gr (gs.take (n + 1)) w2 wr := Hg.out.sub (fun q _ hq => by rw [List.take_add_one]; exact List.mem_append.2 (.inl hq))
          have h2 : Gr (gs.take (n + 1)) wr w4 := Hg4.out.sub (fun q _ hq => by rw [List.take_add_one, Hgb.out]; simp at hq; subst hq; simp)
          exact (h1.trans h2).trans Hg5.out.any
    · have hall : presB m.cons D T = true := by
        unfold presB
        rw [List.all_eq_true]
        have := Hok.out
        rwa [List.take_of_length_le (by omega), Hz.out] at this
      have Hall := hid hall; have Hgw := hid hgw
      clear hg hall hgw
      go_wp2_with fail
      go_ret
      exact ⟨ret_bool Hall.out.symm, Hgw.out⟩

set_option maxRecDepth 100000 in
theorem exchLit_c (i j : Nat) (x : List Int) (b c pi pj : Nat) (W : World) (hi : i < x.length) (hj : j < x.length) (hx : InB b W (.slice (some ⟨b, 0, none⟩) x.length c) x)
    (hpi : W.cell? ⟨pi, 0, none⟩ = some (.int .i64 i)) (hpj : W.cell? ⟨pj, 0, none⟩ = some (.int .i64 j)) (hni : pi ≠ b) (hnj : pj ≠ b) :
    Calls Tryz.prog 182 #[.slice (some ⟨b, 0, none⟩) x.length c, .pointer (some ⟨pj, 0, none⟩), .pointer (some ⟨pi, 0, none⟩)] W fun e W' => (∃ v, e = .returned v) ∧ InB b W' (.slice (some ⟨b, 0, none⟩) x.length c) (swapL i j x) ∧ Gr [b] W W' := by
  obtain ⟨xi, hxi⟩ := get_some hi
  obtain ⟨xj, hxj⟩ := get_some hj
  have Hx := hid hx
  have hxl : x.length ≤ 9223372036854775807 := by obtain ⟨_, _, e, ⟨h1, h2, _⟩, _⟩ := hx; omega
  have hs1 := (hx.set i xj).set j xi
  rw [Nat.zero_add, Nat.zero_add] at hs1
  have e1 : (x.set i xj).set j xi = swapL i j x := by unfold swapL; rw [List.getD_eq_getElem?_getD, List.getD_eq_getElem?_getD, hxi, hxj]; rfl
  rw [e1] at hs1
  obtain ⟨_, _, e2, _, hci, hfi⟩ := hx.at hxi
  cases e2
  obtain ⟨_, _, e3, _, hcj, hfj⟩ := hx.at hxj
  cases e3
  rw [Nat.zero_add] at hci hfi hcj hfj
  have hs0 := hx.set i xj
  rw [Nat.zero_add] at hs0
  have hxj' : (x.set i xj)[j]? = some xj := by
    by_cases hij : i = j
    · subst hij; rw [List.getElem?_set_self hi]
    · rw [List.getElem?_set_ne hij]; exact hxj
  obtain ⟨_, _, e4, _, hcj2, _⟩ := hs0.at hxj'
  cases e4
  rw [Nat.zero_add] at hcj2
  have Hs := hid hs1
  clear hs0 hxj'
  clear hs1 e1 hxi hxj hx
  go_enter Tryz.func182, Tryz.ntmps182
  go_wp2_with fail
  go_region
  all_goals
    go_wp2_with fail
    refine bodyPost_end (results_none rfl _ _ _) rfl ?_
    exact ⟨⟨_, rfl⟩, Hs.out.gr' ((Gr.refl [] _).drew) (by simp) (fun _ _ h => h), (((Gr.refl _ _).setCell _ _ (.inl (by simp))).setCell _ _ (.inl (by simp))).drew⟩
end Go.Proofs.YtjmjjdgbkibdaaaGreat
