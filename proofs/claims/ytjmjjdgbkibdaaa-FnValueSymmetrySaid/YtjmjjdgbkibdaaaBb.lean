/-
  Walks of the backbone: the program's and the reference's.
-/
import Derived.Test.YtjmjjdgbkibdaaaSy4
set_option linter.unusedVariables false
namespace Go.Proofs.Ytjmjjdgbkibdaaa
open Go.RowKit

def backL (cs : List Con) (D : List Nat) (n : Nat) : List Nat := suppFold (fun _ => true) (List.replicate D.length 0) ((sols cs D).take n)
def backO (m : Mod) (D : List Nat) : Option (List Int) := if validM m then some (ints (backL m.cons D (sols m.cons D).length)) else none
theorem sols_val {cs : List Con} {D : List Nat} {x : List Int} (h : x ∈ sols cs D) : x.length = D.length ∧ ∀ y ∈ x, 0 ≤ y ∧ y ≤ 5 := ⟨tups_len (mem_sols.1 h).1, tups_val (mem_sols.1 h).1⟩
theorem backL_len (cs : List Con) (D : List Nat) (n : Nat) : (backL cs D n).length = D.length := by
  refine (suppFold_len _ _ _ fun t ht => ?_).trans (by simp)
  rw [(sols_val (List.mem_of_mem_take ht)).1]; simp
theorem backL_below (cs : List Con) (D : List Nat) (n : Nat) : Below64 (backL cs D n) := suppFold_below (replicate_below _) fun t ht => (sols_val (List.mem_of_mem_take ht)).2
theorem backL_succ {cs : List Con} {D : List Nat} {n : Nat} {x : List Int} (h : (sols cs D)[n]? = some x) : backL cs D (n + 1) = addT (backL cs D n) x := by
  unfold backL suppFold
  rw [List.take_add_one, h]
  simp
theorem backL_zero (cs : List Con) (D : List Nat) : backL cs D 0 = List.replicate D.length 0 := by simp [backL, suppFold]
theorem ints_replicate (n : Nat) : ints (List.replicate n 0) = List.replicate n 0 := by simp [ints]
theorem addN_same {acc : List Nat} {x : List Int} (hx : x.length = acc.length) {n a y : Nat} (ha : acc[n]? = some a) (hy : x[n]? = some (y : Int)) (h : a ||| 2 ^ y = a) : addN n acc x = addN (n + 1) acc x := by
  rw [← addN_succ hx ha hy, h]
  refine List.ext_getElem? fun j => ?_
  by_cases hj : n = j
  · subst hj
    have hn := (List.getElem?_eq_some_iff.1 ha).1
    rw [List.getElem?_set_self (by rw [addN_len hx]; exact hn), addN_get hx hn, ha]
  · rw [List.getElem?_set_ne hj]

set_option maxRecDepth 100000 in
set_option maxHeartbeats 1000000 in
theorem backbone_c (m : Mod) (D : List Nat) (mv : Value) (w : World) (hv : ModV [] w mv m) (hVM : VM m D) :
    Calls Try.prog 56 #[mv] w fun e w' => ∃ v', e = .returned v' ∧ Own w.heap.size w' 3 v' (ints (backL m.cons D (sols m.cons D).length)) ∧ Gr [] w w' := by
  have HVM := hid hVM
  obtain ⟨xo, xc, co, cc, rfl⟩ := hv.slices
  have hdd : m.doms.length = D.length := by rw [hVM.doms, ints_len]
  have hd1 := hVM.len.1; have hd4 := hVM.len.2
  rw [hdd] at hv ⊢
  have Hv := hid hv
  have hg0 : Gr [] w (w.alloc (.cells #[.slice xo D.length xc, .slice co m.cons.length cc] 31)) := (Gr.refl _ _).alloc _
  have hb0 : (w.alloc (.cells #[.slice xo D.length xc, .slice co m.cons.length cc] 31)).heap[w.heap.size]? = some (.cells #[.slice xo D.length xc, .slice co m.cons.length cc] 31 (0, 0)) := heap_alloc_new _ _
  have fl0 := fld hb0
  have Hg0 := hid hg0; have Hb0 := hid hb0
  clear hv hg0 hb0 hVM hdd
  go_enter Try.func56, Try.ntmps56
  go_wp2_with (at_make; refine wp_mkN rfl _ _ 22 rfl (w.heap.size + 1) 3 infoI Try.underlying22 D.length rfl rfl (by omega) (by simp) ?_; intro w1 hown1 hg1; rw [World.size_alloc] at hown1; have HO1 := hid hown1; have HG1 := hid hg1; have fl1 := fld (hg1.obj Hb0.out (by simp)); clear hown1 hg1)
  have hcall := solutions_c m D _ w1 ((Hv.out.gr Hg0.out).gr HG1.out) HVM.out
  (with_reducible refine hcall.mono ?_)
  clear hcall
  rintro e w2 ⟨v2, rfl, hown2, hg2⟩
  obtain ⟨zs, hz⟩ : ∃ zs, zs = sols m.cons D := ⟨_, rfl⟩
  rw [← hz] at hown2
  have Hz := hid hz
  have hw1s : w.heap.size + 2 ≤ w1.heap.size := by
    have := HO1.out.open (by simp; omega)
    obtain ⟨g, c, e, ⟨_, h⟩, _⟩ := this
    simp only [Value.slice.injEq, Option.some.injEq, Addr.mk.injEq] at e
    omega
  have Hl := hid (hown2.rows (S := [w.heap.size + 1]) (by intro b hb; simp at hb; subst hb; left; omega))
  obtain ⟨ro, rc, rfl, hl1, hl2, -⟩ := hown2.slice
  have HO2 := hid (HO1.out.gr hg2 (by simp))
  have Hg2 := hid ((Hg0.out.trans HG1.out).trans hg2)
  have hs1 := HG1.out.size
  have hs2 := hg2.size
  rw [World.size_alloc] at hs1
  clear hown2 hg2 hz fl0 fl1
  go_wp2_with fail
  go_loopw [15] (fun i wr => ∃ k : Nat, k ≤ zs.length ∧ i = .int .i64 k ∧ Own (w.heap.size + 1) wr 3 (.slice (some ⟨w.heap.size + 1, 0, none⟩) D.length D.length) (ints (backL m.cons D k)) ∧ Gr [w.heap.size + 1] w2 wr) (fun i _ => zs.length - (intOf i).toNat)
  case atStart => exact ⟨0, Nat.zero_le _, rfl, by rw [backL_zero, ints_replicate]; exact HO2.out, Gr.refl _ _⟩
  case round =>
    obtain ⟨k, hk, rfl, hown, hg⟩ := hrel
    have hgw : Gr [] w wr := Hg2.out.step hg (fun i hi => .inr (by simp at hi; omega))
    by_cases hlt : k < zs.length
    · obtain ⟨x, hx⟩ := get_some hlt
      have hxs : x ∈ sols m.cons D := by rw [← Hz.out]; exact List.mem_of_getElem? hx
      obtain ⟨hxl, hxr⟩ := sols_val hxs
      obtain ⟨b, o, u, rfl, hc0, hn0⟩ := (Hl.out.gr hg).at0 hx
      obtain ⟨xo', xc', rfl, ⟨hx1, hx2, -⟩, -⟩ := id hn0
      have Hx := hid hx; have Hn0 := hid hn0; have Hown := hid hown; have Hg := hid hg; have Hxr := hid hxr; have Hxl := hid hxl
      have hbb := backL_below m.cons D k; have hbl := backL_len m.cons D k
      have Hsucc := hid (backL_succ (cs := m.cons) (D := D) (n := k) (x := x) (by rw [← Hz.out]; exact hx))
      have Hbb := hid hbb; have Hbl := hid hbl
      clear hx hn0 hown hg hxs hgw hxr hbb hbl hxl
      generalize wr = wo at *
      go_wp2_with fail
      go_loopw [21] (fun i wq => ∃ n : Nat, n ≤ x.length ∧ i = .int .i64 n ∧ Own (w.heap.size + 1) wq 3 (.slice (some ⟨w.heap.size + 1, 0, none⟩) D.length D.length) (ints (addN n (backL m.cons D k) x)) ∧ Gr [w.heap.size + 1] wo wq) (fun i _ => x.length - (intOf i).toNat)
      case atStart => exact ⟨0, Nat.zero_le _, rfl, by rw [addN_zero]; exact Hown.out, Gr.refl _ _⟩
      case round =>
        obtain ⟨n, hn, rfl, howni, hgi⟩ := hrel
        have hac : x.length = (backL m.cons D k).length := by rw [Hbl.out, Hxl.out]
        by_cases hlt2 : n < x.length
        · obtain ⟨y, hy⟩ := get_some hlt2
          have hyr := Hxr.out y (List.mem_of_getElem? hy)
          obtain ⟨y, rfl⟩ := Int.eq_ofNat_of_zero_le hyr.1
          obtain ⟨z, hz⟩ := get_some (xs := backL m.cons D k) (k := n) (by omega)
          have hzb := Hbb.out z (List.mem_of_getElem? hz)
          obtain ⟨hc1, hc2⟩ := howni.at (i := n) (x := z) (by rw [ints_get, addN_get hac (by omega), hz]; rfl)
          obtain ⟨bx, ox, rfl, _, hxn⟩ := (Hn0.out.gr hgi).at hy
          have hset := howni.set n ((z ||| 2 ^ y : Nat) : Int) (by rw [ints_len, addN_len hac]; omega)
          rw [← ints_set, addN_succ hac hz hy] at hset
          have Hset := hid hset; have Hgi := hid hgi
          have hyr2 : y ≤ 5 := by omega
          have hnD : n < D.length := by have := Hxl.out; omega
          clear hset howni hgi hy hz hac hyr
          go_wp2_with fail
          go_region
          all_goals go_wp2_with fail
          all_goals
            refine ⟨⟨n + 1, by omega, by go_num, ?_, (Hgi.out.setCell _ _ (.inl (by simp))).drew⟩, by simp [intOf]; omega⟩
            rw [or_shl hzb (by omega)]
            exact Hset.out.drew
        · have e2 : addN n (backL m.cons D k) x = backL m.cons D (k + 1) := by rw [addN_all hac (by omega), Hsucc.out]
          rw [e2] at howni
          have Howni := hid howni; have Hgi := hid hgi
          clear howni hgi hac e2
          go_wp2_with fail
          exact ⟨⟨k + 1, by omega, by go_num, Howni.out, Hg.out.trans Hgi.out⟩, by simp [intOf]; omega⟩
    · have e1 : backL m.cons D k = backL m.cons D zs.length := by rw [show k = zs.length by omega]
      rw [e1, Hz.out] at hown
      have Hown := hid hown; have Hgw := hid hgw
      clear hown hgw hg e1
      go_wp2_with fail
      go_ret
      exact ⟨_, rfl, Own.le (B := w.heap.size + 1) (B' := w.heap.size) Hown.out (by omega), Hgw.out⟩

set_option maxRecDepth 100000 in
theorem Backbone_c (m : Mod) (mv : Value) (w : World) (hv : ModV [] w mv m) (D : List Nat) (hD : validM m = true → VM m D) :
    Calls Try.prog 22 #[mv] w fun e w' => ∃ v', e = .returned v' ∧ NumsM (New w.heap.size w') w' v' ((backO m D).getD []) ∧ Gr [] w w' := by
  have Hv := hid hv; have HD := hid hD
  obtain ⟨xo, xc, co, cc, rfl⟩ := hv.slices
  have hg0 : Gr [] w (w.alloc (.cells #[.slice xo m.doms.length xc, .slice co m.cons.length cc] 31)) := (Gr.refl _ _).alloc _
  have hb0 : (w.alloc (.cells #[.slice xo m.doms.length xc, .slice co m.cons.length cc] 31)).heap[w.heap.size]? = some (.cells #[.slice xo m.doms.length xc, .slice co m.cons.length cc] 31 (0, 0)) := heap_alloc_new _ _
  have fl0 := fld hb0
  have Hg0 := hid hg0; have Hb0 := hid hb0
  clear hv hg0 hb0 hD
  go_enter Try.func22, Try.ntmps22
  go_wp2_with fail
  have hcall := ValidModel_c m _ _ (Hv.out.gr Hg0.out)
  (with_reducible refine hcall.mono ?_)
  clear hcall
  rintro e w1 ⟨rfl, hg1⟩
  have fl1 := fld (hg1.obj Hb0.out (by simp))
  have Hg1 := hid (Hg0.out.trans hg1)
  have hs1 := hg1.size
  rw [World.size_alloc] at hs1
  clear fl0 hg1
  cases hval : validM m
  · have Hval := hid hval; clear hval
    go_wp2_with fail
    go_ret
    exact ⟨_, rfl, by unfold backO; rw [Hval.out]; exact NumsM.nil _ _, Hg1.out⟩
  have hVM := HD.out hval
  have Hval := hid hval; have HVM := hid hVM
  clear hval hVM
  go_wp2_with fail
  have hcall := backbone_c m D _ w1 (Hv.out.gr Hg1.out) HVM.out
  (with_reducible refine hcall.mono ?_)
  clear hcall
  rintro e w2 ⟨v2, rfl, hown2, hg2⟩
  have Hown2 := hid (Own.numsM hown2)
  clear hown2
  go_wp2_with fail
  go_ret
  exact ⟨_, rfl, by unfold backO; rw [Hval.out]; exact Hown2.out.gr' (Gr.refl [] _) (by simp) (fun b hb h => h.le (by omega) (Nat.le_refl _)), Hg1.out.trans hg2⟩

theorem backO_len (m : Mod) (D : List Nat) (hD : validM m = true → VM m D) : ((backO m D).getD []).length ≤ 1000000 := by
  unfold backO
  cases h : validM m
  · simp
  · have hv := hD h
    simp only [if_true, Option.getD_some, ints_len, backL_len]
    have := hv.len; omega
end Go.Proofs.Ytjmjjdgbkibdaaa
