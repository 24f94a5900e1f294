/-
  Plain laws of repair: solutions that agree with a plan, and the nearest of them.
  Walks of repair: distances, agreement, the nearest solution; the program's and the reference's.
  Walks of repair, second part: agreeing, Repair; the reference's.
-/
import Derived.Test.YtdpcjfbnakfflaaGreatOb
import Derived.Test.YtdpcjfbnakfflaaGreatNs
import Derived.Test.YtdpcjfbnakfflaaGreatDf
set_option linter.unusedVariables false
set_option linter.unusedSimpArgs false
namespace Go.Proofs.YtdpcjfbnakfflaaGreat
open Go.RowKit

def apN (a b : List Int) (n : Nat) : Nat := ((List.range n).filter fun i => a.getD i 0 != b.getD i 0).length
theorem apN_zero (a b : List Int) : apN a b 0 = 0 := rfl
theorem getD_here {xs : List Int} {i : Nat} {x : Int} (h : xs[i]? = some x) : xs.getD i 0 = x := by rw [List.getD_eq_getElem?_getD, h]; rfl
theorem apN_succ {a b : List Int} {n : Nat} {x y : Int} (h1 : a[n]? = some x) (h2 : b[n]? = some y) : apN a b (n + 1) = apN a b n + if x == y then 0 else 1 := by
  unfold apN
  rw [List.range_succ, List.filter_append, List.length_append]
  congr 1
  simp only [List.filter_cons, List.filter_nil, getD_here h1, getD_here h2, bne]
  cases x == y <;> rfl
theorem apN_le (a b : List Int) (n : Nat) : apN a b n ≤ n := by
  have := List.length_filter_le (fun i => a.getD i 0 != b.getD i 0) (List.range n)
  rwa [List.length_range] at this
theorem apN_self (a : List Int) (n : Nat) : apN a a n = 0 := by
  unfold apN
  rw [List.length_eq_zero_iff, List.filter_eq_nil_iff]
  intro i _
  simp
theorem apN_eq {a b : List Int} (hl : a.length = b.length) (h : apN a b a.length = 0) : a = b := by
  unfold apN at h
  rw [List.length_eq_zero_iff, List.filter_eq_nil_iff] at h
  apply List.ext_getElem hl
  intro i h1 h2
  have := h i (List.mem_range.2 h1)
  simpa [List.getD_eq_getElem?_getD, List.getElem?_eq_getElem h1, List.getElem?_eq_getElem h2] using this

/-! ### Agreement -/
def agI (on : Nat → Bool) (old x : List Int) (n : Nat) : Bool := (List.range n).all fun i => !(on i && (x.getD i 0 != old.getD i 0))
theorem agI_zero (on : Nat → Bool) (old x : List Int) : agI on old x 0 = true := rfl
theorem agI_succ (on : Nat → Bool) {old x : List Int} {n : Nat} {y z : Int} (h1 : x[n]? = some y) (h2 : old[n]? = some z) : agI on old x (n + 1) = (agI on old x n && !(on n && (y != z))) := by
  unfold agI
  rw [List.range_succ, List.all_append]
  simp [h1, h2, bne]
theorem agI_false {on : Nat → Bool} {old x : List Int} {n k : Nat} (hk : k < n) (h : on k = true) (hne : (x.getD k 0 != old.getD k 0) = true) : agI on old x n = false := by
  unfold agI
  rw [List.all_eq_false]
  exact ⟨k, List.mem_range.2 hk, by rw [h, hne]; simp⟩
theorem agI_self (on : Nat → Bool) (x : List Int) (n : Nat) : agI on x x n = true := by
  unfold agI
  rw [List.all_eq_true]
  intro i _
  simp
def onL (fr : List Int) (i : Nat) : Bool := fr.contains (i : Int)
def keepB (fr old x : List Int) : Bool := fr.all fun f => x.getD f.toNat 0 == old.getD f.toNat 0
theorem keep_ag {fr old x : List Int} (h : ∀ f ∈ fr, 0 ≤ f ∧ f < x.length) : keepB fr old x = agI (onL fr) old x x.length := by
  rw [Bool.eq_iff_iff]
  unfold keepB agI onL
  rw [List.all_eq_true, List.all_eq_true]
  constructor
  · intro h1 i hi
    cases hc : fr.contains (i : Int)
    · rfl
    · have h2 := h1 i (by simpa using hc)
      rw [Int.toNat_natCast] at h2
      simp only [Bool.true_and, bne, h2, Bool.not_true, Bool.not_false]
  · intro h1 f hf
    obtain ⟨h2, h3⟩ := h f hf
    have h4 := h1 f.toNat (List.mem_range.2 (by omega))
    have hc : fr.contains ((f.toNat : Nat) : Int) = true := by rw [Int.toNat_of_nonneg h2]; simpa using hf
    rw [hc] at h4
    simpa [bne] using h4
theorem bestF_succ {cost : List Int → Int} {p : List Int → Bool} {zs : List (List Int)} {n : Nat} {x : List Int} (h : zs[n]? = some x) :
    bestO cost ((zs.take (n + 1)).filter p) = if p x then bstep cost (bestO cost ((zs.take n).filter p)) x else bestO cost ((zs.take n).filter p) := by
  rw [List.take_add_one, h, List.filter_append]
  unfold bestO
  rw [List.foldl_append]
  cases hp : p x <;> simp [hp]

/-! ### The nearest solution -/
def frB (fr : List Int) (n : Nat) : Bool := decide ((fr.length : Int) ≤ 4) && allB 0 ((n : Int) - 1) fr
def nearO (cs : List Con) (D : List Nat) (old fr : List Int) : Option (List Int) := bestO (fun x => (apN x old x.length : Int)) ((sols cs D).filter fun x => agI (onL fr) old x x.length)
def repO (m : Mod) (D : List Nat) (old fr : List Int) : Option (List Int) := if validM m && (asgB old m.doms.length && frB fr m.doms.length) then nearO m.cons D old fr else none
theorem repO_no {m : Mod} {D : List Nat} {old fr : List Int} (h : (validM m && (asgB old m.doms.length && frB fr m.doms.length)) = false) : repO m D old fr = none := by unfold repO; rw [h]; rfl
theorem repO_yes {m : Mod} {D : List Nat} {old fr : List Int} (h : (validM m && (asgB old m.doms.length && frB fr m.doms.length)) = true) : repO m D old fr = nearO m.cons D old fr := by unfold repO; rw [h]; rfl
theorem nearO_mem {cs : List Con} {D : List Nat} {old fr y : List Int} (h : nearO cs D old fr = some y) : y ∈ sols cs D ∧ agI (onL fr) old y y.length = true := by
  have h1 := bestO_mem h
  exact ⟨(List.mem_filter.1 h1).1, (List.mem_filter.1 h1).2⟩
theorem nearO_least {cs : List Con} {D : List Nat} {old fr y x : List Int} (h : nearO cs D old fr = some y) (hx : x ∈ sols cs D) (ha : agI (onL fr) old x x.length = true) : apN y old y.length ≤ apN x old x.length := by
  have := bestO_least h x (List.mem_filter.2 ⟨hx, ha⟩)
  omega
theorem nearO_len {cs : List Con} {D : List Nat} {old fr : List Int} (hl : D.length ≤ 4) : ((nearO cs D old fr).getD []).length ≤ 1000000 := by
  cases h : nearO cs D old fr with
  | none => simp
  | some y =>
    have := (solv (nearO_mem h).1).1
    simp only [Option.getD_some]; omega
theorem repO_len (m : Mod) (old fr : List Int) (D : List Nat) (hD : validM m = true → VM m D) : ((repO m D old fr).getD []).length ≤ 1000000 := by
  cases h : (validM m && (asgB old m.doms.length && frB fr m.doms.length))
  · rw [repO_no h]; simp
  · rw [repO_yes h]
    rw [Bool.and_eq_true] at h
    exact nearO_len (hD h.1).len.2
theorem frB_in {fr : List Int} {n : Nat} (h : frB fr n = true) : fr.length ≤ 4 ∧ ∀ f ∈ fr, 0 ≤ f ∧ f < n := by
  unfold frB at h
  rw [Bool.and_eq_true, decide_eq_true_eq] at h
  refine ⟨by have := h.1; omega, fun f hf => ?_⟩
  have := (allB_iff.1 h.2) f hf
  omega
end Go.Proofs.YtdpcjfbnakfflaaGreat

set_option linter.unusedVariables false
set_option linter.unusedSimpArgs false
namespace Go.Proofs.YtdpcjfbnakfflaaGreat
open Go.RowKit





set_option maxRecDepth 100000 in
theorem setOk_c (m : Mod) (x : List Int) (mv v : Value) (w : World) (hm : ModV [] w mv m) (hv : Nums [] w .i64 v x) (hmd : m.doms.length ≤ 100) :
    Calls Tryz.prog 77 #[mv, v] w fun e w' => e = .returned (.bool (frB x m.doms.length)) ∧ Gr [] w w' := by
  have Hv := hid hv
  obtain ⟨xo, xc, co, cc, rfl⟩ := hm.slices
  obtain ⟨vo, vc, rfl, ⟨hx1, hx2, _⟩, _⟩ := hv
  have hg0 : Gr [] w (w.alloc (.cells #[.slice xo m.doms.length xc, .slice co m.cons.length cc] 31)) := (Gr.refl _ _).alloc _
  have hb0 : (w.alloc (.cells #[.slice xo m.doms.length xc, .slice co m.cons.length cc] 31)).heap[w.heap.size]? = some (.cells #[.slice xo m.doms.length xc, .slice co m.cons.length cc] 31 (0, 0)) := heap_alloc_new _ _
  have fl0 := fld hb0
  have Hg0 := hid hg0
  clear hg0 hb0 hm
  by_cases hl : (x.length : Int) ≤ 4
  · have Hl := hid hl
    have hl' : decide ((x.length : Int) ≤ 4) = true := decide_eq_true hl
    clear hl
    go_enter Tryz.func77, Tryz.ntmps77
    go_wp2_with fail
    have hcall := allIn_c x 0 ((m.doms.length : Int) - 1) _ _ (Hv.out.gr Hg0.out)
    (with_reducible refine hcall.mono ?_)
    clear hcall
    rintro e w1 ⟨rfl, hg1⟩
    go_wp2_with fail
    go_ret
    exact ⟨ret_bool (by unfold frB; rw [decide_eq_true Hl.out]; rfl), Hg0.out.trans (by first | exact hg1 | (subst hg1; exact Gr.refl _ _))⟩
  · have Hl := hid hl
    have hl' : decide ((x.length : Int) ≤ 4) = false := decide_eq_false hl
    clear hl
    go_enter Tryz.func77, Tryz.ntmps77
    go_wp2_with fail
    go_ret
    exact ⟨ret_bool (by unfold frB; rw [decide_eq_false (by have := Hl.out; omega)]; rfl), Hg0.out⟩

end Go.Proofs.YtdpcjfbnakfflaaGreat

set_option linter.unusedVariables false
set_option linter.unusedSimpArgs false
namespace Go.Proofs.YtdpcjfbnakfflaaGreat
open Go.RowKit


set_option maxRecDepth 100000 in
set_option maxHeartbeats 1000000 in
theorem agLit_c (old y : List Int) (on : Nat → Bool) (k q1 q2 : Nat) (C : Array Value) (xv cv : Value) (W : World) (hx : Nums [] W .i64 xv old) (hy : Nums [] W .i64 cv y) (hl : old.length = y.length) (hl' : y.length ≤ 100)
    (h1 : W.cell? ⟨q1, 0, none⟩ = some (.func (.func k) #[] C)) (h2 : W.cell? ⟨q2, 0, none⟩ = some xv)
    (hk : ∀ args w, (callFunc k args).run Tryz.prog w = .ok (.enter k args) w)
    (hon : ∀ (i : Nat) W', i < y.length → Gr [] W W' → Calls Tryz.prog k (#[.int .i64 i] ++ C) W' fun e W'' => e = .returned (.bool (on i)) ∧ Gr [] W' W'') :
    Calls Tryz.prog 199 #[cv, .pointer (some ⟨q1, 0, none⟩), .pointer (some ⟨q2, 0, none⟩)] W fun e W' => e = .returned (.bool (!agI on old y y.length)) ∧ Gr [] W W' := by
  have Hx := hid hx; have Hy := hid hy; have H1 := hid h1; have H2 := hid h2; have Hk := hid hk; have Hon := hid hon
  obtain ⟨xo, xc, rfl, ⟨hx1, hx2, -⟩, -⟩ := hx
  obtain ⟨yo, yc, rfl, ⟨hy1, hy2, -⟩, -⟩ := hy
  have Hl := hid hl
  clear h1 h2 hon hl
  go_enter Tryz.func199, Tryz.ntmps199
  go_wp2_with fail
  go_loopw [9] (fun i wr => ∃ n : Nat, n ≤ y.length ∧ i = .int .i64 n ∧ agI on old y n = true ∧ Gr [] W wr) (fun i _ => y.length - (intOf i).toNat)
  case atStart => exact ⟨0, Nat.zero_le _, rfl, agI_zero _ _ _, Gr.refl _ _⟩
  case round =>
    obtain ⟨n, hn, rfl, hok, hg⟩ := hrel
    have Hok := hid hok; have Hg := hid hg
    clear hok
    by_cases hlt : n < y.length
    · obtain ⟨b, hb⟩ := get_some hlt
      obtain ⟨a, ha⟩ := get_some (xs := old) (k := n) (by have := Hl.out; omega)
      have HS := hid (agI_succ on hb ha)
      obtain ⟨b1, o1, e1, -, c1⟩ := (Hy.out.gr hg).at hb
      subst e1
      obtain ⟨b2, o2, e2, -, c2⟩ := (Hx.out.gr hg).at ha
      subst e2
      have hol : n < old.length := by have := Hl.out; omega
      have d1 := hg.cell H1.out (by simp); have d2 := hg.cell H2.out (by simp)
      have Hb := hid hb; have Ha := hid ha
      clear hb ha hg
      go_wp2_with fail
      refine (Hon.out n wr hlt Hg.out).mono ?_
      rintro e w5 ⟨rfl, hg5⟩
      have c25 := hg5.cell c2 (by simp); have d25 := hg5.cell d2 (by simp)
      have Hg5 := hid hg5
      clear hg5 c1 c2 d1 d2
      cases ho : on n
      · have Ho := hid ho
        clear ho
        go_wp2_with fail
        exact ⟨⟨n + 1, by omega, by go_num, by rw [HS.out, Hok.out, Ho.out]; rfl, Hg.out.trans Hg5.out⟩, by simp [intOf]; omega⟩
      · have Ho := hid ho
        clear ho
        cases hne : (b == a)
        · have Hne := hid hne
          go_wp2_with fail
          go_ret
          exact ⟨ret_bool (by rw [agI_false hlt Ho.out (by rw [getD_here Hb.out, getD_here Ha.out, bne, Hne.out]; rfl)]; rfl), Hg.out.trans Hg5.out⟩
        · have Hne := hid hne
          go_wp2_with fail
          exact ⟨⟨n + 1, by omega, by go_num, by rw [HS.out, Hok.out, Ho.out, bne, Hne.out]; rfl, Hg.out.trans Hg5.out⟩, by simp [intOf]; omega⟩
    · have hne : n = y.length := by omega
      subst hne
      clear hg
      go_wp2_with fail
      go_ret
      exact ⟨ret_bool (by rw [Hok.out]; rfl), Hg.out⟩


set_option maxRecDepth 100000 in
set_option maxHeartbeats 2000000 in
theorem agreeing_c (m : Mod) (D : List Nat) (old : List Int) (on : Nat → Bool) (k : Nat) (C : Array Value) (mv xv : Value) (w : World) (hv : ModV [] w mv m) (hVM : VM m D) (hx : Nums [] w .i64 xv old) (hl : old.length = D.length)
    (hk : ∀ args w, (callFunc k args).run Tryz.prog w = .ok (.enter k args) w)
    (hon : ∀ (S : List Nat) (i : Nat) W, i < D.length → (∀ b ∈ S, w.heap.size ≤ b) → Gr S w W → Calls Tryz.prog k (#[.int .i64 i] ++ C) W fun e W' => e = .returned (.bool (on i)) ∧ Gr [] W W') :
    Calls Tryz.prog 151 #[mv, xv, .func (.func k) #[] C] w fun e w' => ∃ v, e = .returned v ∧ RowsE w.heap.size w'.heap.size w' v ((sols m.cons D).filter fun x => agI on old x x.length) ∧ Gr [] w w' := by
  have Hv := hid hv; have HVM := hid hVM; have Hx := hid hx; have Hk := hid hk; have Hon := hid hon; have HLo := hid hl
  obtain ⟨xo, xc, co, cc, rfl⟩ := hv.slices
  obtain ⟨oo, oc, rfl, -, -⟩ := hx
  clear hv hVM hk hon hl
  have h20 : (((w.alloc (.cells #[.slice xo m.doms.length xc, .slice co m.cons.length cc] 31)).alloc (.cells #[.slice oo old.length oc] 22)).alloc (.cells #[.func (.func k) #[] C] 144)).heap[w.heap.size]? = some (.cells #[.slice xo m.doms.length xc, .slice co m.cons.length cc] 31 (0, 0)) := (((Gr.refl [] _).alloc _).alloc _).obj (heap_alloc_new _ _) (by simp)
  have h21 : (((w.alloc (.cells #[.slice xo m.doms.length xc, .slice co m.cons.length cc] 31)).alloc (.cells #[.slice oo old.length oc] 22)).alloc (.cells #[.func (.func k) #[] C] 144)).heap[w.heap.size + 1]? = some (.cells #[.slice oo old.length oc] 22 (0, 0)) := by
    have h := heap_alloc_new (w.alloc (.cells #[.slice xo m.doms.length xc, .slice co m.cons.length cc] 31)) (.cells #[.slice oo old.length oc] 22)
    rw [World.size_alloc] at h
    exact ((Gr.refl [] _).alloc _).obj h (by simp)
  have h22 : (((w.alloc (.cells #[.slice xo m.doms.length xc, .slice co m.cons.length cc] 31)).alloc (.cells #[.slice oo old.length oc] 22)).alloc (.cells #[.func (.func k) #[] C] 144)).heap[w.heap.size + 2]? = some (.cells #[.func (.func k) #[] C] 144 (0, 0)) := by
    have h := heap_alloc_new ((w.alloc (.cells #[.slice xo m.doms.length xc, .slice co m.cons.length cc] 31)).alloc (.cells #[.slice oo old.length oc] 22)) (.cells #[.func (.func k) #[] C] 144)
    rwa [World.size_alloc, World.size_alloc] at h
  have hg0 : Gr [] w (((w.alloc (.cells #[.slice xo m.doms.length xc, .slice co m.cons.length cc] 31)).alloc (.cells #[.slice oo old.length oc] 22)).alloc (.cells #[.func (.func k) #[] C] 144)) := (((Gr.refl [] w).alloc _).alloc _).alloc _
  have hs0 : (((w.alloc (.cells #[.slice xo m.doms.length xc, .slice co m.cons.length cc] 31)).alloc (.cells #[.slice oo old.length oc] 22)).alloc (.cells #[.func (.func k) #[] C] 144)).heap.size = w.heap.size + 3 := by simp
  have fl0 := fld h20; have fl1 := fld h21; have fl2 := fld h22
  have Hg0 := hid hg0; have H21 := hid h21; have H22 := hid h22
  clear h20 h21 h22 hg0
  go_enter Tryz.func151, Tryz.ntmps151
  go_wp2_with fail
  generalize hW0 : (((w.alloc (.cells #[.slice xo m.doms.length xc, .slice co m.cons.length cc] 31)).alloc (.cells #[.slice oo old.length oc] 22)).alloc (.cells #[.func (.func k) #[] C] 144)) = w0 at *
  clear hW0
  have hcall := solutionsD_c m D _ w0 (Hv.out.gr Hg0.out) HVM.out
  (with_reducible refine hcall.mono ?_)
  clear hcall
  rintro e w4 ⟨v4, rfl, ⟨_, hd4⟩, hg4⟩
  have He4 := hid hd4.e
  obtain ⟨ao, cap, rfl, -, -⟩ := hd4
  have Hg4 := hid hg4
  have hs4 := hg4.size
  clear hg4 fl0 fl1 fl2
  go_wp2_with fail
  have hcall := DeleteFunc_c (sols m.cons D) (fun x => !agI on old x x.length) w0.heap.size w4.heap.size 199 #[.pointer (some ⟨w.heap.size + 2, 0, none⟩), .pointer (some ⟨w.heap.size + 1, 0, none⟩)] _ w4 He4.out (fun _ _ => by kernel_rfl) (fun S x cv W hx hS hg hn => by
    have hS0 : ∀ b ∈ S, w0.heap.size ≤ b := fun b hb => (hS b hb).1
    have hg0W : Gr S w0 W := Gr.trans Hg4.out.any hg
    have h2 : Nums [] W .i64 (.slice oo old.length oc) old := (((Hx.out.gr Hg0.out).sub (S' := S) (fun b h1 h2 => by have := hS0 b h2; omega)).gr hg0W).sub (by simp)
    have h3 := hg0W.obj H21.out (fun hm => by have := hS0 _ hm; omega)
    have h4 := hg0W.obj H22.out (fun hm => by have := hS0 _ hm; omega)
    have hxl := solv hx
    exact agLit_c old x on k (w.heap.size + 2) (w.heap.size + 1) C _ cv W h2 hn (by rw [hxl.1]; exact HLo.out) (by have := HVM.out.len.2; omega) (fld h4 0) (fld h3 0) Hk.out
      (fun i W' hi hg' => Hon.out S i W' (by omega) (fun b hb => by have := hS0 b hb; omega) ((Gr.any Hg0.out).trans (hg0W.trans hg'.any))))
  (with_reducible refine hcall.mono ?_)
  clear hcall
  rintro e w5 ⟨v5, rfl, hr5, g5, hgB5, hg5⟩
  have e5 : (sols m.cons D).filter (fun x => !(fun x => !agI on old x x.length) x) = (sols m.cons D).filter (fun x => agI on old x x.length) := by simp
  obtain ⟨zs, hz⟩ : ∃ zs, zs = (sols m.cons D).filter (fun x => agI on old x x.length) := ⟨_, rfl⟩
  have hr5 : RowsE w0.heap.size w4.heap.size w5 v5 zs := by rw [hz, ← e5]; exact hr5
  have Hz := hid hz
  clear e5 hz
  obtain ⟨ro, rc, rfl, -, -⟩ := id hr5
  have Hr5 := hid hr5
  have HG5 : Hid (Gr [] w w5) := hid ((Hg0.out.trans Hg4.out).step hg5 (fun i hi => .inr (by simp at hi; omega)))
  have hs5 := hg5.size
  clear hr5 hg5
  go_wp2_with fail
  go_ret
  refine ⟨_, rfl, ?_, HG5.out⟩
  rw [← Hz.out]
  exact Hr5.out.imp (by omega) (by omega)



end Go.Proofs.YtdpcjfbnakfflaaGreat
