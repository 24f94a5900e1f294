/-
  Walks of the canonical solutions: the program's and the reference's.
-/
import Derived.Test.YtjmjjdgbkibdaaaGreatOr
import Derived.Test.YtjmjjdgbkibdaaaGreatDf
set_option linter.unusedVariables false
set_option linter.unusedSimpArgs false
namespace Go.Proofs.YtjmjjdgbkibdaaaGreat
open Go.RowKit

/-! ### A list of values that lead elsewhere -/
def elV (S : List Nat) (w : World) (cs : List Value) (u : Value) : Prop := cs = [u]
theorem elV_ok : ElOk elV := ⟨fun h _ => h, fun h _ => h⟩
theorem OwnG.rowsV {B : Nat} {w : World} {e : TypeId} {v : Value} {us : List Value} {rows : List (List Int)} {S : List Nat} (h : OwnG 1 elV B w e v us) (hl : us.length = rows.length) (hr : ∀ (i : Nat) u r, us[i]? = some u → rows[i]? = some r → Nums S w .i64 u r) (hS : ∀ b ∈ S, b < B ∨ w.heap.size ≤ b) : RowsV S w v rows := by
  obtain ⟨ao, cap, rfl, h1, h2, h3⟩ := h.slice
  refine ⟨ao, cap, by rw [hl], ⟨by rw [← hl]; exact h1, h2, h3⟩, fun i r hi => ?_⟩
  obtain ⟨u, hu⟩ := get_some (xs := us) (k := i) (by have := (List.getElem?_eq_some_iff.1 hi).1; omega)
  obtain ⟨g, cap', cs, e1, hb, hlt, hlen, hc, hf, hel⟩ := h.cell hu
  cases e1
  have hcs := hel [] (by simp)
  unfold elV at hcs
  subst hcs
  exact ⟨g, 0, u, rfl, fun hm => by rcases hS g hm with h | h <;> omega, by have := hc 0 u rfl; simpa using this, hr i u r hu hi⟩

theorem OwnG.emptyL {α : Type} {size : Nat} {el : List Nat → World → List Value → α → Prop} {B : Nat} (w : World) (e : TypeId) (hB : B ≤ w.heap.size) : OwnG size el B (w.alloc (.cells #[] e)) e (.slice (some ⟨w.heap.size, 0, none⟩) 0 0) ([] : List α) :=
  ⟨[], rfl, by simp, ⟨by simp, .inr ⟨w.heap.size, 0, #[], rfl, hB, heap_alloc_new _ _, Nat.le_refl _, by simp [maxLen], by simp, by simp⟩⟩, by intro i cs x h; simp at h⟩

/-! ### Ascending in each orbit -/
def badB (o x : List Int) (i j : Nat) : Bool := (o.getD i 0 == o.getD j 0) && decide (x.getD i 0 < x.getD j 0)
def canB (o x : List Int) : Bool := (List.range x.length).all fun i => (List.range i).all fun j => !badB o x i j
theorem canB_true {o x : List Int} (h : ∀ i, i < x.length → ∀ j, j < i → badB o x i j = false) : canB o x = true := by
  unfold canB
  rw [List.all_eq_true]
  intro i hi
  rw [List.all_eq_true]
  intro j hj
  rw [h i (List.mem_range.1 hi) j (List.mem_range.1 hj)]; rfl
theorem canB_false {o x : List Int} {i j : Nat} (hi : i < x.length) (hj : j < i) (h : badB o x i j = true) : canB o x = false := by
  unfold canB
  rw [List.all_eq_false]
  refine ⟨i, List.mem_range.2 hi, ?_⟩
  rw [Bool.not_eq_true, List.all_eq_false]
  exact ⟨j, List.mem_range.2 hj, by rw [h]; simp⟩
theorem getD_at {xs : List Int} {i : Nat} {x : Int} (h : xs[i]? = some x) : xs.getD i 0 = x := by rw [List.getD_eq_getElem?_getD, h]; rfl
theorem badB_at {o x : List Int} {i j : Nat} {a b c d : Int} (h1 : o[i]? = some a) (h2 : o[j]? = some b) (h3 : x[i]? = some c) (h4 : x[j]? = some d) : badB o x i j = ((a == b) && decide (c < d)) := by
  unfold badB; rw [getD_at h1, getD_at h2, getD_at h3, getD_at h4]


set_option maxRecDepth 100000 in
set_option maxHeartbeats 1000000 in
theorem canLit_c (o x : List Int) (q : Nat) (ov cv : Value) (W : World) (ho : Nums [] W .i64 ov o) (hq : W.cell? ⟨q, 0, none⟩ = some ov) (hx : Nums [] W .i64 cv x) (hl : x.length ≤ o.length) :
    Calls Tryz.prog 100 #[cv, .pointer (some ⟨q, 0, none⟩)] W fun e W' => e = .returned (.bool (!canB o x)) ∧ Gr [] W W' := by
  have Ho := hid ho; have Hx := hid hx; have Hq := hid hq
  obtain ⟨oo, oc, rfl, ⟨ho1, ho2, -⟩, -⟩ := ho
  obtain ⟨xo, xc, rfl, ⟨hx1, hx2, -⟩, -⟩ := hx
  clear hq
  go_enter Tryz.func100, Tryz.ntmps100
  go_wp2_with fail
  go_loopw [8] (fun i wr => ∃ n : Nat, n ≤ x.length ∧ i = .int .i64 n ∧ (∀ a, a < n → ∀ b, b < a → badB o x a b = false) ∧ Gr [] W wr) (fun i _ => x.length - (intOf i).toNat)
  case atStart => exact ⟨0, Nat.zero_le _, rfl, fun a ha => by omega, Gr.refl _ _⟩
  case round =>
    obtain ⟨n, hn, rfl, hok, hg⟩ := hrel
    have Hok := hid hok; have Hg := hid hg
    clear hok hg
    by_cases hlt : n < x.length
    · obtain ⟨oi, hoi⟩ := get_some (xs := o) (k := n) (by omega)
      obtain ⟨xi, hxi⟩ := get_some hlt
      have Hoi := hid hoi; have Hxi := hid hxi
      clear hoi hxi
      generalize wr = wo at *
      go_wp2_with fail
      go_loopw [12] (fun j wq => ∃ k : Nat, k ≤ n ∧ j = .int .i64 k ∧ (∀ b, b < k → badB o x n b = false) ∧ Gr [] wo wq) (fun j _ => n - (intOf j).toNat)
      case atStart => exact ⟨0, Nat.zero_le _, rfl, fun b hb => by omega, Gr.refl _ _⟩
      case round =>
        obtain ⟨k, hk, rfl, hno, hgi⟩ := hrel
        have Hno := hid hno
        have hgw : Gr [] W wr := Hg.out.trans hgi
        have Hgi := hid hgi
        clear hno hgi
        by_cases hlt2 : k < n
        · obtain ⟨oj, hoj⟩ := get_some (xs := o) (k := k) (by omega)
          obtain ⟨xj, hxj⟩ := get_some (xs := x) (k := k) (by omega)
          have Hb := hid (badB_at Hoi.out hoj Hxi.out hxj)
          obtain ⟨b1, p1, e1, -, c1⟩ := (Ho.out.gr hgw).at Hoi.out
          subst e1
          obtain ⟨b2, p2, e2, -, c2⟩ := (Ho.out.gr hgw).at hoj
          obtain ⟨rfl, rfl⟩ : b1 = b2 ∧ p1 = p2 := by simpa using e2
          obtain ⟨b3, p3, e3, -, c3⟩ := (Hx.out.gr hgw).at Hxi.out
          subst e3
          obtain ⟨b4, p4, e4, -, c4⟩ := (Hx.out.gr hgw).at hxj
          obtain ⟨rfl, rfl⟩ : b3 = b4 ∧ p3 = p4 := by simpa using e4
          have cq := hgw.cell Hq.out (by simp)
          clear hoj hxj e2 e4 hgw
          cases h1 : (oi == oj)
          · have H1 := hid h1
            go_wp2_with fail
            go_quiet (fail)
            go_wp2_with fail
            refine ⟨⟨k + 1, by omega, by go_num, fun b hb => ?_, Hgi.out.drewN _⟩, by simp [intOf]; omega⟩
            by_cases hbk : b < k
            · exact Hno.out b hbk
            · have : b = k := by omega
              subst this; rw [Hb.out, H1.out]; rfl
          · have H1 := hid h1
            by_cases h2 : xi < xj
            · have h2' : decide (xi < xj) = true := decide_eq_true h2
              have hcan := canB_false (o := o) hlt hlt2 (by rw [Hb.out, H1.out, h2']; rfl)
              have Hcan := hid hcan
              clear hcan
              go_wp2_with fail
              go_quiet (fail)
              go_wp2_with fail
              go_ret
              exact ⟨ret_bool (by rw [Hcan.out]; rfl), Hg.out.trans (Hgi.out.drewN _)⟩
            · have h2' : decide (xi < xj) = false := decide_eq_false h2
              go_wp2_with fail
              go_quiet (fail)
              go_wp2_with fail
              refine ⟨⟨k + 1, by omega, by go_num, fun b hb => ?_, Hgi.out.drewN _⟩, by simp [intOf]; omega⟩
              by_cases hbk : b < k
              · exact Hno.out b hbk
              · have : b = k := by omega
                subst this; rw [Hb.out, H1.out, h2']; rfl
        · have hkn : k = n := by omega
          subst hkn
          clear hgw
          go_wp2_with fail
          refine ⟨⟨k + 1, by omega, by go_num, fun a ha b hb => ?_, Hg.out.trans Hgi.out⟩, by simp [intOf]; omega⟩
          by_cases hak : a < k
          · exact Hok.out a hak b hb
          · have : a = k := by omega
            subst this; exact Hno.out b hb
    · have hcan := canB_true (o := o) (x := x) (by intro i hi j hj; exact Hok.out i (by omega) j hj)
      have Hcan := hid hcan
      clear hcan
      go_wp2_with fail
      go_ret
      exact ⟨ret_bool (by rw [Hcan.out]; rfl), Hg.out⟩


set_option maxRecDepth 100000 in
set_option maxHeartbeats 1000000 in
theorem isCanonical_c (o x : List Int) (ov cv : Value) (W : World) (ho : Nums [] W .i64 ov o) (hx : Nums [] W .i64 cv x) (hl : x.length ≤ o.length) :
    Calls Tryz.prog 95 #[ov, cv] W fun e W' => e = .returned (.bool (canB o x)) ∧ Gr [] W W' := by
  have Ho := hid ho; have Hx := hid hx
  obtain ⟨oo, oc, rfl, ⟨ho1, ho2, -⟩, -⟩ := ho
  obtain ⟨xo, xc, rfl, ⟨hx1, hx2, -⟩, -⟩ := hx
  go_enter Tryz.func95, Tryz.ntmps95
  go_wp2_with fail
  go_loopw [5] (fun i wr => ∃ n : Nat, n ≤ x.length ∧ i = .int .i64 n ∧ (∀ a, a < n → ∀ b, b < a → badB o x a b = false) ∧ Gr [] W wr) (fun i _ => x.length - (intOf i).toNat)
  case atStart => exact ⟨0, Nat.zero_le _, rfl, fun a ha => by omega, Gr.refl _ _⟩
  case round =>
    obtain ⟨n, hn, rfl, hok, hg⟩ := hrel
    have Hok := hid hok; have Hg := hid hg
    clear hok hg
    by_cases hlt : n < x.length
    · obtain ⟨oi, hoi⟩ := get_some (xs := o) (k := n) (by omega)
      obtain ⟨xi, hxi⟩ := get_some hlt
      have Hoi := hid hoi; have Hxi := hid hxi
      clear hoi hxi
      generalize wr = wo at *
      go_wp2_with fail
      go_loopw [6] (fun j wq => ∃ k : Nat, k ≤ n ∧ j = .int .i64 k ∧ (∀ b, b < k → badB o x n b = false) ∧ Gr [] wo wq) (fun j _ => n - (intOf j).toNat)
      case atStart => exact ⟨0, Nat.zero_le _, rfl, fun b hb => by omega, Gr.refl _ _⟩
      case round =>
        obtain ⟨k, hk, rfl, hno, hgi⟩ := hrel
        have Hno := hid hno
        have hgw : Gr [] W wr := Hg.out.trans hgi
        have Hgi := hid hgi
        clear hno hgi
        by_cases hlt2 : k < n
        · obtain ⟨oj, hoj⟩ := get_some (xs := o) (k := k) (by omega)
          obtain ⟨xj, hxj⟩ := get_some (xs := x) (k := k) (by omega)
          have Hb := hid (badB_at Hoi.out hoj Hxi.out hxj)
          obtain ⟨b1, p1, e1, -, c1⟩ := (Ho.out.gr hgw).at Hoi.out
          subst e1
          obtain ⟨b2, p2, e2, -, c2⟩ := (Ho.out.gr hgw).at hoj
          obtain ⟨rfl, rfl⟩ : b1 = b2 ∧ p1 = p2 := by simpa using e2
          obtain ⟨b3, p3, e3, -, c3⟩ := (Hx.out.gr hgw).at Hxi.out
          subst e3
          obtain ⟨b4, p4, e4, -, c4⟩ := (Hx.out.gr hgw).at hxj
          obtain ⟨rfl, rfl⟩ : b3 = b4 ∧ p3 = p4 := by simpa using e4
          clear hoj hxj e2 e4 hgw
          cases h1 : (oi == oj)
          · have H1 := hid h1
            go_wp2_with fail
            go_quiet (fail)
            go_wp2_with fail
            refine ⟨⟨k + 1, by omega, by go_num, fun b hb => ?_, Hgi.out.drewN _⟩, by simp [intOf]; omega⟩
            by_cases hbk : b < k
            · exact Hno.out b hbk
            · have : b = k := by omega
              subst this; rw [Hb.out, H1.out]; rfl
          · have H1 := hid h1
            by_cases h2 : xi < xj
            · have h2' : decide (xi < xj) = true := decide_eq_true h2
              have hcan := canB_false (o := o) hlt hlt2 (by rw [Hb.out, H1.out, h2']; rfl)
              have Hcan := hid hcan
              clear hcan
              go_wp2_with fail
              go_quiet (fail)
              go_wp2_with fail
              go_ret
              exact ⟨ret_bool Hcan.out.symm, Hg.out.trans (Hgi.out.drewN _)⟩
            · have h2' : decide (xi < xj) = false := decide_eq_false h2
              go_wp2_with fail
              go_quiet (fail)
              go_wp2_with fail
              refine ⟨⟨k + 1, by omega, by go_num, fun b hb => ?_, Hgi.out.drewN _⟩, by simp [intOf]; omega⟩
              by_cases hbk : b < k
              · exact Hno.out b hbk
              · have : b = k := by omega
                subst this; rw [Hb.out, H1.out, h2']; rfl
        · have hkn : k = n := by omega
          subst hkn
          clear hgw
          go_wp2_with fail
          refine ⟨⟨k + 1, by omega, by go_num, fun a ha b hb => ?_, Hg.out.trans Hgi.out⟩, by simp [intOf]; omega⟩
          by_cases hak : a < k
          · exact Hok.out a hak b hb
          · have : a = k := by omega
            subst this; exact Hno.out b hb
    · have hcan := canB_true (o := o) (x := x) (by intro i hi j hj; exact Hok.out i (by omega) j hj)
      have Hcan := hid hcan
      clear hcan
      go_wp2_with fail
      go_ret
      exact ⟨ret_bool Hcan.out.symm, Hg.out⟩

/-! ### The canonical solutions -/
def canO (m : Mod) (D : List Nat) : List (List Int) := if validM m then (sols m.cons D).filter (fun x => canB (orbs m.cons D D.length) x) else []
theorem canO_len (m : Mod) (D : List Nat) (hD : validM m = true → VM m D) : mkR (canO m D) ≤ 1000000 := by
  unfold canO
  cases h : validM m
  · simp [mkR]
  · have hv := hD h
    simp only [if_true]
    have h1 := sols_length m.cons D hv.len.2
    have h2 : ((sols m.cons D).filter (fun x => canB (orbs m.cons D D.length) x)).length ≤ 1296 := Nat.le_trans (List.length_filter_le _ _) h1
    have hx : ∀ x ∈ (sols m.cons D).filter (fun x => canB (orbs m.cons D D.length) x), x.length ≤ 4 := fun x hx => by rw [tups_len (mem_sols.1 (List.mem_filter.1 hx).1).1]; exact hv.len.2
    revert hx h2
    generalize (sols m.cons D).filter (fun x => canB (orbs m.cons D D.length) x) = zs
    intro h2 hx
    have h3 : mkR zs ≤ 4 * zs.length := by
      clear h2
      induction zs with
      | nil => simp [mkR]
      | cons z r ih =>
        have h2 := hx z (by simp)
        have h3 := ih (fun x hx' => hx x (by simp [hx']))
        simp only [mkR, List.map_cons, List.sum_cons, List.length_cons] at h3 ⊢
        omega
    omega

set_option maxRecDepth 100000 in
set_option maxHeartbeats 1000000 in
theorem CanonicalSolutions_c (m : Mod) (mv : Value) (w : World) (hv : ModV [] w mv m) (D : List Nat) (hD : validM m = true → VM m D) :
    Calls Tryz.prog 30 #[mv] w fun e w' => ∃ v, e = .returned v ∧ RowsE w.heap.size w'.heap.size w' v (canO m D) ∧ Gr [] w w' := by
  have Hv := hid hv; have HD := hid hD
  obtain ⟨xo, xc, co, cc, rfl⟩ := hv.slices
  have hg0 : Gr [] w (w.alloc (.cells #[.slice xo m.doms.length xc, .slice co m.cons.length cc] 31)) := (Gr.refl _ _).alloc _
  have hb0 : (w.alloc (.cells #[.slice xo m.doms.length xc, .slice co m.cons.length cc] 31)).heap[w.heap.size]? = some (.cells #[.slice xo m.doms.length xc, .slice co m.cons.length cc] 31 (0, 0)) := heap_alloc_new _ _
  have fl0 := fld hb0
  have Hg0 := hid hg0; have Hb0 := hid hb0
  clear hv hg0 hb0 hD
  go_enter Tryz.func30, Tryz.ntmps30
  go_wp2_with fail
  have hcall := ValidModel_c m _ _ (Hv.out.gr Hg0.out)
  (with_reducible refine hcall.mono ?_)
  clear hcall
  rintro e w1 ⟨rfl, hg1⟩
  have Hb1 := hid (hg1.obj Hb0.out (by simp))
  have fl1 := fld Hb1.out
  have Hg1 := hid (Hg0.out.trans hg1)
  have hs1 := hg1.size
  rw [World.size_alloc] at hs1
  clear fl0 hg1
  cases hval : validM m
  · have Hval := hid hval; clear hval
    go_wp2_with fail
    go_ret
    exact ⟨_, rfl, by unfold canO; rw [Hval.out]; exact RowsE.nil _ _ _, Hg1.out⟩
  have HVM := hid (HD.out hval)
  have Hval := hid hval
  clear hval
  go_wp2_with fail
  have hcall := orbits_c m D _ w1 (Hv.out.gr Hg1.out) HVM.out
  (with_reducible refine hcall.mono ?_)
  clear hcall
  rintro e w2 ⟨v2, rfl, ho2, hg2⟩
  obtain ⟨oo, oc, rfl, -, -⟩ := ho2.nums (S := []) (by simp)
  rw [orbs_len] at ho2 ⊢
  have Ho2 := hid ho2
  have Hb2 := hid (hg2.obj Hb1.out (by simp)); have Hg2 := hid (Hg1.out.trans hg2)
  have fl2 := fld Hb2.out
  have hs2 := hg2.size
  clear ho2 hg2 fl1
  have ha3 : Gr [] w2 (w2.alloc (.cells #[.slice oo D.length oc] 22)) := (Gr.refl _ _).alloc _
  have hb3 : (w2.alloc (.cells #[.slice oo D.length oc] 22)).heap[w2.heap.size]? = some (.cells #[.slice oo D.length oc] 22 (0, 0)) := heap_alloc_new _ _
  have Ha3 := hid ha3; have Hb3 := hid hb3
  have fl3 := fld (ha3.obj Hb2.out (by simp))
  have hsz3 : (w2.alloc (.cells #[.slice oo D.length oc] 22)).heap.size = w2.heap.size + 1 := by simp
  clear ha3 hb3
  go_wp2_with fail
  generalize hW3 : w2.alloc (.cells #[.slice oo D.length oc] 22) = w3 at *
  have hcall := solutionsD_c m D _ w3 (Hv.out.gr (Hg2.out.trans Ha3.out)) HVM.out
  (with_reducible refine hcall.mono ?_)
  clear hcall
  rintro e w4 ⟨v4, rfl, ⟨_, hd4⟩, hg4⟩
  have He4 := hid hd4.e
  obtain ⟨ao, cap, rfl, -, -⟩ := hd4
  have Hg4 := hid hg4
  have hs4 := hg4.size
  clear hg4 fl2 fl3
  go_wp2_with fail
  have hcall := DeleteFunc_c (sols m.cons D) (fun x => !canB (orbs m.cons D D.length) x) w3.heap.size w4.heap.size 100 #[.pointer (some ⟨w2.heap.size, 0, none⟩)] _ w4 He4.out (fun _ _ => by kernel_rfl) (fun S x cv W hx hS hg hn => by
    have h1 : Nums S w2 .i64 (.slice oo D.length oc) (orbs m.cons D D.length) := Ho2.out.nums' (fun b hb => .inr (by have := hS b hb; omega))
    have h2 : Nums S W .i64 (.slice oo D.length oc) (orbs m.cons D D.length) := ((h1.gr Ha3.out.any).gr Hg4.out.any).gr hg
    have h3 : W.heap[w2.heap.size]? = some (.cells #[.slice oo D.length oc] 22 (0, 0)) := hg.obj (Hg4.out.obj Hb3.out (by simp)) (fun hm => by have := hS _ hm; omega)
    exact canLit_c (orbs m.cons D D.length) x w2.heap.size _ cv W (h2.sub (by simp)) (fld h3 0) hn (by rw [orbs_len, tups_len (mem_sols.1 hx).1]; exact Nat.le_refl _))
  (with_reducible refine hcall.mono ?_)
  clear hcall
  rintro e w5 ⟨v5, rfl, hr5, g5, hgB5, hg5⟩
  have e5 : (sols m.cons D).filter (fun x => !(fun x => !canB (orbs m.cons D D.length) x) x) = canO m D := by unfold canO; rw [Hval.out]; simp
  have hr5 : RowsE w3.heap.size w4.heap.size w5 v5 (canO m D) := by rw [← e5]; exact hr5
  clear e5
  obtain ⟨ro, rc, rfl, -, -⟩ := id hr5
  have Hr5 := hid hr5
  have HG5 : Hid (Gr [] w w5) := hid ((Hg2.out.trans (Ha3.out.trans Hg4.out)).step hg5 (fun i hi => .inr (by simp at hi; omega)))
  have hs5 := hg5.size
  clear hr5 hg5
  go_wp2_with fail
  have hcall := ClipE_c w3.heap.size w4.heap.size _ _ w5 Hr5.out
  (with_reducible refine hcall.mono ?_)
  clear hcall
  rintro e w6 ⟨v6, rfl, hr6, hg6⟩
  have Hr6 := hid hr6; have Hg6 := hid hg6
  have hs6 := hg6.size
  clear hr6 hg6
  go_wp2_with fail
  go_ret
  refine ⟨_, rfl, ?_, HG5.out.trans Hg6.out⟩
  exact Hr6.out.imp (by omega) (by omega)


set_option maxRecDepth 100000 in
set_option maxHeartbeats 1000000 in
theorem specCanonicalSolutions_c (m : Mod) (mv : Value) (w : World) (hv : ModV [] w mv m) (hs : m.Small) (D : List Nat) (hD : validM m = true → VM m D) :
    Calls Tryz.prog 29 #[mv] w fun e w' => ∃ v, e = .returned v ∧ RowsV [] w' v (canO m D) ∧ Gr [] w w' := by
  have Hv := hid hv; have HD := hid hD; have Hs := hid hs
  obtain ⟨xo, xc, co, cc, rfl⟩ := hv.slices
  have hg0 : Gr [] w ((w.alloc (.cells #[.slice xo m.doms.length xc, .slice co m.cons.length cc] 31)).alloc (.cells #[] 22)) := ((Gr.refl _ _).alloc _).alloc _
  have hb0 : ((w.alloc (.cells #[.slice xo m.doms.length xc, .slice co m.cons.length cc] 31)).alloc (.cells #[] 22)).heap[w.heap.size]? = some (.cells #[.slice xo m.doms.length xc, .slice co m.cons.length cc] 31 (0, 0)) := ((Gr.refl [] _).alloc _).obj (heap_alloc_new _ _) (by simp)
  have ho0 : OwnG 1 elV (w.heap.size + 1) ((w.alloc (.cells #[.slice xo m.doms.length xc, .slice co m.cons.length cc] 31)).alloc (.cells #[] 22)) 22 (.slice (some ⟨w.heap.size + 1, 0, none⟩) 0 0) [] := by
    have := OwnG.emptyL (size := 1) (el := elV) (B := w.heap.size + 1) (w.alloc (.cells #[.slice xo m.doms.length xc, .slice co m.cons.length cc] 31)) 22 (by simp)
    rwa [World.size_alloc] at this
  have fl0 := fld hb0
  have Hg0 := hid hg0; have Hb0 := hid hb0; have Ho0 := hid ho0
  have hsz0 : ((w.alloc (.cells #[.slice xo m.doms.length xc, .slice co m.cons.length cc] 31)).alloc (.cells #[] 22)).heap.size = w.heap.size + 2 := by simp
  clear hv hg0 hb0 hD hs ho0
  go_enter Tryz.func29, Tryz.ntmps29
  go_wp2_with fail
  generalize hW0 : (w.alloc (.cells #[.slice xo m.doms.length xc, .slice co m.cons.length cc] 31)).alloc (.cells #[] 22) = w0 at *
  clear hW0
  have hcall := specValidModel_c m _ w0 (Hv.out.gr Hg0.out) Hs.out
  (with_reducible refine hcall.mono ?_)
  clear hcall
  rintro e w1 ⟨rfl, hg1⟩
  have Hb1 := hid (hg1.obj Hb0.out (by simp)); have Ho1 := hid (Ho0.out.gr elV_ok hg1 (by simp))
  have fl1 := fld Hb1.out
  have Hg1 := hid (Hg0.out.trans hg1)
  have hs1 := hg1.size
  clear fl0 hg1
  cases hval : validM m
  · have Hval := hid hval; clear hval
    go_wp2_with fail
    go_ret
    exact ⟨_, rfl, by unfold canO; rw [Hval.out]; exact ⟨none, 0, rfl, by simp, fun i r h => by simp at h⟩, Hg1.out⟩
  have HVM := hid (HD.out hval)
  have Hval := hid hval
  clear hval
  go_wp2_with fail
  have hcall := solve_c m D 4096 _ w1 (Hv.out.gr Hg1.out) HVM.out (by omega) (by omega)
  rw [show ((4096 : Nat) : Int) = 4096 from rfl] at hcall
  (with_reducible refine hcall.mono ?_)
  clear hcall
  rintro e w3 ⟨v3, nd, rfl, hown3, hg3⟩
  rw [all_sols m D HVM.out] at hown3
  obtain ⟨zs, hz⟩ : ∃ zs, zs = sols m.cons D := ⟨_, rfl⟩
  rw [← hz] at hown3
  have Hz := hid hz
  have Hl0 := hid (hown3.rows (S := []) (by simp))
  have Hl := hid (hown3.rows (S := [w.heap.size + 1]) (by intro b hb; simp at hb; omega))
  obtain ⟨ro, rc, rfl, hr1, hr2, -⟩ := hown3.slice
  have Hb3 := hid (hg3.obj Hb1.out (by simp)); have Ho3 := hid (Ho1.out.gr elV_ok hg3 (by simp))
  have fl3 := fld Hb3.out
  have Hg3 := hid (Hg1.out.trans hg3)
  have hs3 := hg3.size
  have Hzl : Hid (zs.length ≤ 1296) := hid (by rw [hz]; exact sols_length _ _ HVM.out.len.2)
  clear hown3 hz hg3 fl1
  go_wp2_with fail
  have hcall2 := specOrbits_c m D _ (.slice ro zs.length rc) w3 (Hv.out.gr Hg3.out) HVM.out (by rw [← Hz.out]; exact Hl0.out)
  (with_reducible refine hcall2.mono ?_)
  clear hcall2
  rintro e w4 ⟨v4, rfl, ho4, hg4⟩
  obtain ⟨oo, oc, rfl, -, -⟩ := ho4.nums (S := []) (by simp)
  rw [orbs_len] at ho4 ⊢
  have Hov := hid (ho4.nums' (S := [w.heap.size + 1]) (by intro b hb; simp at hb; omega))
  have Ho4 := hid (Ho3.out.gr elV_ok hg4 (by simp)); have Hl4 := hid (Hl.out.gr hg4.any)
  have Hg4 := hid (Hg3.out.trans hg4)
  have hs4 := hg4.size
  clear ho4 hg4 fl3
  obtain ⟨p, hp⟩ : ∃ p : List Int → Bool, p = canB (orbs m.cons D D.length) := ⟨_, rfl⟩
  have Hp := hid hp
  clear hp
  go_wp2_with fail
  go_loopw [3, 7] (fun o i wr => ∃ (n : Nat) (us : List Value) (ov : Value), ov = o ∧ n ≤ zs.length ∧ i = .int .i64 n ∧ OwnG 1 elV (w.heap.size + 1) wr 22 ov us ∧ us.length = ((zs.take n).filter p).length ∧ (∀ (i : Nat) u r, us[i]? = some u → ((zs.take n).filter p)[i]? = some r → Nums [w.heap.size + 1] w4 .i64 u r) ∧ (∀ b, ov.ownBlock = some b → b = w.heap.size + 1 ∨ w4.heap.size ≤ b) ∧ Gr [w.heap.size + 1] w4 wr) (fun _ i _ => zs.length - (intOf i).toNat)
  case atStart => exact ⟨0, [], _, rfl, Nat.zero_le _, rfl, Ho4.out, by simp, by simp, fun b hb => .inl (by simp [Value.ownBlock] at hb; exact hb.symm), Gr.refl _ _⟩
  case round =>
    obtain ⟨n, us, ov, rfl, hn, rfl, hown, hul, hus, hwh, hg⟩ := hrel
    have Hown := hid hown; have Hul := hid hul; have Hus := hid hus; have Hwh := hid hwh; have Hg := hid hg
    have hsr := hg.size
    clear hown hul hus hwh hg
    by_cases hlt : n < zs.length
    · obtain ⟨x, hx⟩ := get_some hlt
      have hxm : x ∈ sols m.cons D := by rw [← Hz.out]; exact List.mem_of_getElem? hx
      obtain ⟨b, oz, u, e1, hc0, hn0⟩ := (Hl4.out).at0 hx
      subst e1
      obtain ⟨xo', xc', rfl, -, -⟩ := id hn0
      obtain ⟨b', o', e2, hbS, hc1⟩ : ∃ b' o', (some (⟨b, oz, none⟩ : Addr)) = some ⟨b', o', none⟩ ∧ b' ∉ [w.heap.size + 1] ∧ w4.cell? ⟨b', o' + n, none⟩ = some (.slice xo' x.length xc') := by
        obtain ⟨ao', cap', e, _, hcc⟩ := Hl4.out
        cases e
        obtain ⟨b1, o1, u1, e1, hs1, h1, _⟩ := hcc n x hx
        simp only [Option.some.injEq, Addr.mk.injEq, and_true] at e1
        obtain ⟨rfl, rfl⟩ := e1
        rw [hc0] at h1; cases h1
        exact ⟨b, oz, rfl, hs1, hc0⟩
      obtain ⟨rfl, rfl⟩ : b = b' ∧ oz = o' := by simpa using e2
      have hcr := Hg.out.cell hc1 hbS
      have HS : Hid ((zs.take (n + 1)).filter p = (zs.take n).filter p ++ if p x then [x] else []) := hid (by rw [List.take_add_one, hx, List.filter_append]; simp only [Option.toList_some, List.filter_cons, List.filter_nil])
      have Hn0 := hid hn0
      have hb4 := Hn0.out.gr Hg.out
      have HXr := hid (hb4.sub (S' := []) (by simp))
      have Hor := hid ((Hov.out.gr Hg.out).sub (S' := []) (by simp))
      have hxl : x.length = D.length := tups_len (mem_sols.1 hxm).1
      have Hxl := hid hxl
      have HC5 : Hid (w4.cell? ⟨b, oz + n, none⟩ = some (.slice xo' x.length xc')) := hid hc1
      have Hbs := hid hbS
      clear hx hxm hc0 hn0 hc1 hb4 e2 hxl hbS
      go_wp2_with fail
      have hcall := isCanonical_c (orbs m.cons D D.length) x (.slice oo D.length oc) _ wr Hor.out HXr.out (by rw [orbs_len, Hxl.out]; exact Nat.le_refl _)
      (with_reducible refine hcall.mono ?_)
      clear hcall
      rw [← Hp.out]
      rintro e w5 ⟨rfl, hg5⟩
      have hcr5 := hg5.cell hcr (by simp)
      have Hg5 := hid hg5
      have hs5 := hg5.size
      have HO5 := hid (Hown.out.gr elV_ok hg5 (by simp))
      clear hg5 hcr
      cases hpx : p x
      · have Hpx := hid hpx; clear hpx
        go_wp2_with fail
        have hR : (zs.take (n + 1)).filter p = (zs.take n).filter p := by rw [HS.out, Hpx.out]; simp
        exact ⟨⟨n + 1, us, ov, rfl, by omega, by go_num, HO5.out, by rw [hR]; exact Hul.out, by rw [hR]; exact Hus.out, Hwh.out, Hg.out.trans Hg5.out.any⟩, by simp [intOf]; omega⟩
      · have Hpx := hid hpx; clear hpx
        have hul2 : us.length ≤ 1000000 := by have h1 := Hul.out; have h2 : ((zs.take n).filter p).length ≤ (zs.take n).length := List.length_filter_le _ _; rw [List.length_take] at h2; have := Hzl.out; omega
        go_wp2_with (at_builtin; go_loud (refine wp_appGw rfl _ _ 41 rfl 1 elV elV_ok (w.heap.size + 1) 22 (.slice none 0 0) 24 infoR rfl (by omega) (by omega) Tryz.underlying41 ov us rfl (HO5.out.gr elV_ok ((Gr.refl [] w5).alloc _) (by simp)) w5.heap.size 1 (.slice xo' x.length xc') [.slice xo' x.length xc'] rfl rfl (by simp [Value.oneCell']) (fun j q hj => by match j, hj with | 0, hj => (simp at hj; subst hj; exact cell_one _ _ _) | j + 1, hj => simp at hj) (fun S hS => rfl) hul2 (by simp; omega) ?_; intro v7 w7 hown7 hg7 hwh7; have HO7 := hid hown7; have HG7 := hid hg7; have HW7 := hid hwh7; clear hown7 hg7 hwh7))
        have hR : (zs.take (n + 1)).filter p = (zs.take n).filter p ++ [x] := by rw [HS.out, Hpx.out]; simp
        refine ⟨⟨n + 1, us ++ [.slice xo' x.length xc'], _, rfl, by omega, by go_num, HO7.out, by rw [hR, List.length_append, List.length_append, Hul.out]; rfl, fun i u r hu hr => ?_, fun b hb => ?_, ?_⟩, by simp [intOf]; omega⟩
        · rw [hR] at hr
          by_cases hi : i < us.length
          · rw [List.getElem?_append_left hi] at hu
            rw [List.getElem?_append_left (by have := Hul.out; omega)] at hr
            exact Hus.out i u r hu hr
          · have h1 := (List.getElem?_eq_some_iff.1 hu).1
            rw [List.length_append, List.length_singleton] at h1
            have hie : i = us.length := by omega
            subst hie
            rw [List.getElem?_append_right (by omega), Nat.sub_self] at hu
            rw [List.getElem?_append_right (by have := Hul.out; omega), show us.length - ((zs.take n).filter p).length = 0 by have := Hul.out; omega] at hr
            simp at hu hr
            subst hu hr
            exact Hn0.out
        · rcases HW7.out b hb with h | h
          · exact Hwh.out b h
          · right; rw [World.size_alloc] at h; omega
        · refine ((Hg.out.trans Hg5.out.any).alloc _).step HG7.out (fun i hi => ?_)
          rcases Hwh.out i (by simpa using hi) with h | h
          · left; simp [h]
          · right; exact h
    · have hnz : zs.take n = zs := List.take_of_length_le (by omega)
      rw [hnz] at Hul Hus
      clear hnz
      obtain ⟨ro2, rc2, rfl, -, -, -⟩ := Hown.out.slice
      go_wp2_with fail
      go_ret
      have e : canO m D = zs.filter p := by unfold canO; rw [Hval.out, Hp.out, Hz.out]; rfl
      refine ⟨_, rfl, ?_, Hg4.out.step Hg.out (fun i hi => .inr (by simp at hi; omega))⟩
      rw [e]
      exact (OwnG.rowsV (S := []) Hown.out Hul.out (fun i u r hu hr => ((Hus.out i u r hu hr).gr Hg.out).sub (by simp)) (by simp))

end Go.Proofs.YtjmjjdgbkibdaaaGreat
