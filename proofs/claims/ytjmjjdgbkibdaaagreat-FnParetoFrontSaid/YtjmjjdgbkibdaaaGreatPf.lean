/-
  The Pareto front, plainly: what no other one beats; it covers all, and none of it covers another of it.
  Walks of the Pareto front: the program's and the reference's.
-/
import Derived.Test.YtjmjjdgbkibdaaaGreatBs
import Derived.Test.YtjmjjdgbkibdaaaGreatDf
import Derived.Test.YtjmjjdgbkibdaaaGreatOb
import Derived.Test.YtjmjjdgbkibdaaaGreatRe
import Derived.Test.YtjmjjdgbkibdaaaGreatCa
import Derived.Test.YtjmjjdgbkibdaaaGreatCp
set_option linter.unusedVariables false
set_option linter.unusedSimpArgs false
namespace Go.Proofs.YtjmjjdgbkibdaaaGreat
open Go.RowKit

/-- The one at k beats the one at i. -/
def beatB (a b : List Int → Int) (zs : List (List Int)) (i k : Nat) : Bool :=
  (decide (a (zs.getD k []) ≤ a (zs.getD i [])) && decide (b (zs.getD k []) ≤ b (zs.getD i []))) && ((decide (a (zs.getD k []) < a (zs.getD i [])) || decide (b (zs.getD k []) < b (zs.getD i []))) || decide (k < i))
theorem beatB_iff {a b : List Int → Int} {zs : List (List Int)} {i k : Nat} : beatB a b zs i k = true ↔ (a (zs.getD k []) ≤ a (zs.getD i []) ∧ b (zs.getD k []) ≤ b (zs.getD i [])) ∧ (a (zs.getD k []) < a (zs.getD i []) ∨ b (zs.getD k []) < b (zs.getD i []) ∨ k < i) := by
  unfold beatB
  simp only [Bool.and_eq_true, Bool.or_eq_true, decide_eq_true_iff, or_assoc]
def beatenB (a b : List Int → Int) (zs : List (List Int)) (i n : Nat) : Bool := (List.range n).any (beatB a b zs i)
theorem beatenB_succ (a b : List Int → Int) (zs : List (List Int)) (i n : Nat) : beatenB a b zs i (n + 1) = (beatenB a b zs i n || beatB a b zs i n) := by
  unfold beatenB; rw [List.range_succ, List.any_append]; simp
theorem beatenB_zero (a b : List Int → Int) (zs : List (List Int)) (i : Nat) : beatenB a b zs i 0 = false := rfl
def frontI (a b : List Int → Int) (zs : List (List Int)) (n : Nat) : List Nat := (List.range n).filter fun i => !beatenB a b zs i zs.length
def frontL (a b : List Int → Int) (zs : List (List Int)) (n : Nat) : List (List Int) := (frontI a b zs n).map fun i => zs.getD i []
theorem frontL_zero (a b : List Int → Int) (zs : List (List Int)) : frontL a b zs 0 = [] := rfl
theorem frontL_succ {a b : List Int → Int} {zs : List (List Int)} {n : Nat} {x : List Int} (h : zs[n]? = some x) : frontL a b zs (n + 1) = frontL a b zs n ++ if beatenB a b zs n zs.length then [] else [x] := by
  unfold frontL frontI
  rw [List.range_succ, List.filter_append, List.map_append]
  congr 1
  cases hb : beatenB a b zs n zs.length <;> simp [hb, h]
theorem frontL_len (a b : List Int → Int) (zs : List (List Int)) (n : Nat) : (frontL a b zs n).length ≤ n := by
  unfold frontL frontI
  rw [List.length_map]
  exact Nat.le_trans (List.length_filter_le _ _) (by rw [List.length_range]; exact Nat.le_refl _)
theorem mem_frontI {a b : List Int → Int} {zs : List (List Int)} {n i : Nat} : i ∈ frontI a b zs n ↔ i < n ∧ ∀ k, k < zs.length → beatB a b zs i k = false := by
  unfold frontI beatenB
  rw [List.mem_filter, List.mem_range, Bool.not_eq_true', List.any_eq_false]
  constructor
  · rintro ⟨h1, h2⟩; exact ⟨h1, fun k hk => by simpa using h2 k (List.mem_range.2 hk)⟩
  · rintro ⟨h1, h2⟩; exact ⟨h1, fun k hk => by simpa using h2 k (List.mem_range.1 hk)⟩
theorem mem_frontL {a b : List Int → Int} {zs : List (List Int)} {x : List Int} : x ∈ frontL a b zs zs.length → x ∈ zs := by
  unfold frontL
  intro h
  obtain ⟨i, hi, rfl⟩ := List.mem_map.1 h
  have hl := (mem_frontI.1 hi).1
  rw [List.getD_eq_getElem?_getD, List.getElem?_eq_getElem hl]
  exact List.getElem_mem hl
theorem first_min (f : Nat → Int) (P : Nat → Bool) : ∀ n, (∃ i, i < n ∧ P i = true) → ∃ i, i < n ∧ P i = true ∧ ∀ j, j < n → P j = true → f i ≤ f j ∧ (f j = f i → i ≤ j)
  | 0, h => by obtain ⟨i, hi, _⟩ := h; omega
  | n + 1, h => by
    by_cases hn : ∃ i, i < n ∧ P i = true
    · obtain ⟨i, h1, h2, h3⟩ := first_min f P n hn
      by_cases hp : P n = true ∧ f n < f i
      · refine ⟨n, by omega, hp.1, fun j hj hpj => ?_⟩
        by_cases hjn : j < n
        · have := h3 j hjn hpj; exact ⟨by omega, fun e => by omega⟩
        · have : j = n := by omega
          subst this; exact ⟨Int.le_refl _, fun _ => Nat.le_refl _⟩
      · refine ⟨i, by omega, h2, fun j hj hpj => ?_⟩
        by_cases hjn : j < n
        · exact h3 j hjn hpj
        · have : j = n := by omega
          subst this
          have : ¬ f j < f i := fun hlt => hp ⟨hpj, hlt⟩
          exact ⟨by omega, fun _ => by omega⟩
    · obtain ⟨i, hi, hpi⟩ := h
      have : i = n := by
        by_cases h : i < n
        · exact absurd ⟨i, h, hpi⟩ hn
        · omega
      subst this
      refine ⟨i, by omega, hpi, fun j hj hpj => ?_⟩
      by_cases hjn : j < i
      · exact absurd ⟨j, hjn, hpj⟩ hn
      · have : j = i := by omega
        subst this; exact ⟨Int.le_refl _, fun _ => Nat.le_refl _⟩
/-- Everything is covered by something of the front. -/
theorem front_cover {a b : List Int → Int} {zs : List (List Int)} {t : Nat} (ht : t < zs.length) : ∃ s ∈ frontI a b zs zs.length, a (zs.getD s []) ≤ a (zs.getD t []) ∧ b (zs.getD s []) ≤ b (zs.getD t []) := by
  obtain ⟨s, h1, h2, h3⟩ := first_min (fun i => a (zs.getD i []) + b (zs.getD i [])) (fun i => decide (a (zs.getD i []) ≤ a (zs.getD t [])) && decide (b (zs.getD i []) ≤ b (zs.getD t []))) zs.length ⟨t, ht, by simp⟩
  simp only [Bool.and_eq_true, decide_eq_true_iff] at h2 h3
  refine ⟨s, mem_frontI.2 ⟨h1, fun k hk => ?_⟩, h2⟩
  rw [← Bool.not_eq_true, beatB_iff]
  rintro ⟨⟨k1, k2⟩, k3⟩
  obtain ⟨h4, h5⟩ := h3 k hk ⟨by omega, by omega⟩
  rcases k3 with k3 | k3 | k3
  · omega
  · omega
  · have := h5 (by omega); omega
/-- Nothing of the front covers another one of it. -/
theorem front_apart {a b : List Int → Int} {zs : List (List Int)} {i k : Nat} (hi : i ∈ frontI a b zs zs.length) (hk : k ∈ frontI a b zs zs.length) (hne : i ≠ k) : ¬ (a (zs.getD i []) ≤ a (zs.getD k []) ∧ b (zs.getD i []) ≤ b (zs.getD k [])) := by
  obtain ⟨i1, i2⟩ := mem_frontI.1 hi
  obtain ⟨k1, k2⟩ := mem_frontI.1 hk
  rintro ⟨h1, h2⟩
  have h3 := k2 i i1
  have h4 := i2 k k1
  rw [← Bool.not_eq_true, beatB_iff] at h3 h4
  by_cases hlt : i < k
  · exact h3 ⟨⟨h1, h2⟩, .inr (.inr hlt)⟩
  · by_cases h5 : a (zs.getD i []) < a (zs.getD k [])
    · exact h3 ⟨⟨h1, h2⟩, .inl h5⟩
    · by_cases h6 : b (zs.getD i []) < b (zs.getD k [])
      · exact h3 ⟨⟨h1, h2⟩, .inr (.inl h6)⟩
      · exact h4 ⟨⟨by omega, by omega⟩, .inr (.inr (by omega))⟩
theorem frontI_sorted (a b : List Int → Int) (zs : List (List Int)) (n : Nat) : (frontI a b zs n).Pairwise (· < ·) := List.Pairwise.filter _ List.pairwise_lt_range
theorem frontL_sorted {a b : List Int → Int} {zs : List (List Int)} (hs : zs.Pairwise fun x y => lexB x y = true) : (frontL a b zs zs.length).Pairwise fun x y => lexB x y = true := by
  unfold frontL
  rw [List.pairwise_map]
  refine List.Pairwise.imp_of_mem (fun {i k} hi hk hik => ?_) (frontI_sorted a b zs zs.length)
  have h1 := (mem_frontI.1 hi).1
  have h2 := (mem_frontI.1 hk).1
  have := List.pairwise_iff_getElem.1 hs i k h1 h2 hik
  rw [List.getD_eq_getElem?_getD, List.getD_eq_getElem?_getD, List.getElem?_eq_getElem h1, List.getElem?_eq_getElem h2]
  exact this
theorem frontL_get {a b : List Int → Int} {zs : List (List Int)} {n k : Nat} {x : List Int} (h : (frontL a b zs n)[k]? = some x) : ∃ i, (frontI a b zs n)[k]? = some i ∧ zs.getD i [] = x := by
  unfold frontL at h
  rw [List.getElem?_map] at h
  obtain ⟨i, h1, h2⟩ := Option.map_eq_some_iff.1 h
  exact ⟨i, h1, h2⟩
theorem front_no {a b : List Int → Int} {zs : List (List Int)} {k i : Nat} {x y : List Int} (hk : (frontL a b zs zs.length)[k]? = some x) (hi : (frontL a b zs zs.length)[i]? = some y) (hne : i ≠ k) : ¬ (a y ≤ a x ∧ b y ≤ b x) := by
  obtain ⟨p, hp, rfl⟩ := frontL_get hk
  obtain ⟨q, hq, rfl⟩ := frontL_get hi
  refine front_apart (List.mem_of_getElem? hq) (List.mem_of_getElem? hp) fun e => ?_
  subst e
  obtain ⟨h1, h2⟩ := List.getElem?_eq_some_iff.1 hp
  obtain ⟨h3, h4⟩ := List.getElem?_eq_some_iff.1 hq
  have hs := frontI_sorted a b zs zs.length
  rcases Nat.lt_or_ge i k with h | h
  · have := List.pairwise_iff_getElem.1 hs i k h3 h1 h; omega
  · have := List.pairwise_iff_getElem.1 hs k i h1 h3 (by omega); omega
theorem front_covers {a b : List Int → Int} {zs : List (List Int)} {x : List Int} (hx : x ∈ zs) : ∃ y ∈ frontL a b zs zs.length, a y ≤ a x ∧ b y ≤ b x := by
  obtain ⟨t, ht⟩ := List.mem_iff_getElem?.1 hx
  have hl := (List.getElem?_eq_some_iff.1 ht).1
  obtain ⟨s, hs, h1, h2⟩ := front_cover (a := a) (b := b) hl
  rw [getD_of ht] at h1 h2
  exact ⟨_, List.mem_map.2 ⟨s, hs, rfl⟩, h1, h2⟩
end Go.Proofs.YtjmjjdgbkibdaaaGreat

set_option linter.unusedVariables false
set_option linter.unusedSimpArgs false
namespace Go.Proofs.YtjmjjdgbkibdaaaGreat
open Go.RowKit

/-- Rows picked out of others, in a list of its own. -/
def elU (U : Nat → Value) (S : List Nat) (w : World) (cs : List Value) (t : Nat) : Prop := cs = [U t]
theorem elU_ok (U : Nat → Value) : ElOk (elU U) := ⟨fun h _ => h, fun h _ => h⟩
theorem rowsE_pick {B E : Nat} {w w' : World} {ao : Option Addr} {n cap : Nat} {zs : List (List Int)} (h : RowsE B E w (.slice ao n cap) zs) {is : List Nat} (hs : is.Pairwise (· < ·)) (hi : ∀ i ∈ is, i < zs.length) {U : Nat → Value}
    (hU : ∀ (g t : Nat), ao = some ⟨g, 0, none⟩ → t < zs.length → w.cell? ⟨g, t, none⟩ = some (U t)) {B' : Nat} (hBE : E ≤ B') {S : List Nat} (hg : Gr S w w') (hS : ∀ b ∈ S, B' ≤ b) {e : TypeId} {v : Value} (hown : OwnG 1 (elU U) B' w' e v is) (hB : B ≤ B') :
    RowsE B w'.heap.size w' v (is.map fun i => zs.getD i []) := by
  obtain ⟨ao', cap', e1, hl, gs, h1, h2, h3⟩ := h
  cases e1
  obtain ⟨vo, vc, rfl, k1, k2, k3⟩ := hown.slice
  have hsz := hg.size
  refine ⟨vo, vc, by rw [List.length_map], ⟨by rw [List.length_map]; exact k1, k2, k3⟩, is.map (fun t => gs.getD t 0), ?_, by rw [List.length_map, List.length_map], fun t r ht => ?_⟩
  · rw [List.Nodup, List.pairwise_map]
    refine List.Pairwise.imp_of_mem (fun {a b} ha hb hab e => ?_) hs
    have ha := hi a ha; have hb := hi b hb
    have q1 : gs.getD a 0 = gs[a]'(by omega) := by rw [List.getD_eq_getElem?_getD, List.getElem?_eq_getElem]; rfl
    have q2 : gs.getD b 0 = gs[b]'(by omega) := by rw [List.getD_eq_getElem?_getD, List.getElem?_eq_getElem]; rfl
    rw [q1, q2] at e
    have := (List.getElem_inj h1).1 e
    omega
  · rw [List.getElem?_map] at ht
    obtain ⟨q, hq, rfl⟩ := Option.map_eq_some_iff.1 ht
    have hql := hi q (List.mem_of_getElem? hq)
    obtain ⟨r, hr⟩ := get_some hql
    obtain ⟨g, b, c, e1, e2, m1, m2, m3, m4, m5, m6⟩ := h3 q r hr
    rw [getD_of hr]
    obtain ⟨g', cap2, cs, e3, p1, p2, p3, p4, p5, p6⟩ := hown.cell hq
    simp only [Value.slice.injEq] at e3
    obtain ⟨rfl, -, -⟩ := e3
    have hcs : cs = [U q] := p6 [] (by simp)
    subst hcs
    have hlt := World.block_lt_of_cell? w _ m4
    have hUq : U q = .slice (some ⟨b, 0, none⟩) r.length c := by
      have := hU g q e1 hql
      rw [m4] at this
      exact (Option.some.inj this).symm
    refine ⟨g', b, c, rfl, ?_, ⟨by omega, p2⟩, ⟨m2.1, by omega⟩, ?_, ?_, p5, m6.gr' hg (fun q hq e => by have := hS q hq; omega) (fun _ _ h => h)⟩
    · rw [List.getElem?_map, hq]; simp [List.getD_eq_getElem?_getD, e2]
    · intro hm
      obtain ⟨a, ha, e⟩ := List.mem_map.1 hm
      have hal := hi a ha
      obtain ⟨ra, hra⟩ := get_some hal
      obtain ⟨_, b2, _, _, f2, _, f3, _⟩ := h3 a ra hra
      rw [List.getD_eq_getElem?_getD, f2] at e
      simp only [Option.getD_some] at e
      omega
    · have := p4 0 (U q) rfl
      rw [← hUq]; simpa using this

def frontO (m : Mod) (D : List Nat) (a b : List Int) : List (List Int) := if validM m && (objB a m.doms.length && objB b m.doms.length) then frontL (dot a) (dot b) (sols m.cons D) (sols m.cons D).length else []
theorem frontO_no {m : Mod} {D : List Nat} {a b : List Int} (h : (validM m && (objB a m.doms.length && objB b m.doms.length)) = false) : frontO m D a b = [] := by unfold frontO; rw [h]; rfl
theorem frontO_yes {m : Mod} {D : List Nat} {a b : List Int} (h : (validM m && (objB a m.doms.length && objB b m.doms.length)) = true) : frontO m D a b = frontL (dot a) (dot b) (sols m.cons D) (sols m.cons D).length := by unfold frontO; rw [h]; rfl
theorem frontI_succ {a b : List Int → Int} {zs : List (List Int)} {n : Nat} : frontI a b zs (n + 1) = frontI a b zs n ++ if beatenB a b zs n zs.length then [] else [n] := by
  unfold frontI
  rw [List.range_succ, List.filter_append]
  congr 1
  cases hb : beatenB a b zs n zs.length <;> simp [hb]
theorem frontI_len (a b : List Int → Int) (zs : List (List Int)) (n : Nat) : (frontI a b zs n).length ≤ n := by
  unfold frontI
  exact Nat.le_trans (List.length_filter_le _ _) (by rw [List.length_range]; exact Nat.le_refl _)
theorem beat_prog {a b c d : Int} {k i : Nat} : ((decide (c ≤ a) && decide (d ≤ b)) && ((decide (c < a) || decide (d < b)) || decide ((k : Int) < (i : Int)))) = ((decide (c ≤ a) && decide (d ≤ b)) && ((decide (c < a) || decide (d < b)) || decide (k < i))) := by
  have : decide ((k : Int) < (i : Int)) = decide (k < i) := by by_cases h : k < i <;> simp [h]
  rw [this]


set_option maxRecDepth 100000 in
set_option maxHeartbeats 4000000 in
theorem ParetoFront_c (m : Mod) (a b : List Int) (mv av bv : Value) (w : World) (hv : ModV [] w mv m) (ha : Nums [] w .i64 av a) (hb : Nums [] w .i64 bv b) (D : List Nat) (hD : validM m = true → VM m D) :
    Calls Tryz.prog 44 #[mv, av, bv] w fun e w' => ∃ v', e = .returned v' ∧ RowsE w.heap.size w'.heap.size w' v' (frontO m D a b) ∧ Gr [] w w' := by
  have Hv := hid hv; have HD := hid hD; have Ha := hid ha; have Hb := hid hb
  obtain ⟨xo, xc, co, cc, rfl⟩ := hv.slices
  obtain ⟨oo, oc, rfl, -, -⟩ := ha
  obtain ⟨po, pc, rfl, -, -⟩ := hb
  have hg0 : Gr [] w (w.alloc (.cells #[.slice xo m.doms.length xc, .slice co m.cons.length cc] 31)) := (Gr.refl _ _).alloc _
  have hb0 : (w.alloc (.cells #[.slice xo m.doms.length xc, .slice co m.cons.length cc] 31)).heap[w.heap.size]? = some (.cells #[.slice xo m.doms.length xc, .slice co m.cons.length cc] 31 (0, 0)) := heap_alloc_new _ _
  have fl0 := fld hb0
  have Hg0 := hid hg0; have Hb0 := hid hb0
  clear hv hg0 hb0 hD
  go_enter Tryz.func44, Tryz.ntmps44
  go_wp2_with fail
  have hcall := objectiveOk_c m a _ _ _ (Hv.out.gr Hg0.out) (Ha.out.gr Hg0.out)
  (with_reducible refine hcall.mono ?_)
  clear hcall
  rintro e w1 ⟨rfl, hg1⟩
  have Hb1 := hid (hg1.obj Hb0.out (by simp))
  have fl1 := fld Hb1.out
  have Hg1 := hid (Hg0.out.trans hg1)
  have hs1 := hg1.size
  rw [World.size_alloc] at hs1
  clear fl0 hg1
  cases hv1 : (validM m && objB a m.doms.length)
  · have Hno := hid (frontO_no (D := D) (a := a) (b := b) (m := m) (by rw [← Bool.and_assoc, hv1]; rfl)); clear hv1
    go_wp2_with fail
    go_ret
    rw [Hno.out]
    exact ⟨_, rfl, RowsE.nil _ _ _, Hg1.out⟩
  have Hv1 := hid hv1
  clear hv1
  go_wp2_with fail
  have hcall := objectiveOk_c m b _ _ _ (Hv.out.gr Hg1.out) (Hb.out.gr Hg1.out)
  (with_reducible refine hcall.mono ?_)
  clear hcall
  rintro e w2 ⟨rfl, hg2⟩
  have Hb2 := hid (hg2.obj Hb1.out (by simp))
  have fl2 := fld Hb2.out
  have Hg2 := hid (Hg1.out.trans hg2)
  have hs2 := hg2.size
  clear fl1 hg2
  cases hv2 : (validM m && objB b m.doms.length)
  · have Hno : Hid (frontO m D a b = []) := hid (frontO_no (by
      cases h : (objB b m.doms.length)
      · simp
      · rw [h, Bool.and_true] at hv2; rw [hv2]; rfl))
    clear hv2
    go_wp2_with fail
    go_ret
    rw [Hno.out]
    exact ⟨_, rfl, RowsE.nil _ _ _, Hg2.out⟩
  have Hv1' := Hv1.out
  rw [Bool.and_eq_true] at Hv1' hv2
  have Hyes := hid (frontO_yes (D := D) (show (validM m && (objB a m.doms.length && objB b m.doms.length)) = true by rw [Hv1'.1, Hv1'.2, hv2.2]; rfl))
  have HVM := hid (HD.out hv2.1)
  have HDL : Hid (m.doms.length = D.length) := hid (by rw [HVM.out.doms, ints_len])
  have HA := hid (obj_len Hv1'.2); have HB := hid (obj_len hv2.2)
  clear Hv1' hv2
  go_wp2_with fail
  have hcall := solutionsD_c m D _ w2 (Hv.out.gr Hg2.out) HVM.out
  (with_reducible refine hcall.mono ?_)
  clear hcall
  rintro e w3 ⟨v3, rfl, ⟨_, hd3⟩, hg3⟩
  obtain ⟨zs, hz⟩ : ∃ zs, zs = sols m.cons D := ⟨_, rfl⟩
  rw [← hz] at hd3 Hyes
  have Hzs : Hid (∀ x ∈ zs, x.length = D.length ∧ ∀ y ∈ x, 0 ≤ y ∧ y ≤ 5) := hid (by rw [hz]; exact fun x hx => solv hx)
  have Hzl : Hid (zs.length ≤ 1296) := hid (by rw [hz]; exact sols_length _ _ HVM.out.len.2)
  have He3 := hid hd3.e
  have Hl3 := hid (He3.out.rows (S := []) (by simp))
  obtain ⟨ro, rc, rfl, ⟨hr1, hr2, -⟩, -⟩ := id hd3
  have Hg3 := hid (Hg2.out.trans hg3)
  have hs3 := hg3.size
  have hzl := Hzl.out
  clear hd3 hz hg3 fl2
  obtain ⟨U, hU⟩ : ∃ U : Nat → Value, U = fun t => match ro with | some ⟨g, _, _⟩ => (w3.cell? ⟨g, t, none⟩).getD (.slice none 0 0) | none => .slice none 0 0 := ⟨_, rfl⟩
  have HU : Hid (∀ (g t : Nat), ro = some ⟨g, 0, none⟩ → t < zs.length → w3.cell? ⟨g, t, none⟩ = some (U t)) := hid (by
    intro g t e ht
    subst e
    obtain ⟨r, hr⟩ := get_some ht
    obtain ⟨g', b', c', e1, _, k⟩ := He3.out.row hr
    simp only [Option.some.injEq, Addr.mk.injEq, and_true] at e1
    subst e1
    rw [hU]; simp only [k.1]; rfl)
  clear hU
  go_wp2_with (at_make; refine wp_mk0G rfl _ _ 41 rfl 1 (elU U) w3.heap.size 22 (.slice none 0 0) 24 infoR (by omega) Tryz.underlying41 zs.length rfl rfl (by omega) (Nat.le_refl _) ?_; intro w4 hown4 hg4; have Hown4 := hid hown4; have Hg4 := hid hg4; clear hown4 hg4)
  go_loopw [8, 35] (fun o i wr => ∃ (n : Nat) (ov : Value), ov = o ∧ n ≤ zs.length ∧ i = .int .i64 n ∧ OwnG 1 (elU U) w3.heap.size wr 22 ov (frontI (dot a) (dot b) zs n) ∧ Gr [] w3 wr) (fun _ i _ => zs.length - (intOf i).toNat)
  case atStart => exact ⟨0, _, rfl, Nat.zero_le _, rfl, Hown4.out, Hg4.out⟩
  case round =>
    obtain ⟨n, ov, rfl, hn, rfl, hown, hg⟩ := hrel
    have Hown := hid hown; have Hg := hid hg
    have hsr := hg.size
    clear hown hg
    by_cases hlt : n < zs.length
    · obtain ⟨x, hx⟩ := get_some hlt
      obtain ⟨g, b1, c1, e1, hbE, h0, hin, -⟩ := He3.out.row hx
      subst e1
      have h0r := Hg.out.cell h0 (by simp)
      have hXr := (hin.nums (S := []) (by simp)).gr Hg.out
      have hUn := HU.out g n rfl hlt
      have hUe : U n = .slice (some ⟨b1, 0, none⟩) x.length c1 := by rw [h0] at hUn; exact (Option.some.inj hUn).symm
      have HXr := hid hXr; have Hx := hid hx; have HUe := hid hUe
      have Hsx := hid (Hzs.out x (List.mem_of_getElem? hx))
      obtain ⟨p, hp⟩ : ∃ p, p = dot a x := ⟨_, rfl⟩
      obtain ⟨q, hq⟩ : ∃ q, q = dot b x := ⟨_, rfl⟩
      have Hp := hid hp; have Hq := hid hq
      clear hin hXr hUn hUe hx h0 hp hq
      go_wp2_with fail
      have hcall := weighted_c a x _ _ wr (Ha.out.gr (Hg3.out.trans Hg.out)) HXr.out (by have := HA.out.1; have := HDL.out; have := Hsx.out.1; omega) (by have := HA.out.1; have := HDL.out; have := HVM.out.len.2; omega) (small9 HA.out.2) (small5 Hsx.out.2)
      (with_reducible refine hcall.mono ?_)
      clear hcall
      rw [← Hp.out]
      rintro e w5 ⟨rfl, hg5⟩
      have Hg5 := hid hg5
      have h05 := hg5.cell h0r (by simp)
      clear hg5
      go_wp2_with fail
      have hcall := weighted_c b x _ _ w5 (Hb.out.gr ((Hg3.out.trans Hg.out).trans Hg5.out)) (HXr.out.gr Hg5.out) (by have := HB.out.1; have := HDL.out; have := Hsx.out.1; omega) (by have := HB.out.1; have := HDL.out; have := HVM.out.len.2; omega) (small9 HB.out.2) (small5 Hsx.out.2)
      (with_reducible refine hcall.mono ?_)
      clear hcall
      rw [← Hq.out]
      rintro e w6 ⟨rfl, hg6⟩
      have Hg6 := hid (Hg5.out.trans hg6)
      have h06 := hg6.cell h05 (by simp)
      have HO6 := hid (Hown.out.gr (elU_ok U) Hg6.out (by simp))
      have hs6 := Hg6.out.size
      clear hg6 h0r h05 Hown
      go_wp2_with fail
      go_loopw [13, 48] (fun z i wq => ∃ (k : Nat), k ≤ zs.length ∧ i = .int .i64 k ∧ z = .bool (beatenB (dot a) (dot b) zs n k) ∧ Gr [] w6 wq) (fun _ i _ => zs.length - (intOf i).toNat)
      case atStart => exact ⟨0, Nat.zero_le _, rfl, rfl, Gr.refl _ _⟩
      case round =>
        obtain ⟨k, hk, rfl, rfl, hgq⟩ := hrel
        have Hgq := hid hgq; clear hgq
        by_cases hkl : k < zs.length
        · obtain ⟨y, hy⟩ := get_some hkl
          obtain ⟨g', b2, c2, e2, hbE2, h2, hin2, -⟩ := He3.out.row hy
          have e3 : g' = g := by simpa using e2.symm
          subst e3
          have hG := ((Hg.out.trans Hg6.out).trans Hgq.out)
          have h2r := hG.cell h2 (by simp)
          have HYr := hid ((hin2.nums (S := []) (by simp)).gr hG)
          have Hsy := hid (Hzs.out y (List.mem_of_getElem? hy))
          obtain ⟨c, hc⟩ : ∃ c, c = dot a y := ⟨_, rfl⟩
          obtain ⟨d, hd⟩ : ∃ d, d = dot b y := ⟨_, rfl⟩
          have HC := hid hc; have HDd := hid hd
          have HG := hid (Hg3.out.trans hG)
          have HS : Hid (beatenB (dot a) (dot b) zs n (k + 1) = (beatenB (dot a) (dot b) zs n k || ((decide (c ≤ p) && decide (d ≤ q)) && ((decide (c < p) || decide (d < q)) || decide (k < n))))) := hid (by
            rw [beatenB_succ]; unfold beatB; rw [getD_of Hx.out, getD_of hy, ← Hp.out, ← Hq.out, ← hc, ← hd])
          clear hin2 h2 e2 hy hc hd hG
          go_wp2_with fail
          have hcall := weighted_c a y _ _ wr (Ha.out.gr HG.out) HYr.out (by have := HA.out.1; have := HDL.out; have := Hsy.out.1; omega) (by have := HA.out.1; have := HDL.out; have := HVM.out.len.2; omega) (small9 HA.out.2) (small5 Hsy.out.2)
          (with_reducible refine hcall.mono ?_)
          clear hcall
          rw [← HC.out]
          rintro e w7 ⟨rfl, hg7⟩
          have Hg7 := hid hg7
          clear hg7 h2r
          go_wp2_with fail
          have hcall := weighted_c b y _ _ w7 (Hb.out.gr (HG.out.trans Hg7.out)) (HYr.out.gr Hg7.out) (by have := HB.out.1; have := HDL.out; have := Hsy.out.1; omega) (by have := HB.out.1; have := HDL.out; have := HVM.out.len.2; omega) (small9 HB.out.2) (small5 Hsy.out.2)
          (with_reducible refine hcall.mono ?_)
          clear hcall
          rw [← HDd.out]
          rintro e w8 ⟨rfl, hg8⟩
          have Hg8 := hid (Hgq.out.trans (Hg7.out.trans hg8))
          clear hg8
          have hgG : Hid (Gr [] w3 wr) := hid ((Hg.out.trans Hg6.out).trans Hgq.out)
          cases hz' : beatenB (dot a) (dot b) zs n k
          · have Hz' := hid hz'
            cases e1 : decide (c ≤ p)
            · have E1 := hid e1
              go_wp2_with fail
              exact ⟨⟨k + 1, by omega, by go_num, by rw [HS.out, Hz'.out, E1.out]; rfl, Hg8.out⟩, by simp [intOf]; omega⟩
            cases e2 : decide (d ≤ q)
            · have E1 := hid e1; have E2 := hid e2
              go_wp2_with fail
              exact ⟨⟨k + 1, by omega, by go_num, by rw [HS.out, Hz'.out, E1.out, E2.out]; rfl, Hg8.out⟩, by simp [intOf]; omega⟩
            cases e3 : decide (c < p)
            · cases e4 : decide (d < q)
              · cases e5 : decide (k < n)
                all_goals
                  have E1 := hid e1; have E2 := hid e2; have E3 := hid e3; have E4 := hid e4; have E5 := hid e5
                  go_wp2_with fail
                  exact ⟨⟨k + 1, by omega, by go_num, by rw [HS.out, Hz'.out, E1.out, E2.out, E3.out, E4.out, E5.out]; rfl, Hg8.out⟩, by simp [intOf]; omega⟩
              · have E1 := hid e1; have E2 := hid e2; have E3 := hid e3; have E4 := hid e4
                go_wp2_with fail
                exact ⟨⟨k + 1, by omega, by go_num, by rw [HS.out, Hz'.out, E1.out, E2.out, E3.out, E4.out]; rfl, Hg8.out⟩, by simp [intOf]; omega⟩
            · have E1 := hid e1; have E2 := hid e2; have E3 := hid e3
              go_wp2_with fail
              exact ⟨⟨k + 1, by omega, by go_num, by rw [HS.out, Hz'.out, E1.out, E2.out, E3.out]; rfl, Hg8.out⟩, by simp [intOf]; omega⟩
          · have Hz' := hid hz'
            go_wp2_with fail
            exact ⟨⟨k + 1, by omega, by go_num, by rw [HS.out, Hz'.out]; rfl, Hg8.out⟩, by simp [intOf]; omega⟩
        · have hkz : k = zs.length := by omega
          subst hkz
          have HS : Hid (frontI (dot a) (dot b) zs (n + 1) = frontI (dot a) (dot b) zs n ++ if beatenB (dot a) (dot b) zs n zs.length then [] else [n]) := hid frontI_succ
          have HOq := hid (HO6.out.gr (elU_ok U) Hgq.out (by simp))
          have HGq := hid ((Hg.out.trans Hg6.out).trans Hgq.out)
          have hsq := HGq.out.size
          have hil := frontI_len (dot a) (dot b) zs n
          have Hil := hid hil; clear hil
          cases hz' : beatenB (dot a) (dot b) zs n zs.length
          · have Hz' := hid hz'
            go_wp2_with (at_builtin; go_loud (refine wp_appGw rfl _ _ 41 rfl 1 (elU U) (elU_ok U) w3.heap.size 22 (.slice none 0 0) 24 infoR rfl (by omega) (by omega) Tryz.underlying41 ov (frontI (dot a) (dot b) zs n) rfl (HOq.out.gr (elU_ok U) ((Gr.refl [] wr).alloc _) (by simp)) wr.heap.size 1 n [.slice (some ⟨b1, 0, none⟩) x.length c1] rfl rfl (by simp [Value.oneCell']) (fun j q hj => by match j, hj with | 0, hj => (simp at hj; subst hj; exact cell_one _ _ _) | j + 1, hj => simp at hj) (fun S hS => by unfold elU; rw [HUe.out]) (by have := Hil.out; omega) (by simp; omega) ?_; intro v7 w7 hown7 hg7 hwh7; have HO7 := hid hown7; have HG7 := hid hg7; clear hown7 hg7 hwh7))
            refine ⟨⟨n + 1, _, rfl, by omega, by go_num, by rw [HS.out, Hz'.out]; exact HO7.out, ?_⟩, by simp [intOf]; omega⟩
            refine (HGq.out.alloc _).step HG7.out (fun i hi => .inr ?_)
            exact (HOq.out.own (by simpa using hi)).1
          · have Hz' := hid hz'
            go_wp2_with fail
            exact ⟨⟨n + 1, _, rfl, by omega, by go_num, by rw [HS.out, Hz'.out, if_pos rfl, List.append_nil]; exact HOq.out, HGq.out⟩, by simp [intOf]; omega⟩
    · have hnz : n = zs.length := by omega
      subst hnz
      obtain ⟨vo, vc, rfl, hv1, hv2, -⟩ := Hown.out.slice
      have hil := frontI_len (dot a) (dot b) zs zs.length
      have Hil := hid hil; clear hil
      have HF := hid (rowsE_pick (B' := w3.heap.size) He3.out (frontI_sorted (dot a) (dot b) zs zs.length) (fun i hi => (mem_frontI.1 hi).1) HU.out (Nat.le_refl _) Hg.out (by simp) Hown.out (by omega))
      obtain ⟨ff, hff⟩ : ∃ ff, ff = frontI (dot a) (dot b) zs zs.length := ⟨_, rfl⟩
      have Hff := hid hff
      rw [← hff] at hv1 ⊢
      clear hff
      go_wp2_with fail
      go_ret
      refine ⟨_, rfl, ?_, Hg3.out.trans Hg.out⟩
      rw [Hyes.out]
      have h := HF.out
      rw [← Hff.out] at h
      unfold frontL
      rw [← Hff.out]
      exact (RowsE.clip h).imp (by omega) (Nat.le_refl _)

theorem rowsV_pick {B : Nat} {w : World} {e : TypeId} {v : Value} {is : List Nat} {zs : List (List Int)} {U : Nat → Value} {S : List Nat} (h : OwnG 1 (elU U) B w e v is) (hn : ∀ i ∈ is, Nums S w .i64 (U i) (zs.getD i [])) (hS : ∀ b ∈ S, b < B ∨ w.heap.size ≤ b) : RowsV S w v (is.map fun i => zs.getD i []) := by
  obtain ⟨ao, cap, rfl, h1, h2, h3⟩ := h.slice
  refine ⟨ao, cap, by rw [List.length_map], ⟨by rw [List.length_map]; exact h1, h2, h3⟩, fun i r hi => ?_⟩
  rw [List.getElem?_map] at hi
  obtain ⟨q, hq, rfl⟩ := Option.map_eq_some_iff.1 hi
  obtain ⟨g, cap', cs, e1, hb, hlt, hlen, hc, hf, hel⟩ := h.cell hq
  cases e1
  have hcs : cs = [U q] := hel [] (by simp)
  subst hcs
  exact ⟨g, 0, U q, rfl, fun hm => by rcases hS g hm with h | h <;> omega, by have := hc 0 (U q) rfl; simpa using this, hn q (List.mem_of_getElem? hq)⟩
def domB (a b : List Int) (y x : List Int) : Bool := (decide (dot a y - dot a x ≤ 0) && decide (dot b y - dot b x ≤ 0)) && (decide (dot a y - dot a x < 0) || decide (dot b y - dot b x < 0))
theorem beat_spec {a b : List Int} {zs : List (List Int)} {k i : Nat} {x y : List Int} (hx : zs[k]? = some x) (hy : zs[i]? = some y) (kp : Bool) (same : Bool) (hs : same = (decide (dot a y = dot a x) && decide (dot b y = dot b x))) :
    ((kp && !domB a b y x) && !(same && decide (i < k))) = (kp && !beatB (dot a) (dot b) zs k i) := by
  unfold domB beatB
  rw [getD_of hx, getD_of hy, hs]
  cases kp
  · rfl
  · by_cases h1 : dot a y ≤ dot a x <;> by_cases h2 : dot b y ≤ dot b x <;> by_cases h3 : dot a y < dot a x <;> by_cases h4 : dot b y < dot b x <;> by_cases h5 : i < k <;>
      (have q1 : decide (dot a y - dot a x ≤ 0) = decide (dot a y ≤ dot a x) := by (by_cases h : dot a y ≤ dot a x <;> simp [h] <;> omega)
       have q2 : decide (dot b y - dot b x ≤ 0) = decide (dot b y ≤ dot b x) := by (by_cases h : dot b y ≤ dot b x <;> simp [h] <;> omega)
       have q3 : decide (dot a y - dot a x < 0) = decide (dot a y < dot a x) := by (by_cases h : dot a y < dot a x <;> simp [h] <;> omega)
       have q4 : decide (dot b y - dot b x < 0) = decide (dot b y < dot b x) := by (by_cases h : dot b y < dot b x <;> simp [h] <;> omega)
       have q5 : decide (dot a y = dot a x) = (decide (dot a y ≤ dot a x) && !decide (dot a y < dot a x)) := by (by_cases h : dot a y = dot a x <;> simp [h] <;> omega)
       have q6 : decide (dot b y = dot b x) = (decide (dot b y ≤ dot b x) && !decide (dot b y < dot b x)) := by (by_cases h : dot b y = dot b x <;> simp [h] <;> omega)
       rw [q1, q2, q3, q4, q5, q6]
       simp [h1, h2, h3, h4, h5])

set_option maxRecDepth 100000 in
theorem dominates_c (a b y x : List Int) (av bv yv xv : Value) (w : World) (ha : Nums [] w .i64 av a) (hb : Nums [] w .i64 bv b) (hy : Nums [] w .i64 yv y) (hx : Nums [] w .i64 xv x)
    (hl : a.length = y.length ∧ a.length = x.length ∧ b.length = y.length ∧ b.length = x.length ∧ a.length ≤ 4) (hsa : Small a) (hsb : Small b) (hsy : Small y) (hsx : Small x) :
    Calls Tryz.prog 117 #[av, bv, yv, xv] w fun e w' => e = .returned (.bool (domB a b y x)) ∧ Gr [] w w' := by
  have Ha := hid ha; have Hb := hid hb; have Hy := hid hy; have Hx := hid hx; have HL := hid hl
  have Hsa := hid hsa; have Hsb := hid hsb; have Hsy := hid hsy; have Hsx := hid hsx
  have HB : Hid (∀ c z : List Int, Small c → Small z → c.length = 4 ∨ c.length ≤ 4 → -4000000 ≤ dot c z ∧ dot c z ≤ 4000000) := hid (by
    intro c z hc hz hl
    have := dot_bd c z hc hz
    omega)
  obtain ⟨ao, ac, rfl, -, -⟩ := ha
  obtain ⟨bo, bc, rfl, -, -⟩ := hb
  obtain ⟨yo, yc, rfl, -, -⟩ := hy
  obtain ⟨xo, xc, rfl, -, -⟩ := hx
  clear hl hsa hsb hsy hsx
  obtain ⟨p, hp⟩ : ∃ p, p = dot a y := ⟨_, rfl⟩
  obtain ⟨q, hq⟩ : ∃ q, q = dot a x := ⟨_, rfl⟩
  obtain ⟨r, hr⟩ : ∃ r, r = dot b y := ⟨_, rfl⟩
  obtain ⟨s, hs⟩ : ∃ s, s = dot b x := ⟨_, rfl⟩
  have hpb : -4000000 ≤ p ∧ p ≤ 4000000 := by rw [hp]; exact HB.out a y Hsa.out Hsy.out (by have := HL.out; omega)
  have hqb : -4000000 ≤ q ∧ q ≤ 4000000 := by rw [hq]; exact HB.out a x Hsa.out Hsx.out (by have := HL.out; omega)
  have hrb : -4000000 ≤ r ∧ r ≤ 4000000 := by rw [hr]; exact HB.out b y Hsb.out Hsy.out (by have := HL.out; omega)
  have hsb : -4000000 ≤ s ∧ s ≤ 4000000 := by rw [hs]; exact HB.out b x Hsb.out Hsx.out (by have := HL.out; omega)
  have HP := hid hp; have HQ := hid hq; have HR := hid hr; have HS := hid hs
  clear hp hq hr hs
  go_enter Tryz.func117, Tryz.ntmps117
  go_wp2_with fail
  have hcall := value_c a y _ _ w Ha.out Hy.out HL.out.1 (by have := HL.out; omega) Hsa.out Hsy.out
  (with_reducible refine hcall.mono ?_)
  clear hcall
  rw [← HP.out]
  rintro e w1 ⟨rfl, hg1⟩
  have Hg1 := hid hg1; clear hg1
  go_wp2_with fail
  have hcall := value_c a x _ _ w1 (Ha.out.gr Hg1.out) (Hx.out.gr Hg1.out) HL.out.2.1 (by have := HL.out; omega) Hsa.out Hsx.out
  (with_reducible refine hcall.mono ?_)
  clear hcall
  rw [← HQ.out]
  rintro e w2 ⟨rfl, hg2⟩
  have Hg2 := hid (Hg1.out.trans hg2); clear hg2
  go_wp2_with fail
  have hcall := value_c b y _ _ w2 (Hb.out.gr Hg2.out) (Hy.out.gr Hg2.out) HL.out.2.2.1 (by have := HL.out; omega) Hsb.out Hsy.out
  (with_reducible refine hcall.mono ?_)
  clear hcall
  rw [← HR.out]
  rintro e w3 ⟨rfl, hg3⟩
  have Hg3 := hid (Hg2.out.trans hg3); clear hg3
  go_wp2_with fail
  have hcall := value_c b x _ _ w3 (Hb.out.gr Hg3.out) (Hx.out.gr Hg3.out) HL.out.2.2.2.1 (by have := HL.out; omega) Hsb.out Hsx.out
  (with_reducible refine hcall.mono ?_)
  clear hcall
  rw [← HS.out]
  rintro e w4 ⟨rfl, hg4⟩
  have Hg4 := hid (Hg3.out.trans hg4); clear hg4
  have HE : Hid (domB a b y x = ((decide (p - q ≤ 0) && decide (r - s ≤ 0)) && (decide (p - q < 0) || decide (r - s < 0)))) := hid (by unfold domB; rw [HP.out, HQ.out, HR.out, HS.out])
  cases e1 : decide (p - q ≤ 0)
  · have E1 := hid e1
    go_wp2_with fail
    go_ret
    exact ⟨ret_bool (by rw [HE.out, E1.out]; rfl), Hg4.out⟩
  cases e2 : decide (r - s ≤ 0)
  · have E1 := hid e1; have E2 := hid e2
    go_wp2_with fail
    go_ret
    exact ⟨ret_bool (by rw [HE.out, E1.out, E2.out]; rfl), Hg4.out⟩
  cases e3 : decide (p - q < 0)
  · cases e4 : decide (r - s < 0)
    all_goals
      have E1 := hid e1; have E2 := hid e2; have E3 := hid e3; have E4 := hid e4
      go_wp2_with fail
      go_ret
      exact ⟨ret_bool (by rw [HE.out, E1.out, E2.out, E3.out, E4.out]; rfl), Hg4.out⟩
  · have E1 := hid e1; have E2 := hid e2; have E3 := hid e3
    go_wp2_with fail
    go_ret
    exact ⟨ret_bool (by rw [HE.out, E1.out, E2.out, E3.out]; rfl), Hg4.out⟩


set_option maxRecDepth 100000 in
set_option maxHeartbeats 4000000 in
theorem specParetoFront_c (m : Mod) (a b : List Int) (mv av bv : Value) (w : World) (hv : ModV [] w mv m) (ha : Nums [] w .i64 av a) (hb : Nums [] w .i64 bv b) (hs : m.Small) (D : List Nat) (hD : validM m = true → VM m D) :
    Calls Tryz.prog 46 #[mv, av, bv] w fun e w' => ∃ v, e = .returned v ∧ RowsV [] w' v (frontO m D a b) ∧ Gr [] w w' := by
  have Hv := hid hv; have HD := hid hD; have Hs := hid hs; have Ha := hid ha; have Hb := hid hb
  obtain ⟨xo, xc, co, cc, rfl⟩ := hv.slices
  obtain ⟨oo, oc, rfl, -, -⟩ := ha
  obtain ⟨po, pc, rfl, -, -⟩ := hb
  have hg0 : Gr [] w ((w.alloc (.cells #[.slice xo m.doms.length xc, .slice co m.cons.length cc] 31)).alloc (.cells #[] 22)) := ((Gr.refl _ _).alloc _).alloc _
  have hb0 : ((w.alloc (.cells #[.slice xo m.doms.length xc, .slice co m.cons.length cc] 31)).alloc (.cells #[] 22)).heap[w.heap.size]? = some (.cells #[.slice xo m.doms.length xc, .slice co m.cons.length cc] 31 (0, 0)) := ((Gr.refl [] _).alloc _).obj (heap_alloc_new _ _) (by simp)
  have ho0 : ∀ U : Nat → Value, OwnG 1 (elU U) (w.heap.size + 1) ((w.alloc (.cells #[.slice xo m.doms.length xc, .slice co m.cons.length cc] 31)).alloc (.cells #[] 22)) 22 (.slice (some ⟨w.heap.size + 1, 0, none⟩) 0 0) [] := by
    intro U
    have := OwnG.emptyL (size := 1) (el := elU U) (B := w.heap.size + 1) (w.alloc (.cells #[.slice xo m.doms.length xc, .slice co m.cons.length cc] 31)) 22 (by simp)
    rwa [World.size_alloc] at this
  have fl0 := fld hb0
  have Hg0 := hid hg0; have Hb0 := hid hb0; have Ho0 := hid ho0
  have hsz0 : ((w.alloc (.cells #[.slice xo m.doms.length xc, .slice co m.cons.length cc] 31)).alloc (.cells #[] 22)).heap.size = w.heap.size + 2 := by simp
  clear hv hg0 hb0 hD hs ho0
  go_enter Tryz.func46, Tryz.ntmps46
  go_wp2_with fail
  generalize hW0 : (w.alloc (.cells #[.slice xo m.doms.length xc, .slice co m.cons.length cc] 31)).alloc (.cells #[] 22) = w0 at *
  clear hW0
  have hcall := specValidModel_c m _ w0 (Hv.out.gr Hg0.out) Hs.out
  (with_reducible refine hcall.mono ?_)
  clear hcall
  rintro e w1 ⟨rfl, hg1⟩
  have Hb1 := hid (hg1.obj Hb0.out (by simp)); have Ho1 : Hid (∀ U : Nat → Value, OwnG 1 (elU U) (w.heap.size + 1) w1 22 (.slice (some ⟨w.heap.size + 1, 0, none⟩) 0 0) []) := hid (fun U => (Ho0.out U).gr (elU_ok U) hg1 (by simp))
  have fl1 := fld Hb1.out
  have Hg1 := hid (Hg0.out.trans hg1)
  have hs1 := hg1.size
  clear fl0 hg1
  have Hnil : Hid (∀ W : World, RowsV [] W (.slice none 0 0) []) := hid (fun W => ⟨none, 0, rfl, by simp, fun i r h => by simp at h⟩)
  cases hval : validM m
  · have Hno := hid (frontO_no (D := D) (a := a) (b := b) (m := m) (by rw [hval]; rfl)); clear hval
    go_wp2_with fail
    go_ret
    rw [Hno.out]
    exact ⟨_, rfl, Hnil.out _, Hg1.out⟩
  have HVM := hid (HD.out hval)
  have Hval := hid hval
  clear hval
  go_wp2_with fail
  have hcall := validObjective_c m a _ _ w1 (Hv.out.gr Hg1.out) (Ha.out.gr Hg1.out)
  (with_reducible refine hcall.mono ?_)
  clear hcall
  rintro e w2 ⟨rfl, hg2⟩
  have Hb2 := hid (hg2.obj Hb1.out (by simp)); have Ho2 : Hid (∀ U : Nat → Value, OwnG 1 (elU U) (w.heap.size + 1) w2 22 (.slice (some ⟨w.heap.size + 1, 0, none⟩) 0 0) []) := hid (fun U => (Ho1.out U).gr (elU_ok U) hg2 (by simp))
  have fl2 := fld Hb2.out
  have Hg2 := hid (Hg1.out.trans hg2)
  have hs2 := hg2.size
  clear fl1 hg2
  cases hob : objB a m.doms.length
  · have Hno := hid (frontO_no (D := D) (a := a) (b := b) (m := m) (by rw [hob]; simp)); clear hob
    go_wp2_with fail
    go_ret
    rw [Hno.out]
    exact ⟨_, rfl, Hnil.out _, Hg2.out⟩
  have Hoa := hid hob
  clear hob
  go_wp2_with fail
  have hcall := validObjective_c m b _ _ w2 (Hv.out.gr Hg2.out) (Hb.out.gr Hg2.out)
  (with_reducible refine hcall.mono ?_)
  clear hcall
  rintro e w3 ⟨rfl, hg3⟩
  have Hb3 := hid (hg3.obj Hb2.out (by simp)); have Ho3 : Hid (∀ U : Nat → Value, OwnG 1 (elU U) (w.heap.size + 1) w3 22 (.slice (some ⟨w.heap.size + 1, 0, none⟩) 0 0) []) := hid (fun U => (Ho2.out U).gr (elU_ok U) hg3 (by simp))
  have fl3 := fld Hb3.out
  have Hg3 := hid (Hg2.out.trans hg3)
  have hs3 := hg3.size
  clear fl2 hg3
  cases hob : objB b m.doms.length
  · have Hno := hid (frontO_no (D := D) (a := a) (b := b) (m := m) (by rw [hob]; simp)); clear hob
    go_wp2_with fail
    go_ret
    rw [Hno.out]
    exact ⟨_, rfl, Hnil.out _, Hg3.out⟩
  have Hyes := hid (frontO_yes (D := D) (show (validM m && (objB a m.doms.length && objB b m.doms.length)) = true by rw [Hval.out, Hoa.out, hob]; rfl))
  have HDL : Hid (m.doms.length = D.length) := hid (by rw [HVM.out.doms, ints_len])
  have HA := hid (obj_len Hoa.out); have HB := hid (obj_len hob)
  clear hob
  go_wp2_with fail
  have hcall := solve_c m D 4096 _ w3 (Hv.out.gr Hg3.out) HVM.out (by omega) (by omega)
  rw [show ((4096 : Nat) : Int) = 4096 from rfl] at hcall
  (with_reducible refine hcall.mono ?_)
  clear hcall
  rintro e w4 ⟨v4, nd, rfl, hown4, hg4⟩
  rw [all_sols m D HVM.out] at hown4
  obtain ⟨zs, hz⟩ : ∃ zs, zs = sols m.cons D := ⟨_, rfl⟩
  rw [← hz] at hown4 Hyes
  have Hzs : Hid (∀ x ∈ zs, x.length = D.length ∧ ∀ y ∈ x, 0 ≤ y ∧ y ≤ 5) := hid (by rw [hz]; exact fun x hx => solv hx)
  have Hzl : Hid (zs.length ≤ 1296) := hid (by rw [hz]; exact sols_length _ _ HVM.out.len.2)
  have Hl := hid (hown4.rows (S := [w.heap.size + 1]) (by intro b hb; simp at hb; omega))
  obtain ⟨ro, rc, rfl, hr1, hr2, -⟩ := hown4.slice
  have Hg4 := hid (Hg3.out.trans hg4)
  have hs4 := hg4.size
  have hzl := Hzl.out
  obtain ⟨U, hU⟩ : ∃ U : Nat → Value, U = fun t => match ro with | some ⟨g, o, _⟩ => (w4.cell? ⟨g, o + t, none⟩).getD (.slice none 0 0) | none => .slice none 0 0 := ⟨_, rfl⟩
  have HU : Hid (∀ (t : Nat) x, zs[t]? = some x → ∃ g o xo' xc', ro = some ⟨g, o, none⟩ ∧ g ≠ w.heap.size + 1 ∧ U t = .slice xo' x.length xc' ∧ w4.cell? ⟨g, o + t, none⟩ = some (U t) ∧ Nums [w.heap.size + 1] w4 .i64 (U t) x) := hid (by
    intro t x hx
    obtain ⟨ao', cap', e, _, hcc⟩ := Hl.out
    cases e
    obtain ⟨g, o, u, e1, hs1, h1, h2⟩ := hcc t x hx
    subst e1
    have hUt : U t = u := by rw [hU]; simp only [h1]; rfl
    obtain ⟨xo', xc', e2, _⟩ := id h2
    exact ⟨g, o, xo', xc', rfl, by simpa using hs1, by rw [hUt, e2], by rw [hUt]; exact h1, by rw [hUt]; exact h2⟩)
  have Ho4 := hid ((Ho3.out U).gr (elU_ok U) hg4 (by simp))
  clear hown4 hz hg4 fl3 hU
  go_wp2_with fail
  go_loopw [7, 10] (fun o i wr => ∃ (n : Nat) (ov : Value), ov = o ∧ n ≤ zs.length ∧ i = .int .i64 n ∧ OwnG 1 (elU U) (w.heap.size + 1) wr 22 ov (frontI (dot a) (dot b) zs n) ∧ (∀ b, ov.ownBlock = some b → b = w.heap.size + 1 ∨ w4.heap.size ≤ b) ∧ Gr [w.heap.size + 1] w4 wr) (fun _ i _ => zs.length - (intOf i).toNat)
  case atStart => exact ⟨0, _, rfl, Nat.zero_le _, rfl, Ho4.out, fun b hb => .inl (by simp [Value.ownBlock] at hb; exact hb.symm), Gr.refl _ _⟩
  case round =>
    obtain ⟨n, ov, rfl, hn, rfl, hown, hwh, hg⟩ := hrel
    have Hown := hid hown; have Hwh := hid hwh; have Hg := hid hg
    have hsr := hg.size
    clear hown hwh hg
    by_cases hlt : n < zs.length
    · obtain ⟨x, hx⟩ := get_some hlt
      obtain ⟨g, o, xo', xc', e1, hgne, hUn, hc0, hn0⟩ := HU.out n x hx
      subst e1
      have hcr := Hg.out.cell hc0 (by simpa using hgne)
      have HXr := hid ((hn0.gr Hg.out).sub (S' := []) (by simp))
      rw [hUn] at hcr HXr
      have Hx := hid hx; have HUn := hid hUn; have Hcr := hid hcr
      have Hsx := hid (Hzs.out x (List.mem_of_getElem? hx))
      have HAr := hid (((Ha.out.sub (S' := [w.heap.size + 1]) (fun b h1 h2 => by simp at h2; omega)).gr (Hg4.out.any.trans Hg.out)).sub (S' := []) (by simp))
      have HBr := hid (((Hb.out.sub (S' := [w.heap.size + 1]) (fun b h1 h2 => by simp at h2; omega)).gr (Hg4.out.any.trans Hg.out)).sub (S' := []) (by simp))
      clear hn0 hc0 hUn hx hcr
      go_wp2_with fail
      go_loopw [11, 12] (fun z i wq => ∃ (k : Nat), k ≤ zs.length ∧ i = .int .i64 k ∧ z = .bool (!beatenB (dot a) (dot b) zs n k) ∧ Gr [] wr wq) (fun _ i _ => zs.length - (intOf i).toNat)
      case atStart => exact ⟨0, Nat.zero_le _, rfl, rfl, Gr.refl _ _⟩
      case round =>
        obtain ⟨k, hk, rfl, rfl, hgq⟩ := hrel
        have Hgq := hid hgq; clear hgq
        by_cases hkl : k < zs.length
        · obtain ⟨y, hy⟩ := get_some hkl
          obtain ⟨g2, o2, yo', yc', e2, -, hUk, hc2, hn2⟩ := HU.out k y hy
          obtain ⟨rfl, rfl⟩ : g2 = g ∧ o2 = o := by simpa [eq_comm] using e2
          have hc2r := (Hg.out.cell hc2 (by simpa using hgne))
          have HYr := hid (((hn2.gr Hg.out).sub (S' := []) (by simp)).gr Hgq.out)
          rw [hUk] at hc2r HYr
          have Hsy := hid (Hzs.out y (List.mem_of_getElem? hy))
          have HXq := hid (HXr.out.gr Hgq.out); have HAq := hid (HAr.out.gr Hgq.out); have HBq := hid (HBr.out.gr Hgq.out)
          have hm1 : ∀ q : GrW [] wr, q.val.cell? ⟨g2, o2 + k, none⟩ = some (.slice yo' y.length yc') := fun q => q.gr.cell (Hgq.out.cell hc2r (by simp)) (by simp)
          have hm2 : ∀ q : GrW [] wr, q.val.cell? ⟨g2, o2 + n, none⟩ = some (.slice xo' x.length xc') := fun q => q.gr.cell (Hgq.out.cell Hcr.out (by simp)) (by simp)
          obtain ⟨p, hp⟩ : ∃ p, p = dot a y := ⟨_, rfl⟩
          obtain ⟨q, hq⟩ : ∃ q, q = dot a x := ⟨_, rfl⟩
          obtain ⟨r, hr⟩ : ∃ r, r = dot b y := ⟨_, rfl⟩
          obtain ⟨s, hs⟩ : ∃ s, s = dot b x := ⟨_, rfl⟩
          obtain ⟨dm, hdm⟩ : ∃ dm, dm = domB a b y x := ⟨_, rfl⟩
          have la : a.length = D.length := by have := HA.out.1; have := HDL.out; omega
          have lb : b.length = D.length := by have := HB.out.1; have := HDL.out; omega
          have l4 := HVM.out.len.2
          have V1 : Hid (∀ c : GrW [] wr, Calls Tryz.prog 116 #[.slice oo a.length oc, .slice yo' y.length yc'] c.val fun e w' => e = .returned (.int .i64 p) ∧ Gr [] c.val w') := hid fun c => by rw [hp]; exact value_c a y _ _ _ (HAq.out.gr c.gr) (HYr.out.gr c.gr) (by rw [la, Hsy.out.1]) (by omega) (small9 HA.out.2) (small5 Hsy.out.2)
          have V2 : Hid (∀ c : GrW [] wr, Calls Tryz.prog 116 #[.slice oo a.length oc, .slice xo' x.length xc'] c.val fun e w' => e = .returned (.int .i64 q) ∧ Gr [] c.val w') := hid fun c => by rw [hq]; exact value_c a x _ _ _ (HAq.out.gr c.gr) (HXq.out.gr c.gr) (by rw [la, Hsx.out.1]) (by omega) (small9 HA.out.2) (small5 Hsx.out.2)
          have V3 : Hid (∀ c : GrW [] wr, Calls Tryz.prog 116 #[.slice po b.length pc, .slice yo' y.length yc'] c.val fun e w' => e = .returned (.int .i64 r) ∧ Gr [] c.val w') := hid fun c => by rw [hr]; exact value_c b y _ _ _ (HBq.out.gr c.gr) (HYr.out.gr c.gr) (by rw [lb, Hsy.out.1]) (by omega) (small9 HB.out.2) (small5 Hsy.out.2)
          have V4 : Hid (∀ c : GrW [] wr, Calls Tryz.prog 116 #[.slice po b.length pc, .slice xo' x.length xc'] c.val fun e w' => e = .returned (.int .i64 s) ∧ Gr [] c.val w') := hid fun c => by rw [hs]; exact value_c b x _ _ _ (HBq.out.gr c.gr) (HXq.out.gr c.gr) (by rw [lb, Hsx.out.1]) (by omega) (small9 HB.out.2) (small5 Hsx.out.2)
          have V5 : Hid (∀ c : GrW [] wr, Calls Tryz.prog 117 #[.slice oo a.length oc, .slice po b.length pc, .slice yo' y.length yc', .slice xo' x.length xc'] c.val fun e w' => e = .returned (.bool dm) ∧ Gr [] c.val w') := hid fun c => by
            rw [hdm]
            exact dominates_c a b y x _ _ _ _ _ (HAq.out.gr c.gr) (HBq.out.gr c.gr) (HYr.out.gr c.gr) (HXq.out.gr c.gr) ⟨by rw [la, Hsy.out.1], by rw [la, Hsx.out.1], by rw [lb, Hsy.out.1], by rw [lb, Hsx.out.1], by omega⟩ (small9 HA.out.2) (small9 HB.out.2) (small5 Hsy.out.2) (small5 Hsx.out.2)
          have HS : Hid (∀ sm : Bool, sm = ((p == q) && (r == s)) → (!beatenB (dot a) (dot b) zs n (k + 1)) = (((!beatenB (dot a) (dot b) zs n k) && !dm) && !(sm && decide (k < n)))) := hid fun sm hsm => by
            rw [beatenB_succ, Bool.not_or, hdm, beat_spec Hx.out hy _ sm (by rw [hsm, hp, hq, hr, hs]; congr 1 <;> (rw [Bool.eq_iff_iff]; simp))]
          obtain ⟨kp, hkp⟩ : ∃ kp, kp = !beatenB (dot a) (dot b) zs n k := ⟨_, rfl⟩
          rw [← hkp] at HS ⊢
          clear hkp hc2 hc2r hn2 hUk hy hp hq hr hs hdm e2 la lb
          cases e1 : (p == q)
          · go_wp2_with fail
            refine wp_region_gr [] _ (by kernel_rfl) (by kernel_rfl) (Gr.refl _ _) ?_
            repeat (go_big_quiet_step ((first | (go_at_call 116; with_reducible exact Calls.gr_of (V1.out _)) | (go_at_call 116; with_reducible exact Calls.gr_of (V2.out _)) | (go_at_call 116; with_reducible exact Calls.gr_of (V3.out _)) | (go_at_call 116; with_reducible exact Calls.gr_of (V4.out _)))))
            refine wpQuiet_nil ?_
            rintro w7 ⟨n7, hw7⟩
            have hg7 : Gr [] wr w7 := hw7 ▸ n7.gr
            have HG7 := hid hg7
            clear hw7 n7 hg7
            have HS' := HS.out false (by rw [e1]; rfl)
            obtain ⟨sm, hsm⟩ : ∃ sm : Bool, sm = false := ⟨_, rfl⟩
            clear HS
            cases kp
            all_goals cases dm
            all_goals
              go_wp2_with fail
              refine wp_region_gr [] _ (by kernel_rfl) (by kernel_rfl) HG7.out ?_
              repeat (go_big_quiet_step ((go_at_call 117; with_reducible exact Calls.gr_of (V5.out _))))
              refine wpQuiet_nil ?_
              rintro w8 ⟨n8, hw8⟩
              have hg8 : Gr [] wr w8 := hw8 ▸ n8.gr
              clear hw8 n8 hm1 hm2
              go_wp2_with fail
              exact ⟨⟨k + 1, by omega, by go_num, by rw [HS']; rfl, Hgq.out.trans hg8⟩, by simp [intOf]; omega⟩
          · cases e2 : (r == s)
            · go_wp2_with fail
              refine wp_region_gr [] _ (by kernel_rfl) (by kernel_rfl) (Gr.refl _ _) ?_
              repeat (go_big_quiet_step ((first | (go_at_call 116; with_reducible exact Calls.gr_of (V1.out _)) | (go_at_call 116; with_reducible exact Calls.gr_of (V2.out _)) | (go_at_call 116; with_reducible exact Calls.gr_of (V3.out _)) | (go_at_call 116; with_reducible exact Calls.gr_of (V4.out _)))))
              refine wpQuiet_nil ?_
              rintro w7 ⟨n7, hw7⟩
              have hg7 : Gr [] wr w7 := hw7 ▸ n7.gr
              have HG7 := hid hg7
              clear hw7 n7 hg7
              have HS' := HS.out false (by rw [e1, e2]; rfl)
              clear HS
              cases kp
              all_goals cases dm
              all_goals
                go_wp2_with fail
                refine wp_region_gr [] _ (by kernel_rfl) (by kernel_rfl) HG7.out ?_
                repeat (go_big_quiet_step ((go_at_call 117; with_reducible exact Calls.gr_of (V5.out _))))
                refine wpQuiet_nil ?_
                rintro w8 ⟨n8, hw8⟩
                have hg8 : Gr [] wr w8 := hw8 ▸ n8.gr
                clear hw8 n8 hm1 hm2
                go_wp2_with fail
                exact ⟨⟨k + 1, by omega, by go_num, by rw [HS']; rfl, Hgq.out.trans hg8⟩, by simp [intOf]; omega⟩
            · go_wp2_with fail
              refine wp_region_gr [] _ (by kernel_rfl) (by kernel_rfl) (Gr.refl _ _) ?_
              repeat (go_big_quiet_step ((first | (go_at_call 116; with_reducible exact Calls.gr_of (V1.out _)) | (go_at_call 116; with_reducible exact Calls.gr_of (V2.out _)) | (go_at_call 116; with_reducible exact Calls.gr_of (V3.out _)) | (go_at_call 116; with_reducible exact Calls.gr_of (V4.out _)))))
              refine wpQuiet_nil ?_
              rintro w7 ⟨n7, hw7⟩
              have hg7 : Gr [] wr w7 := hw7 ▸ n7.gr
              have HG7 := hid hg7
              clear hw7 n7 hg7
              have HS' := HS.out true (by rw [e1, e2]; rfl)
              clear HS
              cases kp
              all_goals cases dm
              all_goals cases e5 : decide (k < n)
              all_goals
                go_wp2_with fail
                refine wp_region_gr [] _ (by kernel_rfl) (by kernel_rfl) HG7.out ?_
                repeat (go_big_quiet_step ((go_at_call 117; with_reducible exact Calls.gr_of (V5.out _))))
                refine wpQuiet_nil ?_
                rintro w8 ⟨n8, hw8⟩
                have hg8 : Gr [] wr w8 := hw8 ▸ n8.gr
                clear hw8 n8 hm1 hm2
                go_wp2_with fail
                exact ⟨⟨k + 1, by omega, by go_num, by rw [HS', e5]; rfl, Hgq.out.trans hg8⟩, by simp [intOf]; omega⟩
        · have hkz : k = zs.length := by omega
          subst hkz
          have HS : Hid (frontI (dot a) (dot b) zs (n + 1) = frontI (dot a) (dot b) zs n ++ if beatenB (dot a) (dot b) zs n zs.length then [] else [n]) := hid frontI_succ
          have HOq := hid (Hown.out.gr (elU_ok U) Hgq.out (by simp))
          have HGq := hid (Hg.out.trans Hgq.out.any)
          have hsq := HGq.out.size
          have hil := frontI_len (dot a) (dot b) zs n
          have Hil := hid hil
          have hcq := Hgq.out.cell Hcr.out (by simp)
          have hB1 : w.heap.size + 1 ≤ wr.heap.size := by omega
          clear hil
          cases hz' : beatenB (dot a) (dot b) zs n zs.length
          · have Hz' := hid hz'
            go_wp2_with (at_builtin; go_loud (refine wp_appGw rfl _ _ 41 rfl 1 (elU U) (elU_ok U) (w.heap.size + 1) 22 (.slice none 0 0) 24 infoR rfl (by omega) (by omega) Tryz.underlying41 ov (frontI (dot a) (dot b) zs n) rfl (HOq.out.gr (elU_ok U) ((Gr.refl [] wr).alloc _) (by simp)) wr.heap.size 1 n [.slice xo' x.length xc'] rfl rfl (by simp [Value.oneCell']) (fun j q hj => by match j, hj with | 0, hj => (simp at hj; subst hj; exact cell_one _ _ _) | j + 1, hj => simp at hj) (fun S hS => by unfold elU; rw [HUn.out]) (by have := Hil.out; omega) (by simp; omega) ?_; intro v7 w7 hown7 hg7 hwh7; have HO7 := hid hown7; have HG7 := hid hg7; have HW7 := hid hwh7; clear hown7 hg7 hwh7))
            refine ⟨⟨n + 1, _, rfl, by omega, by go_num, by rw [HS.out, Hz'.out]; exact HO7.out, fun b hb => ?_, ?_⟩, by simp [intOf]; omega⟩
            · rcases HW7.out b hb with h | h
              · exact Hwh.out b h
              · right; rw [World.size_alloc] at h; omega
            · refine (HGq.out.alloc _).step HG7.out (fun i hi => ?_)
              rcases Hwh.out i (by simpa using hi) with h | h
              · left; simp [h]
              · right; exact h
          · have Hz' := hid hz'
            go_wp2_with fail
            exact ⟨⟨n + 1, _, rfl, by omega, by go_num, by rw [HS.out, Hz'.out, if_pos rfl, List.append_nil]; exact HOq.out, Hwh.out, HGq.out⟩, by simp [intOf]; omega⟩
    · have hnz : n = zs.length := by omega
      subst hnz
      obtain ⟨ro2, rc2, rfl, -, -, -⟩ := Hown.out.slice
      go_wp2_with fail
      go_ret
      refine ⟨_, rfl, ?_, Hg4.out.step Hg.out (fun i hi => .inr (by simp at hi; omega))⟩
      rw [Hyes.out]
      unfold frontL
      refine rowsV_pick Hown.out (fun i hi => ?_) (by simp)
      have hil := (mem_frontI.1 hi).1
      obtain ⟨x, hx⟩ := get_some hil
      obtain ⟨_, _, _, _, _, _, _, _, hn⟩ := HU.out i x hx
      rw [getD_of hx]
      exact (hn.gr Hg.out).sub (by simp)

end Go.Proofs.YtjmjjdgbkibdaaaGreat
