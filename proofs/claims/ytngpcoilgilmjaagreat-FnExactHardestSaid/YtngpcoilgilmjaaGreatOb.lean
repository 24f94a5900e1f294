/-
  The first one of lists for which a function is least: plainly, and the program's walk over whatever function.
  Walks of objectives: validity, the least solution; the program's and the reference's.
-/
import Derived.Test.YtngpcoilgilmjaaGreatNs
set_option linter.unusedVariables false
namespace Go.Proofs.YtngpcoilgilmjaaGreat
open Go.RowKit

def bstep (cost : List Int → Int) (o : Option (List Int)) (x : List Int) : Option (List Int) :=
  match o with
  | none => some x
  | some y => if cost x < cost y then some x else some y
def bestO (cost : List Int → Int) (zs : List (List Int)) : Option (List Int) := zs.foldl (bstep cost) none
theorem bestO_nil (cost : List Int → Int) : bestO cost [] = none := rfl
theorem bestO_succ {cost : List Int → Int} {zs : List (List Int)} {n : Nat} {x : List Int} (h : zs[n]? = some x) : bestO cost (zs.take (n + 1)) = bstep cost (bestO cost (zs.take n)) x := by
  unfold bestO
  rw [List.take_add_one, h]
  simp
theorem bstep_some (cost : List Int → Int) (o : Option (List Int)) (x : List Int) : (bstep cost o x).isSome = true := by
  cases o with
  | none => rfl
  | some y => unfold bstep; simp only; split <;> rfl
theorem bstep_mem {cost : List Int → Int} {o : Option (List Int)} {x y : List Int} (h : bstep cost o x = some y) : o = some y ∨ x = y := by
  cases o with
  | none => right; simpa [bstep] using h
  | some z =>
    unfold bstep at h
    simp only at h
    split at h
    · right; simpa using h
    · left; simpa using h
theorem foldl_mem {cost : List Int → Int} {zs : List (List Int)} {o : Option (List Int)} {y : List Int} (h : zs.foldl (bstep cost) o = some y) : o = some y ∨ y ∈ zs := by
  induction zs generalizing o with
  | nil => exact .inl h
  | cons x r ih =>
    rcases ih h with h | h
    · rcases bstep_mem h with h | h
      · exact .inl h
      · right; simp [h]
    · right; simp [h]
theorem bestO_mem {cost : List Int → Int} {zs : List (List Int)} {y : List Int} (h : bestO cost zs = some y) : y ∈ zs := by
  rcases foldl_mem h with h | h
  · cases h
  · exact h
theorem bestO_none {cost : List Int → Int} {zs : List (List Int)} (h : bestO cost zs = none) : zs = [] := by
  cases zs with
  | nil => rfl
  | cons x r =>
    exfalso
    have h1 : (bestO cost (x :: r)).isSome = true := by
      show ((x :: r).foldl (bstep cost) none).isSome = true
      rw [List.foldl_cons]
      have : ∀ (r : List (List Int)) (o : Option (List Int)), o.isSome = true → (r.foldl (bstep cost) o).isSome = true := by
        intro r
        induction r with
        | nil => intro o h; exact h
        | cons z r ih => intro o h; exact ih _ (bstep_some _ _ _)
      exact this r _ (bstep_some _ _ _)
    rw [h] at h1; cases h1
/-- The least: nothing in the list is less, and nothing ahead of it is as small. -/
theorem bestO_least {cost : List Int → Int} {zs : List (List Int)} {y : List Int} (h : bestO cost zs = some y) : ∀ x ∈ zs, cost y ≤ cost x := by
  have : ∀ (zs : List (List Int)) (o : Option (List Int)) (y : List Int), zs.foldl (bstep cost) o = some y → (∀ z, o = some z → cost y ≤ cost z) ∧ ∀ x ∈ zs, cost y ≤ cost x := by
    intro zs
    induction zs with
    | nil => intro o y h; exact ⟨fun z hz => by simp at h; rw [h] at hz; simp at hz; subst hz; exact Int.le_refl _, by simp⟩
    | cons x r ih =>
      intro o y h
      obtain ⟨h1, h2⟩ := ih _ y h
      cases o with
      | none =>
        refine ⟨by simp, fun z hz => ?_⟩
        rcases List.mem_cons.1 hz with rfl | hz
        · exact h1 _ rfl
        · exact h2 z hz
      | some q =>
        unfold bstep at h1
        simp only at h1
        split at h1
        · rename_i hlt
          have := h1 _ rfl
          refine ⟨fun z hz => by simp at hz; subst hz; omega, fun z hz => ?_⟩
          rcases List.mem_cons.1 hz with rfl | hz
          · exact this
          · exact h2 z hz
        · rename_i hlt
          have := h1 _ rfl
          refine ⟨fun z hz => by simp at hz; subst hz; exact this, fun z hz => ?_⟩
          rcases List.mem_cons.1 hz with rfl | hz
          · omega
          · exact h2 z hz
  exact (this zs none y h).2

theorem run_eql_slice_nil2 {P : Program} (w : World) (t e : TypeId) (a : Option Addr) (l c : Nat) (h : P.underlying t = some (.slice e)) : (binOp .eql t (.slice a l c) (.slice none 0 0)).run P w = .ok (.bool a.isNone) w := by
  simp only [binOp]
  simp [run_equal_slice_nil w t e a l c h]
theorem run_neq_slice_nil2 {P : Program} (w : World) (t e : TypeId) (a : Option Addr) (l c : Nat) (h : P.underlying t = some (.slice e)) : (binOp .neq t (.slice a l c) (.slice none 0 0)).run P w = .ok (.bool (!a.isNone)) w := by
  simp only [binOp]
  simp [run_equal_slice_nil w t e a l c h]
section
attribute [local go_sem] run_eql_slice_nil2 run_neq_slice_nil2

set_option maxRecDepth 100000 in
set_option maxHeartbeats 2000000 in
theorem best_c (zs : List (List Int)) (cost : List Int → Int) (k : Nat) (C : Array Value) (lv : Value) (w : World) (hl : RowsV [] w lv zs) (hn : ∀ x ∈ zs, 1 ≤ x.length ∧ x.length ≤ 100)
    (hk : ∀ args w, (callFunc k args).run Tryz.prog w = .ok (.enter k args) w)
    (hf : ∀ x cv W, x ∈ zs → Gr [] w W → Nums [] W .i64 cv x → Calls Tryz.prog k (#[cv] ++ C) W fun e W' => e = .returned (.int .i64 (cost x)) ∧ Gr [] W W') :
    Calls Tryz.prog 73 #[lv, .func (.func k) #[] C] w fun e w' => ∃ v', e = .returned (.tuple #[v', .bool (bestO cost zs).isSome]) ∧ NumsM (New w.heap.size w') w' v' ((bestO cost zs).getD []) ∧ Gr [] w w' := by
  have hund := Tryz.underlying23
  have Hl := hid hl; have Hn := hid hn; have Hf := hid hf
  obtain ⟨ro, rc, rfl, ⟨hr1, hr2, -⟩, -⟩ := hl
  clear hn hf
  go_enter Tryz.func73, Tryz.ntmps73
  go_wp2_with fail
  go_loopw [6, 7, 13] (fun o l i wr => ∃ (n : Nat) (z : Int), n ≤ zs.length ∧ i = .int .i64 n ∧ l = .int .i64 z ∧ Gr [] w wr ∧ ((bestO cost (zs.take n) = none ∧ o = .slice none 0 0) ∨ ∃ y a c, bestO cost (zs.take n) = some y ∧ z = cost y ∧ o = .slice (some a) y.length c ∧ Nums [] wr .i64 (.slice (some a) y.length c) y)) (fun _ _ i _ => zs.length - (intOf i).toNat)
  case atStart => exact ⟨0, 0, Nat.zero_le _, rfl, rfl, Gr.refl _ _, .inl ⟨by rw [List.take_zero]; rfl, rfl⟩⟩
  case round =>
    obtain ⟨n, z, hnl, rfl, rfl, hg, hcase⟩ := hrel
    have Hg := hid hg; clear hg
    by_cases hlt : n < zs.length
    · obtain ⟨x, hx⟩ := get_some hlt
      have hxm := List.mem_of_getElem? hx
      obtain ⟨hx1, hx100⟩ := Hn.out x hxm
      obtain ⟨b, oz, u, e1, hc0, hn0⟩ := (Hl.out.gr Hg.out).at0 hx
      subst e1
      obtain ⟨xo', xc', rfl, -, -⟩ := id hn0
      obtain ⟨x0, hx0⟩ := get_some (xs := x) (k := 0) (by omega)
      obtain ⟨bb, ob, rfl, -, -⟩ := hn0.at hx0
      have HS := hid (bestO_succ (cost := cost) hx)
      have Hn0 := hid hn0
      clear hx hx0 hn0
      rcases hcase with ⟨hb, rfl⟩ | ⟨y, a, c, hb, hz, rfl, hny⟩
      · have Hb := hid hb; clear hb
        go_wp2_with fail
        refine (Hf.out x _ wr hxm Hg.out Hn0.out).mono ?_
        rintro e w5 ⟨rfl, hg5⟩
        have Hg5 := hid hg5; clear hg5
        go_wp2_with fail
        exact ⟨⟨n + 1, cost x, by omega, by go_num, rfl, Hg.out.trans Hg5.out, .inr ⟨x, _, _, by rw [HS.out, Hb.out]; rfl, rfl, rfl, Hn0.out.gr Hg5.out⟩⟩, by simp [intOf]; omega⟩
      · have Hb := hid hb; have Hny := hid hny; have Hz := hid hz
        clear hb hny hz
        go_wp2_with fail
        refine (Hf.out x _ wr hxm Hg.out Hn0.out).mono ?_
        rintro e w5 ⟨rfl, hg5⟩
        have Hg5 := hid hg5; clear hg5
        by_cases hc : cost x < z
        · have hs : bestO cost (zs.take (n + 1)) = some x := by rw [HS.out, Hb.out]; unfold bstep; simp only; rw [if_pos (by rw [← Hz.out]; exact hc)]
          have Hs := hid hs; clear hs
          go_wp2_with fail
          exact ⟨⟨n + 1, cost x, by omega, by go_num, rfl, Hg.out.trans Hg5.out, .inr ⟨x, _, _, Hs.out, rfl, rfl, Hn0.out.gr Hg5.out⟩⟩, by simp [intOf]; omega⟩
        · have hs : bestO cost (zs.take (n + 1)) = some y := by rw [HS.out, Hb.out]; unfold bstep; simp only; rw [if_neg (by rw [← Hz.out]; exact hc)]
          have Hs := hid hs; clear hs
          go_wp2_with fail
          exact ⟨⟨n + 1, z, by omega, by go_num, rfl, Hg.out.trans Hg5.out, .inr ⟨y, _, _, Hs.out, Hz.out, rfl, Hny.out.gr Hg5.out⟩⟩, by simp [intOf]; omega⟩
    · have hnz : zs.take n = zs := List.take_of_length_le (by omega)
      rw [hnz] at hcase
      have hs0 := Hg.out.size
      rcases hcase with ⟨hb, rfl⟩ | ⟨y, a, c, hb, hz, rfl, hny⟩
      · have Hb := hid hb
        clear hb hnz
        go_wp2_with fail
        have hcall := copied_c _ [] wr ((Own.nil 0 _ 3).nums (by simp)) (by simp)
        (with_reducible refine hcall.mono ?_)
        clear hcall
        rintro e w5 ⟨v5, rfl, ho5, hg5⟩
        have Ho5 := hid (OwnC.numsM ho5); have Hg5 := hid hg5
        clear ho5 hg5
        go_wp2_with fail
        go_ret2
        rw [Hb.out]
        exact ⟨_, rfl, Ho5.out.gr' (Gr.refl [] _) (by simp) (fun b hb h => h.le hs0 (Nat.le_refl _)), Hg.out.trans Hg5.out⟩
      · have hyl := (Hn.out y (bestO_mem hb)).2
        have Hb := hid hb
        have Hny := hid hny
        clear hb hnz hny hz
        go_wp2_with fail
        have hcall := copied_c _ y wr Hny.out (by omega)
        (with_reducible refine hcall.mono ?_)
        clear hcall
        rintro e w5 ⟨v5, rfl, ho5, hg5⟩
        have Ho5 := hid (OwnC.numsM ho5); have Hg5 := hid hg5
        clear ho5 hg5
        go_wp2_with fail
        go_ret2
        rw [Hb.out]
        exact ⟨_, rfl, Ho5.out.gr' (Gr.refl [] _) (by simp) (fun b hb h => h.le hs0 (Nat.le_refl _)), Hg.out.trans Hg5.out⟩
end
end Go.Proofs.YtngpcoilgilmjaaGreat

set_option linter.unusedVariables false
set_option linter.unusedSimpArgs false
namespace Go.Proofs.YtngpcoilgilmjaaGreat
open Go.RowKit

def objB (x : List Int) (n : Nat) : Bool := ((x.length : Int) == (n : Int)) && allB (-9) 9 x
theorem obj_len {x : List Int} {n : Nat} (h : objB x n = true) : x.length = n ∧ ∀ y ∈ x, -9 ≤ y ∧ y ≤ 9 := by
  unfold objB at h
  rw [Bool.and_eq_true] at h
  exact ⟨by have := h.1; simp at this; omega, allB_iff.1 h.2⟩
/-! ### The least solution -/
def minO (m : Mod) (D : List Nat) (o : List Int) : Option (List Int) := if validM m && objB o m.doms.length then bestO (dot o) (sols m.cons D) else none
theorem minO_no {m : Mod} {D : List Nat} {x : List Int} (h : (validM m && objB x m.doms.length) = false) : minO m D x = none := by unfold minO; rw [h]; rfl
theorem minO_yes {m : Mod} {D : List Nat} {x : List Int} (h : (validM m && objB x m.doms.length) = true) : minO m D x = bestO (dot x) (sols m.cons D) := by unfold minO; rw [h]; rfl
theorem small9 {x : List Int} (h : ∀ y ∈ x, -9 ≤ y ∧ y ≤ 9) : Small x := fun y hy => by have := h y hy; omega
theorem small5 {x : List Int} (h : ∀ y ∈ x, 0 ≤ y ∧ y ≤ 5) : Small x := fun y hy => by have := h y hy; omega
theorem solv {cs : List Con} {D : List Nat} {x : List Int} (h : x ∈ sols cs D) : x.length = D.length ∧ ∀ y ∈ x, 0 ≤ y ∧ y ≤ 5 := ⟨tups_len (mem_sols.1 h).1, tups_val (mem_sols.1 h).1⟩
theorem bestO_len {m : Mod} {D : List Nat} {cost : List Int → Int} (hv : VM m D) : ((bestO cost (sols m.cons D)).getD []).length ≤ 1000000 := by
  cases h : bestO cost (sols m.cons D) with
  | none => simp
  | some y =>
    have := (solv (bestO_mem h)).1
    have := hv.len.2
    simp only [Option.getD_some]; omega
theorem minO_len (m : Mod) (x : List Int) (D : List Nat) (hD : validM m = true → VM m D) : ((minO m D x).getD []).length ≤ 1000000 := by
  cases h : (validM m && objB x m.doms.length)
  · rw [minO_no h]; simp
  · rw [minO_yes h]
    rw [Bool.and_eq_true] at h
    exact bestO_len (hD h.1)

end Go.Proofs.YtngpcoilgilmjaaGreat
