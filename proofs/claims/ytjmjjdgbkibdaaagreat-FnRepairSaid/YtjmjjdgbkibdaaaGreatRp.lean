/-
  Walks of repair: distances, agreement, the nearest solution; the program's and the reference's.
-/
import Derived.Test.YtjmjjdgbkibdaaaGreatRpP
import Derived.Test.YtjmjjdgbkibdaaaGreatDf
set_option linter.unusedVariables false
set_option linter.unusedSimpArgs false
namespace Go.Proofs.YtjmjjdgbkibdaaaGreat
open Go.RowKit


set_option maxRecDepth 100000 in
theorem apart_c (a b : List Int) (va vb : Value) (w : World) (ha : Nums [] w .i64 va a) (hb : Nums [] w .i64 vb b) (hl : a.length = b.length) (hl' : a.length ≤ 100) :
    Calls Tryz.prog 92 #[va, vb] w fun e w' => e = .returned (.int .i64 (apN a b a.length : Nat)) ∧ Gr [] w w' := by
  have Ha := hid ha; have Hb := hid hb
  obtain ⟨ao, ac, rfl, ⟨ha1, ha2, -⟩, -⟩ := ha
  obtain ⟨bo, bc, rfl, ⟨hb1, hb2, -⟩, -⟩ := hb
  have Hl := hid hl
  clear hl
  go_enter Tryz.func92, Tryz.ntmps92
  go_wp2_with fail
  go_loopw [5, 10] (fun s i wr => ∃ n : Nat, n ≤ a.length ∧ i = .int .i64 n ∧ s = .int .i64 (apN a b n : Nat) ∧ Gr [] w wr) (fun _ i _ => a.length - (intOf i).toNat)
  case atStart => exact ⟨0, Nat.zero_le _, rfl, rfl, Gr.refl _ _⟩
  case round =>
    obtain ⟨n, hn, rfl, rfl, hg⟩ := hrel
    have Hg := hid hg
    by_cases hlt : n < a.length
    · obtain ⟨x, hx⟩ := get_some hlt
      obtain ⟨y, hy⟩ := get_some (xs := b) (k := n) (by have := Hl.out; omega)
      have HS := hid (apN_succ hx hy)
      have hle := apN_le a b n
      obtain ⟨b1, o1, e1, -, c1⟩ := (Ha.out.gr hg).at hx
      subst e1
      obtain ⟨b2, o2, e2, -, c2⟩ := (Hb.out.gr hg).at hy
      subst e2
      have hbl : n < b.length := by have := Hl.out; omega
      obtain ⟨A, hA⟩ : ∃ A, A = apN a b n := ⟨_, rfl⟩
      rw [← hA] at hle ⊢
      have HA := hid hA
      clear hx hy hg hA
      cases h1 : (x == y)
      · have H1 := hid h1
        go_wp2_with fail
        exact ⟨⟨n + 1, by omega, by go_num, by rw [HS.out, H1.out, ← HA.out]; go_num, Hg.out⟩, by simp [intOf]; omega⟩
      · have H1 := hid h1
        go_wp2_with fail
        exact ⟨⟨n + 1, by omega, by go_num, by rw [HS.out, H1.out, ← HA.out]; rfl, Hg.out⟩, by simp [intOf]; omega⟩
    · have hne : n = a.length := by omega
      subst hne
      clear hg
      go_wp2_with fail
      go_ret
      exact ⟨rfl, Hg.out⟩


set_option maxRecDepth 100000 in
theorem Distance_c (a b : List Int) (va vb : Value) (w : World) (ha : Nums [] w .i64 va a) (hb : Nums [] w .i64 vb b) (hl : a.length = b.length) (hl' : a.length ≤ 100) :
    Calls Tryz.prog 51 #[va, vb] w fun e w' => e = .returned (.int .i64 (apN a b a.length : Nat)) ∧ Gr [] w w' := by
  have Ha := hid ha; have Hb := hid hb
  obtain ⟨ao, ac, rfl, ⟨ha1, ha2, -⟩, -⟩ := ha
  obtain ⟨bo, bc, rfl, ⟨hb1, hb2, -⟩, -⟩ := hb
  have Hl := hid hl
  have hne : (((a.length : Nat) : Int) != (b.length : Int)) = false := by rw [hl]; simp
  have heq : (((a.length : Nat) : Int) == (b.length : Int)) = true := by rw [hl]; simp
  clear hl
  go_enter Tryz.func51, Tryz.ntmps51
  go_wp2_with fail
  have hcall := apart_c a b _ _ w Ha.out Hb.out Hl.out hl'
  (with_reducible refine hcall.mono ?_)
  clear hcall
  rintro e w1 ⟨rfl, hg1⟩
  go_wp2_with fail
  go_ret
  exact ⟨rfl, hg1⟩


set_option maxRecDepth 100000 in
theorem specDistance_c (a b : List Int) (va vb : Value) (w : World) (ha : Nums [] w .i64 va a) (hb : Nums [] w .i64 vb b) (hl : a.length = b.length) (hl' : a.length ≤ 100) :
    Calls Tryz.prog 153 #[va, vb] w fun e w' => e = .returned (.int .i64 (apN a b a.length : Nat)) ∧ Gr [] w w' := by
  have Ha := hid ha; have Hb := hid hb
  obtain ⟨ao, ac, rfl, ⟨ha1, ha2, -⟩, -⟩ := ha
  obtain ⟨bo, bc, rfl, ⟨hb1, hb2, -⟩, -⟩ := hb
  have Hl := hid hl
  clear hl
  go_enter Tryz.func153, Tryz.ntmps153
  go_wp2_with fail
  go_loopw [5, 6] (fun s i wr => ∃ n : Nat, n ≤ a.length ∧ i = .int .i64 n ∧ s = .int .i64 (apN a b n : Nat) ∧ Gr [] w wr) (fun _ i _ => a.length - (intOf i).toNat)
  case atStart => exact ⟨0, Nat.zero_le _, rfl, rfl, Gr.refl _ _⟩
  case round =>
    obtain ⟨n, hn, rfl, rfl, hg⟩ := hrel
    have Hg := hid hg
    by_cases hlt : n < a.length
    · obtain ⟨x, hx⟩ := get_some hlt
      obtain ⟨y, hy⟩ := get_some (xs := b) (k := n) (by have := Hl.out; omega)
      have HS := hid (apN_succ hx hy)
      have hle := apN_le a b n
      obtain ⟨b1, o1, e1, -, c1⟩ := (Ha.out.gr hg).at hx
      subst e1
      obtain ⟨b2, o2, e2, -, c2⟩ := (Hb.out.gr hg).at hy
      subst e2
      have hbl : n < b.length := by have := Hl.out; omega
      obtain ⟨A, hA⟩ : ∃ A, A = apN a b n := ⟨_, rfl⟩
      rw [← hA] at hle ⊢
      have HA := hid hA
      clear hx hy hg hA
      cases h1 : (x == y)
      · have H1 := hid h1
        go_wp2_with fail
        go_quiet (fail)
        go_wp2_with fail
        exact ⟨⟨n + 1, by omega, by go_num, by rw [HS.out, H1.out, ← HA.out]; go_num, Hg.out.drewN _⟩, by simp [intOf]; omega⟩
      · have H1 := hid h1
        go_wp2_with fail
        go_quiet (fail)
        go_wp2_with fail
        exact ⟨⟨n + 1, by omega, by go_num, by rw [HS.out, H1.out, ← HA.out]; rfl, Hg.out.drewN _⟩, by simp [intOf]; omega⟩
    · have hne : n = a.length := by omega
      subst hne
      clear hg
      go_wp2_with fail
      go_ret
      exact ⟨rfl, Hg.out⟩


set_option maxRecDepth 100000 in
theorem setOk_c (m : Mod) (x : List Int) (mv v : Value) (w : World) (hm : ModV [] w mv m) (hv : Nums [] w .i64 v x) (hmd : m.doms.length ≤ 100) :
    Calls Tryz.prog 86 #[mv, v] w fun e w' => e = .returned (.bool (frB x m.doms.length)) ∧ Gr [] w w' := by
  have Hv := hid hv
  obtain ⟨xo, xc, co, cc, rfl⟩ := hm.slices
  obtain ⟨vo, vc, rfl, ⟨hx1, hx2, _⟩, _⟩ := hv
  have hg0 : Gr [] w (w.alloc (.cells #[.slice xo m.doms.length xc, .slice co m.cons.length cc] 31)) := (Gr.refl _ _).alloc _
  have hb0 : (w.alloc (.cells #[.slice xo m.doms.length xc, .slice co m.cons.length cc] 31)).heap[w.heap.size]? = some (.cells #[.slice xo m.doms.length xc, .slice co m.cons.length cc] 31 (0, 0)) := heap_alloc_new _ _
  have fl0 := fld hb0
  have Hg0 := hid hg0
  clear hg0 hb0 hm
  by_cases hl : (x.length : Int) ≤ 4
  · have Hl := hid hl
    have hl' : decide ((x.length : Int) ≤ 4) = true := decide_eq_true hl
    clear hl
    go_enter Tryz.func86, Tryz.ntmps86
    go_wp2_with fail
    have hcall := allIn_c x 0 ((m.doms.length : Int) - 1) _ _ (Hv.out.gr Hg0.out)
    (with_reducible refine hcall.mono ?_)
    clear hcall
    rintro e w1 ⟨rfl, hg1⟩
    go_wp2_with fail
    go_ret
    exact ⟨ret_bool (by unfold frB; rw [decide_eq_true Hl.out]; rfl), Hg0.out.trans (by first | exact hg1 | (subst hg1; exact Gr.refl _ _))⟩
  · have Hl := hid hl
    have hl' : decide ((x.length : Int) ≤ 4) = false := decide_eq_false hl
    clear hl
    go_enter Tryz.func86, Tryz.ntmps86
    go_wp2_with fail
    go_ret
    exact ⟨ret_bool (by unfold frB; rw [decide_eq_false (by have := Hl.out; omega)]; rfl), Hg0.out⟩

end Go.Proofs.YtjmjjdgbkibdaaaGreat
