/-
  Walks of generators: some variables, an automaton, domains.
  Walk of the generator of automata.
  What the generator of constraints leaves, and small facts for its walk.
-/
import Derived.Test.YtmonhpoogfdpoaaGreatXFP
import Derived.Test.YtmonhpoogfdpoaaGreatXA
set_option linter.unusedVariables false
namespace Go.Proofs.YtmonhpoogfdpoaaGreat
open Go.RowKit

theorem infoR : (Tryz.prog.info? 23).map (fun i => (i.zero, i.size, i.bytes)) = some (some (.slice none 0 0), 1, 24) := by kernel_rfl
theorem OwnC.take {B : Nat} {w : World} {e : TypeId} {ao : Option Addr} {n cap : Nat} {xs : List Int} (h : Own B w e (.slice ao n cap) xs) (k : Nat) (hk : k ≤ xs.length) : OwnC B w e (.slice ao k cap) (xs.take k) := by
  rcases h.2 with ⟨h1, h2⟩ | ⟨g, cap', cur, e1, h2, h3, h4, h5, h6, h7⟩
  · cases h1
    have : xs = [] := List.eq_nil_of_length_eq_zero h2
    subst this
    exact .inl ⟨by simp at hk; rw [hk], by simp⟩
  · cases e1
    refine .inr ⟨g, cap, cur, by rw [List.length_take, Nat.min_eq_left hk], h2, h3, by rw [List.length_take]; omega, h5, by omega, ?_⟩
    rw [List.length_take, Nat.min_eq_left hk]
    have := congrArg (List.take k) h7
    rw [List.take_take, Nat.min_eq_left (by omega)] at this
    rw [this, List.map_take]

/-- What a generator of numbers leaves. -/
def ListPost (B R : Nat) (bs : List Int) (q : Nat) (Pr : List Int → Prop) (w : World) (e : Ending) (w' : World) : Prop :=
  ∃ v xs, e = .returned v ∧ OwnC B w' 3 v xs ∧ Pr xs ∧ Rd w' R bs q ∧ Gr [R] w w'

theorem vs_cons {xs : List Int} {m : Nat} (h : xs.Nodup ∧ ∀ v ∈ xs, 0 ≤ v ∧ v < (m : Int)) : ([(m : Int)] ++ xs).Nodup ∧ ∀ v ∈ [(m : Int)] ++ xs, 0 ≤ v ∧ v < ((m + 1 : Nat) : Int) := by
  refine ⟨List.nodup_cons.2 ⟨fun hm => by have := h.2 _ hm; omega, h.1⟩, fun v hv => ?_⟩
  rcases List.mem_append.1 hv with hv | hv
  · have := List.mem_singleton.1 hv; omega
  · have := h.2 v hv; omega
theorem vs_snoc {xs : List Int} {m : Nat} (h : xs.Nodup ∧ ∀ v ∈ xs, 0 ≤ v ∧ v < (m : Int)) : (xs ++ [(m : Int)]).Nodup ∧ ∀ v ∈ xs ++ [(m : Int)], 0 ≤ v ∧ v < ((m + 1 : Nat) : Int) := by
  refine ⟨List.nodup_append.2 ⟨h.1, by simp, fun a ha b hb e => by have := h.2 _ ha; have := List.mem_singleton.1 hb; omega⟩, fun v hv => ?_⟩
  rcases List.mem_append.1 hv with hv | hv
  · have := h.2 v hv; omega
  · have := List.mem_singleton.1 hv; omega
theorem vs_take {xs : List Int} {m : Nat} (h : xs.Nodup ∧ ∀ v ∈ xs, 0 ≤ v ∧ v < (m : Int)) (k : Nat) : (xs.take k).Nodup ∧ ∀ v ∈ xs.take k, 0 ≤ v ∧ v < (m : Int) :=
  ⟨(List.take_sublist k xs).nodup h.1, fun v hv => h.2 v (List.mem_of_mem_take hv)⟩

set_option maxHeartbeats 400000 in
theorem someVars_c (R : Nat) (bs : List Int) (q n k : Nat) (w : World) (hr : Rd w R bs q) (hq : q ≤ 100000000) (hn : n ≤ 1000) (hk : k ≤ 100000) :
    Calls Tryz.prog 92 #[.pointer (some ⟨R, 0, none⟩), .int .i64 n, .int .i64 k] w (ListPost w.heap.size R bs (q + n) (fun xs => xs.length = min k n ∧ xs.Nodup ∧ ∀ v ∈ xs, 0 ≤ v ∧ v < (n : Int)) w) := by
  have hRlt := hr.lt
  have Hr := hid hr; clear hr
  go_enter Tryz.func92, Tryz.ntmps92
  go_wp2_with fail
  have hg0 : Gr [R] w (w.alloc (Obj.cells #[] 3)) := (Gr.refl _ _).alloc _
  go_loopw [7, 8] (fun v i wr => ∃ (m : Nat) (xs : List Int), m ≤ n ∧ i = .int .i64 m ∧ Own w.heap.size wr 3 v xs ∧ xs.length = m ∧ (xs.Nodup ∧ ∀ v ∈ xs, 0 ≤ v ∧ v < (m : Int)) ∧ Rd wr R bs (q + m) ∧ Gr [R] w wr) (fun _ i _ => n - (intOf i).toNat)
  case atStart => exact ⟨0, [], by omega, rfl, Own.empty _ _ (Nat.le_refl _), rfl, by simp, Hr.out.gr ((Gr.refl _ _).alloc _), hg0⟩
  case round =>
    obtain ⟨m, xs, hm, rfl, hown, hl, hvs, hrd, hg⟩ := hrel
    have hsz := hg.size
    have Hl := hid hl; have Hvs := hid hvs; clear hl hvs
    by_cases hlt : m < n
    · go_wp2_with fail
      refine (pick_c R bs (q + m) 2 wr hrd (by omega) (by omega)).mono ?_
      rintro e w1 ⟨⟨r, rfl, hr0, hr6⟩, hrd1, hg1⟩
      have hown1 := hown.gr hg1 (by simp; omega)
      have hsz1 := hg1.size
      have Hg1 := hid hg1; clear hg1
      cases hz : (r == 0)
      · have hns := (hown1.nums (S := []) (by simp)).gr ((Gr.refl [] w1).alloc (.cells #[.int .i64 m] 3))
        have Hns := hid hns; clear hns
        have hstart : Own w.heap.size (w1.alloc (.cells #[.int .i64 m] 3)) 3 (.slice (some ⟨w1.heap.size, 0, none⟩) 1 1) [(m : Int)] := by
          refine ⟨by simp, .inr ⟨w1.heap.size, 1, #[.int .i64 m], rfl, by omega, heap_alloc_new _ _, by simp, by simp [maxLen], by simp, by simp⟩⟩
        have Hstart := hid hstart; clear hstart
        go_wp2_with (at_builtin; refine wp_appN rfl _ _ 23 rfl w.heap.size 3 infoInt Tryz.underlying23 _ [(m : Int)] xs rfl Hstart.out _ [] rfl Hns.out (by have := Hl.out; simp; omega) (by simp; omega) ?_; intro v' w2 hown2 hb2)
        refine ⟨⟨m + 1, [(m : Int)] ++ xs, by omega, by go_num, hown2, by rw [List.length_append, Hl.out]; simp; omega, vs_cons Hvs.out, ?_, ?_⟩, by simp [intOf]; omega⟩
        · exact (hrd1.gr ((Gr.refl _ _).alloc _)).low hb2 hRlt
        · exact ((hg.trans Hg1.out).alloc _).low hb2 (Nat.le_refl _)
      · go_wp2_with (at_builtin; refine wp_app1 rfl _ _ 23 rfl w.heap.size 3 infoInt Tryz.underlying23 _ xs rfl (hown1.alloc _) _ 1 m rfl (cell_new _ _ _) (by have := Hl.out; omega) (by simp; omega) ?_; intro v' w2 hown2 hb2)
        refine ⟨⟨m + 1, xs ++ [(m : Int)], by omega, by go_num, hown2, by rw [List.length_append, Hl.out]; rfl, vs_snoc Hvs.out, ?_, ?_⟩, by simp [intOf]; omega⟩
        · exact (hrd1.gr ((Gr.refl _ _).alloc _)).low hb2 hRlt
        · exact ((hg.trans Hg1.out).alloc _).low hb2 (Nat.le_refl _)
    · have hmn : m = n := by omega
      subst hmn
      obtain ⟨vo, vc, rfl, ⟨hv1, _⟩, _⟩ := hown.nums (S := []) (by simp)
      have Hv1 := hid hv1
      have hlx : xs.length = m := Hl.out
      have Hown := hid hown; clear hown
      rw [hlx] at Hown hv1 ⊢
      clear hlx
      by_cases hkm : m < k
      · go_wp2_with fail
        go_ret
        refine ⟨_, xs.take m, rfl, OwnC.take Hown.out m (by rw [Hl.out]; exact Nat.le_refl _), ⟨by show (List.take m xs).length = _; rw [List.length_take, Hl.out]; omega, vs_take Hvs.out m⟩, hrd, hg⟩
      · go_wp2_with fail
        go_ret
        refine ⟨_, xs.take k, rfl, OwnC.take Hown.out k (by rw [Hl.out]; omega), ⟨by show (List.take k xs).length = _; rw [List.length_take, Hl.out], vs_take Hvs.out k⟩, hrd, hg⟩

/-- A number picked in a region. -/
theorem DomainRange_c (lo hi : Int) (w : World) :
    Calls Tryz.prog 66 #[.int .i64 lo, .int .i64 hi] w fun e w' => (∃ d : Int, e = .returned (.int .i64 d) ∧ (0 ≤ d ∧ d ≤ 63)) ∧ w = w' := by
  go_enter Tryz.func66, Tryz.ntmps66
  go_wp2_with fail
  go_loop [5, 6] (fun d i => ∃ n : Nat, n ≤ 6 ∧ i = .int .i64 n ∧ ∃ z : Int, d = .int .i64 z ∧ 0 ≤ z ∧ z ≤ 2 ^ n - 1) (fun _ i => 6 - (intOf i).toNat)
  case atStart => exact ⟨0, by omega, rfl, 0, rfl, by omega, by omega⟩
  case round =>
    obtain ⟨n, hn, rfl, z, rfl, hz0, hz1⟩ := hrel
    by_cases hlt : n < 6
    · have hn5 : n ≤ 5 := by omega
      have hp : (2 : Int) ^ n ≤ 32 ∧ 0 < (2 : Int) ^ n ∧ (2 : Int) ^ (n + 1) = 2 * 2 ^ n := by
        have : n = 0 ∨ n = 1 ∨ n = 2 ∨ n = 3 ∨ n = 4 ∨ n = 5 := by omega
        rcases this with rfl | rfl | rfl | rfl | rfl | rfl <;> decide
      have Hp := hid hp; have Hz := hid (And.intro hz0 hz1)
      clear hp hz0 hz1
      cases h1 : decide (lo ≤ (n : Int))
      · have h1' : (n : Int) < lo := by simpa using h1
        go_wp2_with fail
        refine ⟨⟨n + 1, by omega, by go_num, z, rfl, Hz.out.1, ?_⟩, by simp [intOf]; omega⟩
        have := Hp.out; have := Hz.out; omega
      · have h1' : lo ≤ (n : Int) := by simpa using h1
        cases h2 : decide ((n : Int) ≤ hi)
        · have h2' : hi < (n : Int) := by simpa using h2
          go_wp2_with fail
          refine ⟨⟨n + 1, by omega, by go_num, z, rfl, Hz.out.1, ?_⟩, by simp [intOf]; omega⟩
          have := Hp.out; have := Hz.out; omega
        · have h2' : (n : Int) ≤ hi := by simpa using h2
          go_wp2_with fail
          refine ⟨⟨n + 1, by omega, by go_num, z + 2 ^ n, ?_, ?_, ?_⟩, by simp [intOf]; omega⟩
          · have := Hp.out; have := Hz.out
            rw [IntWalk.wrap64_in (2 ^ n) (by omega), IntWalk.wrap64_in _ (by omega)]
          · have := Hp.out; have := Hz.out; omega
          · have := Hp.out; have := Hz.out; omega
    · have h6 : n = 6 := by omega
      subst h6
      go_wp2_with fail
      go_ret
      exact ⟨⟨z, rfl, hz0, by have : (2 : Int) ^ 6 = 64 := by decide
                              omega⟩, rfl⟩

theorem randomDomain_c (R : Nat) (bs : List Int) (q : Nat) (w : World) (hr : Rd w R bs q) (hq : q ≤ 100000000) :
    Calls Tryz.prog 35 #[.pointer (some ⟨R, 0, none⟩)] w fun e w' => (∃ d : Int, e = .returned (.int .i64 d) ∧ (0 ≤ d ∧ d ≤ 63)) ∧ Rd w' R bs (q + 3) ∧ Gr [R] w w' := by
  go_enter Tryz.func35, Tryz.ntmps35
  go_wp2_with fail
  refine (pick_c R bs q 4 w hr (by omega) (by omega)).mono ?_
  rintro e w1 ⟨⟨r, rfl, hr0, hr4⟩, hrd1, hg1⟩
  cases h0 : (r == 0)
  rotate_left
  · go_wp2_with fail
    go_ret
    exact ⟨⟨63, rfl, by omega, by omega⟩, hrd1.le (by omega), hg1⟩
  cases h1 : (r == 1)
  rotate_left
  · go_wp2_with fail
    refine (pick_c R bs (q + 1) 3 w1 hrd1 (by omega) (by omega)).mono ?_
    rintro e w2 ⟨⟨r2, rfl, hr20, hr24⟩, hrd2, hg2⟩
    go_wp2_with fail
    refine (pick_c R bs (q + 1 + 1) 4 w2 hrd2 (by omega) (by omega)).mono ?_
    rintro e w3 ⟨⟨r3, rfl, hr30, hr34⟩, hrd3, hg3⟩
    go_wp2_with fail
    refine (DomainRange_c _ _ _).mono ?_
    rintro e w4 ⟨⟨d, rfl, hd⟩, rfl⟩
    go_wp2_with fail
    go_ret
    exact ⟨⟨d, rfl, hd⟩, hrd3.le (by omega), (hg1.trans hg2).trans hg3⟩
  cases h2 : (r == 2)
  rotate_left
  · go_wp2_with fail
    refine (pick_c R bs (q + 1) 6 w1 hrd1 (by omega) (by omega)).mono ?_
    rintro e w2 ⟨⟨r2, rfl, hr20, hr24⟩, hrd2, hg2⟩
    obtain ⟨r2, rfl⟩ := Int.eq_ofNat_of_zero_le hr20
    have hr5 : r2 < 6 := by omega
    go_wp2_with fail
    go_ret
    refine ⟨⟨_, rfl, ?_⟩, hrd2.le (by omega), hg1.trans hg2⟩
    have : r2 = 0 ∨ r2 = 1 ∨ r2 = 2 ∨ r2 = 3 ∨ r2 = 4 ∨ r2 = 5 := by omega
    rw [← IntWalk.i64_left]
    rcases this with rfl | rfl | rfl | rfl | rfl | rfl <;> decide +kernel
  · go_wp2_with fail
    refine (pick_c R bs (q + 1) 63 w1 hrd1 (by omega) (by omega)).mono ?_
    rintro e w2 ⟨⟨r2, rfl, hr20, hr24⟩, hrd2, hg2⟩
    go_wp2_with fail
    go_ret
    exact ⟨⟨_, rfl, by omega⟩, hrd2.le (by omega), hg1.trans hg2⟩
end Go.Proofs.YtmonhpoogfdpoaaGreat

namespace Go.Proofs.YtmonhpoogfdpoaaGreat
open Go.RowKit

/-- What a generator of rows leaves. -/
def RowsPost (B R : Nat) (bs : List Int) (q : Nat) (Pr : List (List Int) → Prop) (w : World) (e : Ending) (w' : World) : Prop :=
  ∃ v rows, e = .returned v ∧ OwnG 1 elRow B w' 23 v rows ∧ Pr rows ∧ Rd w' R bs q ∧ Gr [R] w w'

/-- A new block of one row. -/
theorem rowEl {B : Nat} {w : World} {u : Value} {r : List Int} (h : OwnC B w 3 u r) {S : List Nat} (hS : ∀ b ∈ S, b < B ∨ w.heap.size ≤ b) : elRow S w [u] r := ⟨u, rfl, h.nums' hS⟩

set_option maxHeartbeats 1000000 in
theorem randomAutomaton_c (R : Nat) (bs : List Int) (q k : Nat) (w : World) (hr : Rd w R bs q) (hq : q ≤ 100000000) (hk : 1 ≤ k ∧ k ≤ 100) :
    Calls Tryz.prog 94 #[.pointer (some ⟨R, 0, none⟩), .int .i64 k] w (RowsPost w.heap.size R bs (q + 12 * k) (fun rows => rows.length = k ∧ ∀ r ∈ rows, r.length = 6 ∧ ∀ x ∈ r, -1 ≤ x ∧ x ≤ (k : Int) - 1) w) := by
  have hRlt := hr.lt
  have Hr := hid hr; clear hr
  have hk1 := hk.1
  have hk2 := hk.2
  go_enter Tryz.func94, Tryz.ntmps94
  go_wp2_with fail
  have hg0 : Gr [R] w (w.alloc (Obj.cells #[] 23)) := (Gr.refl _ _).alloc _
  go_loopw [5, 6] (fun v i wr => ∃ (m : Nat) (rows : List (List Int)), m ≤ k ∧ i = .int .i64 m ∧ OwnG 1 elRow w.heap.size wr 23 v rows ∧ rows.length = m ∧ (∀ r ∈ rows, r.length = 6 ∧ ∀ x ∈ r, -1 ≤ x ∧ x ≤ (k : Int) - 1) ∧ Rd wr R bs (q + 12 * m) ∧ Gr [R] w wr) (fun _ i _ => k - (intOf i).toNat)
  case atStart =>
    exact ⟨0, [], by omega, rfl, ⟨[], rfl, by simp, World.ownsRow_made w #[] 0 (Nat.le_refl _) (by simp [maxLen]) rfl, by intro i cs x h; simp at h⟩, rfl, by simp, Hr.out.gr ((Gr.refl _ _).alloc _), hg0⟩
  case round =>
    obtain ⟨m, rows, hm, rfl, hown, hl, hrl, hrd, hg⟩ := hrel
    have hsz := hg.size
    have Hl := hid hl; have Hrl := hid hrl; have Hown := hid hown; have Hrd := hid hrd; have Hg := hid hg
    clear hl hrl hown hrd hg
    by_cases hlt : m < k
    · obtain ⟨W, hW⟩ : ∃ W : World, W = wr := ⟨_, rfl⟩
      rw [← hW] at Hown Hrd Hg hsz ⊢
      clear hW
      go_wp2_with fail
      go_loopw [7, 8] (fun v i wi => ∃ (n : Nat) (xs : List Int), n ≤ 6 ∧ i = .int .i64 n ∧ Own W.heap.size wi 3 v xs ∧ xs.length = n ∧ (∀ x ∈ xs, -1 ≤ x ∧ x ≤ 101) ∧ Rd wi R bs (q + 12 * m + 2 * n) ∧ Gr [R] W wi) (fun _ i _ => 6 - (intOf i).toNat)
      case atStart => exact ⟨0, [], by omega, rfl, Own.empty _ _ (Nat.le_refl _), rfl, by simp, Hrd.out.gr ((Gr.refl _ _).alloc _), (Gr.refl _ _).alloc _⟩
      case round =>
        obtain ⟨n, xs, hn, rfl, hown, hxl, hxb, hrd, hg⟩ := hrel
        have Hxl := hid hxl; have Hxb := hid hxb
        clear hxl hxb
        have hszi := hg.size
        by_cases hnl : n < 6
        · have hn5 : n ≤ 5 := by omega
          go_wp2_with fail
          refine (pick_c R bs _ ((k : Int) + 1) wr hrd (by omega) (by omega)).mono ?_
          rintro e w1 ⟨⟨r1, rfl, hr10, hr11⟩, hrd1, hg1⟩
          go_wp2_with fail
          refine (pick_c R bs _ 2 w1 hrd1 (by omega) (by omega)).mono ?_
          rintro e w2 ⟨⟨r2, rfl, hr20, hr21⟩, hrd2, hg2⟩
          have hown2 := (hown.gr hg1 (by simp; omega)).gr hg2 (by simp; omega)
          have hsz1 := hg1.size
          have hsz2 := hg2.size
          have Hg12 := hid (hg1.trans hg2); clear hg1 hg2
          go_wp2_with (at_builtin; refine wp_app1 rfl _ _ 23 rfl W.heap.size 3 infoInt Tryz.underlying23 _ xs rfl (hown2.alloc _) _ 1 (r1 - r2) rfl (cell_new _ _ _) (by have := Hxl.out; omega) (by simp; omega) ?_; intro v' w4 hown4 hb4)
          refine ⟨⟨n + 1, xs ++ [r1 - r2], by omega, by go_num, hown4, by rw [List.length_append, Hxl.out]; rfl, ?_, ?_, ?_⟩, by simp [intOf]; omega⟩
          · intro x hx
            rcases List.mem_append.1 hx with hx | hx
            · exact Hxb.out x hx
            · obtain rfl := List.mem_singleton.1 hx; omega
          · exact ((hrd2.gr ((Gr.refl _ _).alloc _)).low hb4 (by omega)).le (by omega)
          · exact ((hg.trans Hg12.out).alloc _).low hb4 (by omega)
        · have hn6 : n = 6 := by omega
          subst hn6
          obtain ⟨W1, hW1⟩ : ∃ W1 : World, W1 = wr := ⟨_, rfl⟩
          rw [← hW1] at hown hrd hg hszi ⊢
          clear hW1
          obtain ⟨go, gc, rfl, ⟨hgB, hglt⟩, _, _⟩ := hown.open (by rw [Hxl.out]; omega)
          have hx6 := Hxl.out
          have Hown1 := hid hown; have Hrd1 := hid hrd; have Hg1 := hid hg
          clear hown hrd hg
          rw [hx6] at Hown1 ⊢
          have hgc6 : (6 : Nat) ≤ gc := by
            have := (Hown1.out.nums (S := []) (by simp)).len; omega
          clear hx6
          go_wp2_with fail
          go_loopw [9] (fun i wi => ∃ (n : Nat) (xs : List Int), n ≤ 6 ∧ i = .int .i64 n ∧ Own W.heap.size wi 3 (.slice (some ⟨go, 0, none⟩) 6 gc) xs ∧ xs.length = 6 ∧ (∀ x ∈ xs, -1 ≤ x ∧ x ≤ 101) ∧ (∀ (j : Nat) x, j < n → xs[j]? = some x → x ≤ (k : Int) - 1) ∧ Gr [go] W1 wi) (fun i _ => 6 - (intOf i).toNat)
          case atStart => exact ⟨0, xs, by omega, rfl, Hown1.out, Hxl.out, Hxb.out, fun j x hj => absurd hj (by omega), Gr.refl _ _⟩
          case round =>
            obtain ⟨n, ys, hn, rfl, hown, hyl, hyb, hyk, hg⟩ := hrel
            have Hyl := hid hyl; have Hyb := hid hyb; have Hown2 := hid hown; have Hg2 := hid hg; have Hyk := hid hyk
            clear hyl hyb hown hg hyk
            by_cases hnl : n < 6
            · have hn5 : n ≤ 5 := by omega
              obtain ⟨y, hy⟩ := get_some (xs := ys) (k := n) (by rw [Hyl.out]; exact hnl)
              have hyr := Hyb.out y (List.mem_of_getElem? hy)
              obtain ⟨hc1, hc2⟩ := Hown2.out.at hy
              have hset := Hown2.out.set n ((k : Int) - 1) (by rw [Hyl.out]; exact hnl)
              have Hset := hid hset; have HY := hid hy; clear hset hy
              cases hge : decide ((k : Int) ≤ y)
              · have hge' : y < (k : Int) := by simpa using hge
                go_wp2_with fail
                refine ⟨⟨n + 1, ys, by omega, by go_num, Hown2.out, Hyl.out, Hyb.out, fun j x hj hx => ?_, Hg2.out⟩, by simp [intOf]; omega⟩
                by_cases hjn : j = n
                · subst hjn; have h1 := HY.out; rw [hx] at h1; have h2 := Option.some.inj h1; omega
                · exact Hyk.out j x (by omega) hx
              · have hge' : (k : Int) ≤ y := by simpa using hge
                go_wp2_with fail
                refine ⟨⟨n + 1, ys.set n ((k : Int) - 1), by omega, by go_num, Hset.out, by rw [List.length_set, Hyl.out], ?_, fun j x hj hx => ?_, Hg2.out.setCell _ _ (.inl (by simp))⟩, by simp [intOf]; omega⟩
                · intro x hx
                  rcases List.mem_or_eq_of_mem_set hx with h | rfl
                  · exact Hyb.out x h
                  · omega
                · by_cases hjn : j = n
                  · subst hjn
                    rw [List.getElem?_set_self (by rw [Hyl.out]; exact hnl)] at hx
                    have h2 := Option.some.inj hx; omega
                  · rw [List.getElem?_set_ne (fun e => hjn e.symm)] at hx
                    exact Hyk.out j x (by omega) hx
            · have hrd2 : Rd wr R bs (q + 12 * (m + 1)) := by
                have hlow : Below W.heap.size W1 wr := ⟨Hg2.out.os, Hg2.out.tape, Hg2.out.output, Hg2.out.size, fun k hk => Hg2.out.block k (by omega) (by simp; omega)⟩
                exact (Hrd1.out.low hlow (by omega)).le (by omega)
              have hgW : Gr [R] W wr := Hg1.out.step Hg2.out (fun i hi => .inr (by simp at hi; omega))
              have hownR := Hown.out.gr elRow_ok hgW (by simp; omega)
              have hszw := hgW.size
              have hga : Gr [] wr (wr.alloc (.cells #[.slice (some ⟨go, 0, none⟩) 6 gc] 23)) := (Gr.refl _ _).alloc _
              have Hrd2 := hid hrd2; have HgW := hid hgW; have HownR := hid (hownR.gr elRow_ok hga (by simp)); have Hga := hid hga
              have Hel : Hid (∀ S : List Nat, (∀ b ∈ S, b < W.heap.size ∨ (wr.alloc (.cells #[.slice (some ⟨go, 0, none⟩) 6 gc] 23)).heap.size ≤ b) → elRow S (wr.alloc (.cells #[.slice (some ⟨go, 0, none⟩) 6 gc] 23)) [.slice (some ⟨go, 0, none⟩) 6 gc] ys) :=
                hid fun S hS => ⟨_, rfl, (Hown2.out.gr hga (by simp)).nums' hS⟩
              clear hrd2 hgW hownR hga
              go_wp2_with (at_builtin; refine wp_appG rfl _ _ 24 rfl 1 elRow elRow_ok w.heap.size 23 (.slice none 0 0) 24 infoR rfl (by omega) (by omega) Tryz.underlying24 u5 rows rfl HownR.out wr.heap.size 1 ys [.slice (some ⟨go, 0, none⟩) 6 gc] rfl rfl (by simp [Value.oneCell']) (fun j u hj => by rw [fld (heap_alloc_new wr (.cells #[.slice (some ⟨go, 0, none⟩) 6 gc] 23))]; simpa using hj) (fun S hS => Hel.out S fun b hb => (hS b hb).elim (fun h => .inl (by omega)) fun h => h.elim .inr fun h => .inl (by obtain ⟨css, _, _, h3, _⟩ := Hown.out; exact (ownsRow_ownBlock h3 h).2)) (by have := Hl.out; omega) (by simp; omega) ?_; intro v' w5 hown5 hg5)
              have hob : ∀ b, u5.ownBlock = some b → w.heap.size ≤ b ∧ b < W.heap.size := fun b hb => by obtain ⟨css, _, _, h3, _⟩ := Hown.out; exact ownsRow_ownBlock h3 hb
              have hrd5 : Rd w5 R bs (q + 12 * (m + 1)) := by
                have hlow : Below w.heap.size wr w5 := ⟨hg5.os, hg5.tape, hg5.output, by have := hg5.size; simp at this; omega, fun k hk => (hg5.block k (by simp; omega) (fun hm => by have := hob k (by simpa using hm); omega)).trans ((Gr.refl [] wr).alloc (.cells #[.slice (some ⟨go, 0, none⟩) 6 gc] 23) |>.block k (by omega) (by simp))⟩
                exact Hrd2.out.low hlow hRlt
              have hgf : Gr [R] w w5 := ((Hg.out.trans HgW.out).alloc _).step hg5 (fun i hi => .inr (by have := hob i (by simpa using hi); omega))
              refine ⟨⟨m + 1, rows ++ [ys], by omega, by go_num, hown5, by rw [List.length_append, Hl.out]; rfl, ?_, hrd5, hgf⟩, by simp [intOf]; omega⟩
              intro r hr
              rcases List.mem_append.1 hr with hr | hr
              · exact Hrl.out r hr
              · obtain rfl := List.mem_singleton.1 hr
                refine ⟨Hyl.out, fun x hx => ⟨(Hyb.out x hx).1, ?_⟩⟩
                obtain ⟨j, hj⟩ := List.mem_iff_getElem?.1 hx
                exact Hyk.out j x (by have := (List.getElem?_eq_some_iff.1 hj).1; have := Hyl.out; omega) hj
    · go_wp2_with fail
      go_ret
      exact ⟨_, rows, rfl, Hown.out, ⟨by have := Hl.out; omega, Hrl.out⟩, Hrd.out.le (by omega), Hg.out⟩
end Go.Proofs.YtmonhpoogfdpoaaGreat

namespace Go.Proofs.YtmonhpoogfdpoaaGreat
open Go.RowKit

theorem cells_set {w : World} {b : Nat} {cs : Array Value} {t : TypeId} (h : w.heap[b]? = some (.cells cs t (0, 0))) (i : Nat) (v : Value) : (w.setCell ⟨b, i, none⟩ v).heap[b]? = some (.cells (cs.setIfInBounds i v) t (0, 0)) := by
  simp [World.setCell, Array.getElem?_modify, h]
theorem Rd.grS {S : List Nat} {w w' : World} {R : Nat} {bs : List Int} {q : Nat} (h : Rd w R bs q) (hg : Gr S w w') (hS : ∀ s ∈ S, R < s) : Rd w' R bs q :=
  h.low (B := R + 1) ⟨hg.os, hg.tape, hg.output, hg.size, fun k hk => hg.block k (by have := h.lt; omega) (fun hm => by have := hS k hm; omega)⟩ (by omega)
theorem Gr.cell1 (S : List Nat) (w : World) (p : Addr) (v : Value) (h : p.block ∈ S) : Gr S w (w.setCell p v) := (Gr.refl _ _).setCell _ _ (.inl h)

theorem setRow_heap {w : World} {g : Nat} {old cells : Array Value} {t : TypeId} (hg : w.heap[g]? = some (.cells old t (0, 0))) : (w.setRow g cells).heap[g]? = some (.cells cells t (0, 0)) := by
  show (w.heap.modify g _)[g]? = _
  rw [Array.getElem?_modify, if_pos rfl, hg]; rfl
theorem setRow_gr (w : World) (g : Nat) (cells : Array Value) : Gr [g] w (w.setRow g cells) := by
  refine ⟨rfl, rfl, rfl, by simp [World.setRow], fun k _ hk => ?_⟩
  have hk' : ¬ g = k := fun e => hk (by simp [e])
  show (w.heap.modify g _)[k]? = _
  rw [Array.getElem?_modify, if_neg hk']
/-- A struct stored whole into its block. -/
theorem wp_storeRow {P : Program} {ops : Array Oper} {rest : List Oper} {o : Oper} {a : Act} {w : World} {Q : Exit → Act → World → Prop} (hgd : o.guard = none) (ty : TypeId) (x y : Operand) (ho : o.op = .store ty x y)
    (g : Nat) (cells : Array Value) (hx : a.eval x = .pointer (some ⟨g, 0, none⟩)) (hy : a.eval y = .agg cells)
    (t : TypeId) (old : Array Value) (hg : w.heap[g]? = some (.cells old t (0, 0))) (hi : (P.info? ty).map (·.size) = some cells.size)
    (hold : old.size = cells.size) (h1 : cells.all (·.oneCell') = true)
    (h : ∀ w', w'.heap[g]? = some (.cells cells t (0, 0)) → Gr [g] w w' → wpList P ops Q rest (a.put o.dst undef) w') : wpList P ops Q (o :: rest) a w :=
  wpList_store_row hgd ty x y ho g cells hx hy t old hg hi hold h1 (h _ (setRow_heap hg) (setRow_gr _ _ _))
theorem wp_storeT {P : Program} {ops : Array Oper} {rest : List Oper} {a : Act} {w : World} {Q : Exit → Act → World → Prop} {d : Option Tmp} {ty' : TypeId} {pos : String} {after : Array Edge} (ty : TypeId) (i j : Nat)
    (g : Nat) (cells : Array Value) (t : TypeId) (old : Array Value) (hg : w.heap[g]? = some (.cells old t (0, 0)))
    (h1 : (P.info? ty).map (·.size) = some cells.size ∧ a.eval (.tmp i) = .pointer (some ⟨g, 0, none⟩) ∧ a.eval (.tmp j) = .agg cells ∧ old.size = cells.size ∧ cells.all (·.oneCell') = true)
    (h : ∀ w', w'.heap[g]? = some (.cells cells t (0, 0)) → Gr [g] w w' → wpList P ops Q rest (a.put d undef) w') : wpList P ops Q (⟨d, .store ty (.tmp i) (.tmp j), ty', pos, after, none⟩ :: rest) a w :=
  wp_storeRow rfl ty _ _ rfl g cells h1.2.1 h1.2.2.1 t old hg h1.1 h1.2.2.2.1 h1.2.2.2.2 h
theorem someVars2_c (R : Nat) (bs : List Int) (q n : Nat) (w : World) (hr : Rd w R bs q) (hq : q ≤ 100000000) (hn : n ≤ 1000) :
    Calls Tryz.prog 92 #[.pointer (some ⟨R, 0, none⟩), .int .i64 n, .int .i64 2] w (ListPost w.heap.size R bs (q + n) (fun xs => xs.length = min 2 n ∧ xs.Nodup ∧ ∀ v ∈ xs, 0 ≤ v ∧ v < (n : Int)) w) := someVars_c R bs q n 2 w hr hq hn (by omega)
theorem alloc_at (X : World) (o : Obj) (n : Nat) (h : n = X.heap.size) : (X.alloc o).heap[n]? = some o := by subst h; exact heap_alloc_new _ _
theorem OwnC.form {B : Nat} {w : World} {e : TypeId} {v : Value} {xs : List Int} (h : OwnC B w e v xs) : ∃ vo vc, v = .slice vo xs.length vc := by
  rcases h with ⟨h, h2⟩ | ⟨g, cap, cur, h, _⟩
  · subst h2; exact ⟨_, _, h⟩
  · exact ⟨_, _, h⟩
theorem one5 (k b : Int) (x1 x2 x3 : Option Addr) (n1 n2 n3 c1 c2 c3 : Nat) : (#[Value.int .i64 k, .slice x1 n1 c1, .slice x2 n2 c2, .int .i64 b, .slice x3 n3 c3]).all (·.oneCell') = true := by simp [Value.oneCell']
theorem sizeC : (Tryz.prog.info? 26).map (·.size) = some 5 := by kernel_rfl

/-- A list of numbers that lies in blocks from lo on, below hi. -/
def FrI (lo hi : Nat) (w : World) (v : Value) (xs : List Int) : Prop := ∀ S : List Nat, (∀ b ∈ S, b < lo ∨ hi ≤ b) → Nums S w .i64 v xs
def FrR (lo hi : Nat) (w : World) (v : Value) (rows : List (List Int)) : Prop := ∀ S : List Nat, (∀ b ∈ S, b < lo ∨ hi ≤ b) → RowsV S w v rows
theorem OwnC.fr {B : Nat} {w : World} {v : Value} {xs : List Int} {e : TypeId} (h : OwnC B w e v xs) : FrI B w.heap.size w v xs := fun _ hS => h.nums' hS
theorem OwnG.fr {B : Nat} {w : World} {e : TypeId} {v : Value} {rows : List (List Int)} (h : OwnG 1 elRow B w e v rows) : FrR B w.heap.size w v rows := fun _ hS => h.rows hS
theorem FrI.gr {lo hi : Nat} {S : List Nat} {w w' : World} {v : Value} {xs : List Int} (h : FrI lo hi w v xs) (hg : Gr S w w') (hS : ∀ b ∈ S, b < lo ∨ hi ≤ b) : FrI lo hi w' v xs := fun S0 h0 =>
  ((h (S ++ S0) (by intro b hb; rcases List.mem_append.1 hb with hb | hb; exact hS b hb; exact h0 b hb)).gr (hg.sub fun k _ hk => by simp [hk])).sub fun b _ hb => by simp [hb]
theorem FrR.gr {lo hi : Nat} {S : List Nat} {w w' : World} {v : Value} {rows : List (List Int)} (h : FrR lo hi w v rows) (hg : Gr S w w') (hS : ∀ b ∈ S, b < lo ∨ hi ≤ b) : FrR lo hi w' v rows := fun S0 h0 =>
  ((h (S ++ S0) (by intro b hb; rcases List.mem_append.1 hb with hb | hb; exact hS b hb; exact h0 b hb)).gr (hg.sub fun k _ hk => by simp [hk])).sub fun b _ hb => by simp [hb]
theorem FrI.mono {lo hi lo' hi' : Nat} {w : World} {v : Value} {xs : List Int} (h : FrI lo hi w v xs) (h1 : lo' ≤ lo) (h2 : hi ≤ hi') : FrI lo' hi' w v xs := fun S hS => h S fun b hb => (hS b hb).imp (by omega) (by omega)
theorem FrI.nil (lo hi : Nat) (w : World) : FrI lo hi w (.slice none 0 0) [] := fun S _ => ⟨none, 0, rfl, by simp, fun i x hi => by simp at hi⟩
theorem FrR.nil (lo hi : Nat) (w : World) : FrR lo hi w (.slice none 0 0) [] := fun S _ => ⟨none, 0, rfl, by simp, fun i r hi => by simp at hi⟩
/-- A new block of numbers. -/
theorem frI_new {w : World} {g : Nat} {xs : List Int} {t : TypeId} (h : w.heap[g]? = some (.cells (xs.map (Value.int .i64)).toArray t (0, 0))) (hl : xs.length ≤ 1000000) : FrI g (g + 1) w (.slice (some ⟨g, 0, none⟩) xs.length xs.length) xs := fun S hS =>
  ⟨some ⟨g, 0, none⟩, xs.length, rfl, ⟨Nat.le_refl _, by omega, by simp⟩, fun i x hi => ⟨g, 0, rfl, fun hm => by have := hS g hm; omega, by simp [World.cell?, h, hi]⟩⟩

/-- Of small size. -/
structure Tiny (c : Con) : Prop where
  vars : c.vars.length ≤ 100
  args : c.args.length ≤ 100
  rows : c.rows.length ≤ 100
  row : ∀ r ∈ c.rows, r.length ≤ 100
theorem Tiny.small {c : Con} (h : Tiny c) : c.Small := ⟨by have := h.vars; omega, by have := h.args; omega, by have := h.rows; omega, fun r hr => by have := h.row r hr; omega⟩

/-- What a generator of constraints leaves: a constraint in new blocks. -/
def ConPost (B R : Nat) (bs : List Int) (q : Nat) (w : World) (e : Ending) (w' : World) : Prop :=
  ∃ (c : Con) (vo : Option Addr) (vc : Nat) (xo : Option Addr) (xc : Nat) (ro : Option Addr) (rc : Nat),
    e = .returned (.agg #[.int .i64 c.kind, .slice vo c.vars.length vc, .slice xo c.args.length xc, .int .i64 c.bound, .slice ro c.rows.length rc]) ∧
    (∀ S : List Nat, (∀ b ∈ S, b < B ∨ w'.heap.size ≤ b) → ConV S w' (.agg #[.int .i64 c.kind, .slice vo c.vars.length vc, .slice xo c.args.length xc, .int .i64 c.bound, .slice ro c.rows.length rc]) c) ∧
    Tiny c ∧ 1 ≤ c.vars.length ∧ Rd w' R bs q ∧ Gr [R] w w'
theorem conPost_mk {B R : Nat} {bs : List Int} {q : Nat} {w w' : World} {k b : Int} {vars args : List Int} {rows : List (List Int)} {vo xo ro : Option Addr} {vc xc rc l1 h1 l2 h2 l3 h3 : Nat}
    (f1 : FrI l1 h1 w' (.slice vo vars.length vc) vars) (f2 : FrI l2 h2 w' (.slice xo args.length xc) args) (f3 : FrR l3 h3 w' (.slice ro rows.length rc) rows)
    (hb : B ≤ l1 ∧ B ≤ l2 ∧ B ≤ l3) (hh : h1 ≤ w'.heap.size ∧ h2 ≤ w'.heap.size ∧ h3 ≤ w'.heap.size) (ht : Tiny ⟨k, vars, args, b, rows⟩) (hv : 1 ≤ vars.length) (hr : Rd w' R bs q) (hg : Gr [R] w w') :
    ConPost B R bs q w (.returned (.agg #[.int .i64 k, .slice vo vars.length vc, .slice xo args.length xc, .int .i64 b, .slice ro rows.length rc])) w' :=
  ⟨⟨k, vars, args, b, rows⟩, vo, vc, xo, xc, ro, rc, rfl, fun S hS => ⟨_, _, _, rfl, f1 S fun b hb' => (hS b hb').imp (by omega) (by omega), f2 S fun b hb' => (hS b hb').imp (by omega) (by omega), f3 S fun b hb' => (hS b hb').imp (by omega) (by omega)⟩, ht, hv, hr, hg⟩

/-- A constraint that the generator makes, valid for n variables. -/
def ConPostV (n B R : Nat) (bs : List Int) (q : Nat) (w : World) (e : Ending) (w' : World) : Prop :=
  ∃ (c : Con) (vo : Option Addr) (vc : Nat) (xo : Option Addr) (xc : Nat) (ro : Option Addr) (rc : Nat),
    e = .returned (.agg #[.int .i64 c.kind, .slice vo c.vars.length vc, .slice xo c.args.length xc, .int .i64 c.bound, .slice ro c.rows.length rc]) ∧
    (∀ S : List Nat, (∀ b ∈ S, b < B ∨ w'.heap.size ≤ b) → ConV S w' (.agg #[.int .i64 c.kind, .slice vo c.vars.length vc, .slice xo c.args.length xc, .int .i64 c.bound, .slice ro c.rows.length rc]) c) ∧
    Tiny c ∧ 1 ≤ c.vars.length ∧ VC c n ∧ Rd w' R bs q ∧ Gr [R] w w'
theorem ConPostV.c {n B R : Nat} {bs : List Int} {q : Nat} {w : World} {e : Ending} {w' : World} (h : ConPostV n B R bs q w e w') : ConPost B R bs q w e w' := by
  obtain ⟨c, vo, vc, xo, xc, ro, rc, h1, h2, h3, h4, -, h5, h6⟩ := h
  exact ⟨c, vo, vc, xo, xc, ro, rc, h1, h2, h3, h4, h5, h6⟩
theorem conPostV_mk {n B R : Nat} {bs : List Int} {q : Nat} {w w' : World} {k b : Int} {vars args : List Int} {rows : List (List Int)} {vo xo ro : Option Addr} {vc xc rc l1 h1 l2 h2 l3 h3 : Nat}
    (f1 : FrI l1 h1 w' (.slice vo vars.length vc) vars) (f2 : FrI l2 h2 w' (.slice xo args.length xc) args) (f3 : FrR l3 h3 w' (.slice ro rows.length rc) rows)
    (hb : B ≤ l1 ∧ B ≤ l2 ∧ B ≤ l3) (hh : h1 ≤ w'.heap.size ∧ h2 ≤ w'.heap.size ∧ h3 ≤ w'.heap.size) (ht : Tiny ⟨k, vars, args, b, rows⟩) (hv : 1 ≤ vars.length) (hr : Rd w' R bs q) (hg : Gr [R] w w') (hvc : VC ⟨k, vars, args, b, rows⟩ n) :
    ConPostV n B R bs q w (.returned (.agg #[.int .i64 k, .slice vo vars.length vc, .slice xo args.length xc, .int .i64 b, .slice ro rows.length rc])) w' :=
  ⟨⟨k, vars, args, b, rows⟩, vo, vc, xo, xc, ro, rc, rfl, fun S hS => ⟨_, _, _, rfl, f1 S fun b hb' => (hS b hb').imp (by omega) (by omega), f2 S fun b hb' => (hS b hb').imp (by omega) (by omega), f3 S fun b hb' => (hS b hb').imp (by omega) (by omega)⟩, ht, hv, hvc, hr, hg⟩
/-- Variables as the generator lists them. -/
structure VSok (vars : List Int) (n : Nat) : Prop where
  nd : vars.Nodup
  rng : ∀ v ∈ vars, 0 ≤ v ∧ v < (n : Int)
  len : vars.length ≤ n
theorem vc_mk {k b : Int} {vars args : List Int} {rows : List (List Int)} {n : Nat} (hs : VSok vars n) (h4 : n ≤ 4) (h1 : 1 ≤ vars.length) (hf : fitsB ⟨k, vars, args, b, rows⟩ = true) : VC ⟨k, vars, args, b, rows⟩ n :=
  ⟨⟨by have := hs.len; omega, h4⟩, ⟨h1, hs.len⟩, hs.rng, hs.nd, hf⟩
theorem fitsRd1 {vars args : List Int} {b : Int} (h1 : args.length = vars.length) (h2 : ∀ a ∈ args, -9 ≤ a ∧ a ≤ 9) (hb : -999 ≤ b ∧ b ≤ 999) : fitsB ⟨1, vars, args, b, []⟩ = true := by
  rw [fitsB_1 rfl]; unfold argsB eqI; simp only [Bool.and_eq_true, beq_iff_eq]
  exact ⟨⟨⟨by omega, allB_iff.2 h2⟩, inB_iff.2 hb⟩, by simp⟩
theorem fits2 {vars : List Int} {a : Int} (h1 : vars.length = 2) (h2 : -9 ≤ a ∧ a ≤ 9) : fitsB ⟨2, vars, [a], 0, []⟩ = true := by
  rw [fitsB_2 rfl]; unfold argsB eqI; simp only [Bool.and_eq_true, beq_iff_eq]
  exact ⟨⟨⟨by omega, ⟨by simp, allB_iff.2 (by simpa using h2)⟩⟩, trivial⟩, by simp⟩
theorem fits3 {vars : List Int} {k : Int} (h : k = 3 ∨ k = 9) : fitsB ⟨k, vars, [], 0, []⟩ = true := by
  rw [fitsB_3 h]; simp
theorem fits4 {vars args : List Int} (h1 : vars.length = 2) (h2 : 1 ≤ args.length ∧ args.length ≤ 6) (h3 : ∀ a ∈ args, 0 ≤ a ∧ a ≤ 5) : fitsB ⟨4, vars, args, 0, []⟩ = true := by
  rw [fitsB_4 rfl]; simp only [Bool.and_eq_true, beq_iff_eq]
  exact ⟨⟨⟨⟨by omega, inB_iff.2 (by omega)⟩, allB_iff.2 h3⟩, trivial⟩, by simp⟩
theorem rowsIn_mk {rows : List (List Int)} {many lo hi : Int} (h1 : 1 ≤ rows.length ∧ rows.length ≤ 8) (h2 : ∀ r ∈ rows, (r.length : Int) = many ∧ ∀ x ∈ r, lo ≤ x ∧ x ≤ hi) : rowsInB rows many lo hi = true := by
  unfold rowsInB
  rw [Bool.and_eq_true, inB_iff, List.all_eq_true]
  refine ⟨by omega, fun r hr => ?_⟩
  unfold rowOk eqI
  rw [Bool.and_eq_true, beq_iff_eq, allB_iff]
  exact h2 r hr
theorem fits5 {vars : List Int} {rows : List (List Int)} (h1 : 1 ≤ rows.length ∧ rows.length ≤ 8) (h2 : ∀ r ∈ rows, r.length = vars.length ∧ ∀ x ∈ r, 0 ≤ x ∧ x ≤ 5) : fitsB ⟨5, vars, [], 0, rows⟩ = true := by
  rw [fitsB_5 rfl]; simp only [Bool.and_eq_true, beq_iff_eq]
  exact ⟨⟨by simp, trivial⟩, rowsIn_mk h1 fun r hr => ⟨by have := (h2 r hr).1; omega, (h2 r hr).2⟩⟩
theorem fits6 {vars : List Int} {a b : Int} (h1 : 0 ≤ a ∧ a ≤ 5) (h2 : 0 ≤ b ∧ b ≤ 4) : fitsB ⟨6, vars, [a], b, []⟩ = true := by
  rw [fitsB_6 rfl]; unfold argsB eqI; simp only [Bool.and_eq_true, beq_iff_eq]
  exact ⟨⟨⟨by simp, allB_iff.2 (by simpa using h1)⟩, inB_iff.2 h2⟩, by simp⟩
theorem fits7 {vars args : List Int} {b : Int} (h1 : args.length = 2 * vars.length) (h2 : ∀ a ∈ args, 0 ≤ a ∧ a ≤ 9) (hb : 0 ≤ b ∧ b ≤ 9) : fitsB ⟨7, vars, args, b, []⟩ = true := by
  rw [fitsB_7 rfl]; unfold argsB eqI; simp only [Bool.and_eq_true, beq_iff_eq]
  exact ⟨⟨⟨by omega, allB_iff.2 h2⟩, inB_iff.2 hb⟩, by simp⟩
theorem fits8 {vars : List Int} {rows : List (List Int)} (h1 : 1 ≤ rows.length ∧ rows.length ≤ 8) (h2 : ∀ r ∈ rows, r.length = 6 ∧ ∀ x ∈ r, -1 ≤ x ∧ x ≤ (rows.length : Int) - 1) : fitsB ⟨8, vars, [(rows.length : Int) - 1], 0, rows⟩ = true := by
  rw [fitsB_8 rfl]; simp only [Bool.and_eq_true, beq_iff_eq]
  exact ⟨⟨⟨rowsIn_mk h1 fun r hr => ⟨by have := (h2 r hr).1; omega, (h2 r hr).2⟩, by simp [distinctB]⟩, allB_iff.2 (by intro a ha; have := List.mem_singleton.1 ha; omega)⟩, trivial⟩

theorem below_gr {B : Nat} {w w' : World} (h : Below B w w') : Gr (List.range' B (w.heap.size - B)) w w' :=
  ⟨h.os, h.tape, h.output, h.size, fun k hk hm => h.block k (by
    rcases Nat.lt_or_ge k B with h1 | h1
    · exact h1
    · exact absurd (List.mem_range'_1.2 ⟨h1, by omega⟩) hm)⟩
theorem FrI.low {lo hi B : Nat} {w w' : World} {v : Value} {xs : List Int} (h : FrI lo hi w v xs) (hb : Below B w w') (hB : hi ≤ B) : FrI lo hi w' v xs :=
  h.gr (below_gr hb) (fun b hm => by have := List.mem_range'_1.1 hm; omega)
theorem OwnG.ownB {α : Type} {size : Nat} {el : List Nat → World → List Value → α → Prop} {B : Nat} {w : World} {e : TypeId} {v : Value} {xs : List α} (h : OwnG size el B w e v xs) {b : Nat} (hb : v.ownBlock = some b) : B ≤ b ∧ b < w.heap.size :=
  let ⟨_, _, _, h3, _⟩ := h; ownsRow_ownBlock h3 hb
theorem OwnG.below {α : Type} {size : Nat} {el : List Nat → World → List Value → α → Prop} {B : Nat} {w w' : World} {e : TypeId} {v : Value} {xs : List α} (h : OwnG size el B w e v xs) (hg : Gr v.ownBlock.toList w w') (hB : B ≤ w.heap.size) : Below B w w' :=
  ⟨hg.os, hg.tape, hg.output, hg.size, fun k hk => hg.block k (by omega) (fun hm => by have := (h.ownB (b := k) (by simpa using hm)).1; omega)⟩
/-- After an append to a field of the constraint under work. -/
theorem app_end {R : Nat} {bs : List Int} {q lo fi : Nat} {w3 wr w6 w7 : World} {o : Obj} {cs : Array Value} {t : TypeId} {nv vv : Value} {vars : List Int}
    (hL : Gr [R, w3.heap.size] w3 wr) (h6 : Gr [R] wr w6) (hbl : Below (w3.heap.size + 1) (w6.alloc o) w7) (hR : R < lo) (hlo : lo ≤ w3.heap.size)
    (hb6 : w6.heap[w3.heap.size]? = some (.cells cs t (0, 0))) (hrd : Rd w6 R bs q) (hfv : FrI lo w3.heap.size wr vv vars) :
    (w7.setCell ⟨w3.heap.size, fi, none⟩ nv).heap[w3.heap.size]? = some (.cells (cs.setIfInBounds fi nv) t (0, 0)) ∧ Gr [w3.heap.size] w7 (w7.setCell ⟨w3.heap.size, fi, none⟩ nv) ∧ Rd (w7.setCell ⟨w3.heap.size, fi, none⟩ nv) R bs q ∧
      FrI lo w3.heap.size (w7.setCell ⟨w3.heap.size, fi, none⟩ nv) vv vars ∧ Gr [R, w3.heap.size] w3 (w7.setCell ⟨w3.heap.size, fi, none⟩ nv) := by
  have hgs : Gr [w3.heap.size] w7 (w7.setCell ⟨w3.heap.size, fi, none⟩ nv) := Gr.cell1 _ _ _ _ (by simp)
  have ha : Gr [] w6 (w6.alloc o) := (Gr.refl _ _).alloc _
  have hb7 : w7.heap[w3.heap.size]? = some (.cells cs t (0, 0)) := (hbl.block _ (by omega)).trans (ha.obj hb6 (by simp))
  refine ⟨cells_set hb7 _ _, hgs, ?_, ?_, ?_⟩
  · exact ((hrd.gr ha).low hbl (by omega)).grS hgs (by simp; omega)
  · exact (((hfv.gr h6 (by simp; omega)).gr ha (by simp)).low hbl (by omega)).gr hgs (by simp)
  · exact (((hL.trans (h6.sub (by intro k _ h; simp at h ⊢; exact .inl h))).alloc o).low hbl (by omega)).trans (hgs.sub (by intro k _ h; simp at h ⊢; exact .inr h))
end Go.Proofs.YtmonhpoogfdpoaaGreat
