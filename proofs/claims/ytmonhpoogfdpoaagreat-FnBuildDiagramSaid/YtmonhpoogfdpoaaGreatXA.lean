/-
  Walks of the small functions on numbers and lists of numbers.
  Walks of small functions of the reference, and of the weighted sums.
  Walks of the checks on constraints and models.
  Walks of the checks of models, in the program and in the reference.
  Walks of the reader of codes and of the small generators.
-/
import Derived.Test.YtmonhpoogfdpoaaGreatRows
import Derived.Test.YtmonhpoogfdpoaaGreatXLib
import Derived.Deep.QuietTactic
import Derived.BigQuiet
set_option linter.unusedVariables false
namespace Go.Proofs.YtmonhpoogfdpoaaGreat
open Go.RowKit

theorem within_c (n lo hi : Int) (w : World) :
    Calls Tryz.prog 28 #[.int .i64 n, .int .i64 lo, .int .i64 hi] w fun e w' => e = .returned (.bool (inB lo hi n)) ∧ w' = w := by
  go_enter Tryz.func28, Tryz.ntmps28
  go_wp2
  all_goals go_ret
  all_goals exact ⟨ret_bool (by unfold inB; first | (simp [*]; done) | (simp; omega)), rfl⟩

theorem lit_c (n lo hi : Int) (b1 o1 b2 o2 : Nat) (w : World) (h1 : w.cell? ⟨b1, o1, none⟩ = some (.int .i64 lo)) (h2 : w.cell? ⟨b2, o2, none⟩ = some (.int .i64 hi)) :
    Calls Tryz.prog 61 #[.int .i64 n, .pointer (some ⟨b1, o1, none⟩), .pointer (some ⟨b2, o2, none⟩)] w fun e w' => e = .returned (.bool (!inB lo hi n)) ∧ w' = w := by
  go_enter Tryz.func61, Tryz.ntmps61
  go_wp2_with (go_at_call 28; refine (within_c _ _ _ _).mono ?_; rintro e w' ⟨rfl, rfl⟩)
  all_goals go_ret
  all_goals exact ⟨rfl, rfl⟩

theorem idx_c (S : List Nat) (xs : List Int) (p : Int → Bool) (v : Value) (k : Nat) (C : Array Value) (w : World) (hv : Nums S w .i64 v xs) 
    (hk : ∀ args w, (callFunc k args).run Tryz.prog w = .ok (.enter k args) w)
    (hf : ∀ x w1, x ∈ xs → Gr S w w1 → Calls Tryz.prog k (#[.int .i64 x] ++ C) w1 fun e w2 => e = .returned (.bool (p x)) ∧ Gr S w1 w2) :
    Calls Tryz.prog 86 #[v, .func (.func k) #[] C] w fun e w' => (∃ i : Int, e = .returned (.int .i64 i) ∧ (-1 ≤ i ∧ (0 ≤ i ↔ anyB p xs = true) ∧ (0 ≤ i → (∃ x, xs[i.toNat]? = some x ∧ p x = true) ∧ ∀ j x, j < i.toNat → xs[j]? = some x → p x = false))) ∧ Gr S w w' := by
  obtain ⟨ao, cap, rfl, ⟨hlc, hcm, hnil⟩, hc⟩ := hv
  have hlen : xs.length ≤ 9223372036854775807 := by omega
  clear hnil
  have Hf := hid hf; clear hf
  go_enter Tryz.func86, Tryz.ntmps86
  go_wp2
  go_loopw [8] (fun i wr => ∃ n : Nat, n ≤ xs.length ∧ i = .int .i64 n ∧ (∀ j x, j < n → xs[j]? = some x → p x = false) ∧ Gr S w wr) (fun i _ => xs.length - (intOf i).toNat)
  case atStart => exact ⟨0, Nat.zero_le _, rfl, by intro j x hj; omega, Gr.refl _ _⟩
  case round =>
    obtain ⟨n, hn, rfl, hp, hg⟩ := hrel
    have HP := hid hp; clear hp
    by_cases hlt : n < xs.length
    · obtain ⟨x, hx⟩ := get_some hlt
      obtain ⟨b, o, rfl, hs, hcell⟩ := hc n x hx
      have hcell' := hg.cell hcell hs
      have HX := hid hx; clear hx
      have Hc := hid hc; clear hc
      go_wp2_with fail
      refine (Hf.out x _ (List.mem_of_getElem? HX.out) hg).mono ?_
      rintro e w2 ⟨rfl, hg2⟩
      cases hb : p x
      all_goals go_wp2_with fail
      · refine ⟨⟨n + 1, by omega, by go_num, ?_, hg.trans hg2⟩, by simp [intOf]; omega⟩
        intro j y hj hy
        by_cases e : j = n
        · subst e; have := HX.out; simp_all
        · exact HP.out j y (by omega) hy
      · go_ret
        refine ⟨⟨n, rfl, by omega, ⟨fun _ => List.any_eq_true.2 ⟨x, List.mem_of_getElem? HX.out, hb⟩, fun _ => by omega⟩, fun _ => ⟨⟨x, by simpa using HX.out, hb⟩, by simpa using HP.out⟩⟩, hg.trans hg2⟩
    · go_wp2_with fail
      go_ret
      refine ⟨⟨-1, rfl, by omega, ⟨fun h => by omega, fun h => ?_⟩, fun h => by omega⟩, hg⟩
      obtain ⟨x, hx, hp⟩ := List.any_eq_true.1 (show xs.any p = true from h)
      obtain ⟨j, hj, rfl⟩ := List.mem_iff_getElem.1 hx
      have := HP.out j _ (by omega) (List.getElem?_eq_getElem hj)
      simp_all

theorem contains_c (S : List Nat) (xs : List Int) (p : Int → Bool) (v : Value) (k : Nat) (C : Array Value) (w : World) (hv : Nums S w .i64 v xs) 
    (hk : ∀ args w, (callFunc k args).run Tryz.prog w = .ok (.enter k args) w)
    (hf : ∀ x w1, x ∈ xs → Gr S w w1 → Calls Tryz.prog k (#[.int .i64 x] ++ C) w1 fun e w2 => e = .returned (.bool (p x)) ∧ Gr S w1 w2) :
    Calls Tryz.prog 60 #[v, .func (.func k) #[] C] w fun e w' => e = .returned (.bool (anyB p xs)) ∧ Gr S w w' := by
  have Hf := hid hf; clear hf
  have Hk := hid hk; clear hk
  go_enter Tryz.func60, Tryz.ntmps60
  go_wp2_with (go_at_call 86; refine (idx_c S xs p v k C _ hv Hk.out Hf.out).mono ?_; rintro e w' ⟨⟨i, rfl, hi⟩, hg⟩)
  go_ret
  exact ⟨rfl, hg⟩

theorem allIn_c (xs : List Int) (lo hi : Int) (v : Value) (w : World) (hv : Nums [] w .i64 v xs) :
    Calls Tryz.prog 31 #[v, .int .i64 lo, .int .i64 hi] w fun e w' => e = .returned (.bool (allB lo hi xs)) ∧ Gr [] w w' := by
  have hg0 : Gr [] w ((w.alloc (Obj.cells #[Value.int IntKind.i64 lo] 3)).alloc (Obj.cells #[Value.int IntKind.i64 hi] 3)) := ((Gr.refl _ _).alloc _).alloc _
  have hc1 : ((w.alloc (Obj.cells #[Value.int IntKind.i64 lo] 3)).alloc (Obj.cells #[Value.int IntKind.i64 hi] 3)).cell? ⟨w.heap.size, 0, none⟩ = some (.int .i64 lo) := by
    rw [World.cell?_alloc_past _ _ _ (by simp), World.cell?_alloc_at _ _ _ _ rfl]; rfl
  have hc2 : ((w.alloc (Obj.cells #[Value.int IntKind.i64 lo] 3)).alloc (Obj.cells #[Value.int IntKind.i64 hi] 3)).cell? ⟨w.heap.size + 1, 0, none⟩ = some (.int .i64 hi) := by
    rw [World.cell?_alloc_at _ _ _ _ (by simp)]; rfl
  go_enter Tryz.func31, Tryz.ntmps31
  go_wp2_with fail
  refine (contains_c [] xs (fun x => !inB lo hi x) v 61 _ _ (hv.gr hg0) (fun _ _ => by kernel_rfl) ?_).mono ?_
  · intro x w1 _ hg
    refine (lit_c x lo hi _ _ _ _ w1 (hg.cell hc1 (by simp)) (hg.cell hc2 (by simp))).mono ?_
    rintro e w2 ⟨rfl, rfl⟩
    exact ⟨rfl, Gr.refl _ _⟩
  rintro e w1 ⟨rfl, hg1⟩
  go_wp2_with fail
  go_ret
  exact ⟨ret_bool (by unfold allB anyB; rw [List.all_eq_not_any_not]), hg0.trans hg1⟩
end Go.Proofs.YtmonhpoogfdpoaaGreat

namespace Go.Proofs.YtmonhpoogfdpoaaGreat
open Go.RowKit

theorem inRange_c (n lo hi : Int) (w : World) :
    Calls Tryz.prog 49 #[.int .i64 n, .int .i64 lo, .int .i64 hi] w fun e w' => e = .returned (.bool (inB lo hi n)) ∧ w' = w := by
  go_enter Tryz.func49, Tryz.ntmps49
  go_wp2
  all_goals go_ret
  all_goals exact ⟨ret_bool (by unfold inB; first | (simp [*]; done) | (simp; omega)), rfl⟩

theorem allInRange_c (xs : List Int) (lo hi : Int) (v : Value) (w : World) (hv : Nums [] w .i64 v xs) :
    Calls Tryz.prog 50 #[v, .int .i64 lo, .int .i64 hi] w fun e w' => e = .returned (.bool (allB lo hi xs)) ∧ Gr [] w w' := by
  obtain ⟨ao, cap, rfl, ⟨hlc, hcm, _⟩, hc⟩ := hv
  have hlen : xs.length ≤ 9223372036854775807 := by omega
  have Hc := hid hc; clear hc
  go_enter Tryz.func50, Tryz.ntmps50
  go_wp2_with fail
  go_loop [7] (fun i => ∃ n : Nat, n ≤ xs.length ∧ i = .int .i64 n ∧ allB lo hi (xs.drop n) = allB lo hi xs) (fun i => xs.length - (intOf i).toNat)
  case atStart => exact ⟨0, Nat.zero_le _, rfl, rfl⟩
  case round =>
    obtain ⟨n, hn, rfl, hall⟩ := hrel
    have Hall := hid hall; clear hall
    by_cases hlt : n < xs.length
    · obtain ⟨x, hx⟩ := get_some hlt
      obtain ⟨b, o, rfl, _, hcell⟩ := Hc.out n x hx
      have HX := hid (drop_cons hx); clear hx
      go_wp2_with fail
      refine (inRange_c x lo hi _).mono ?_
      rintro e w1 ⟨rfl, rfl⟩
      cases hb : inB lo hi x
      all_goals go_wp2_with fail
      · go_ret
        exact ⟨ret_bool (by have := Hall.out; rw [HX.out] at this; rw [← this]; simp [allB, hb]), Gr.refl _ _⟩
      · refine ⟨⟨n + 1, by omega, by go_num, ?_⟩, by simp [intOf]; omega⟩
        have := Hall.out; rw [HX.out] at this; rw [← this]; simp [allB, hb]
    · go_wp2_with fail
      go_ret
      exact ⟨ret_bool (by have := Hall.out; rw [drop_end (by omega)] at this; rw [← this]; rfl), Gr.refl _ _⟩

/-- The weighted sum, of short lists of small numbers. -/
theorem weighted_c (cs xs : List Int) (va vx : Value) (w : World) (ha : Nums [] w .i64 va cs) (hx : Nums [] w .i64 vx xs) (hl : cs.length ≤ xs.length) (hl' : cs.length ≤ 100000) (hab : Small cs) (hxb : Small xs) :
    Calls Tryz.prog 72 #[va, vx] w fun e w' => e = .returned (.int .i64 (dot cs xs)) ∧ Gr [] w w' := by
  obtain ⟨ao, cap, rfl, _, hc⟩ := ha
  obtain ⟨bo, cap', rfl, ⟨hlc, hcm, _⟩, hd⟩ := hx
  have hlen : xs.length ≤ 9223372036854775807 := by omega
  have Hc := hid hc; have Hd := hid hd; have Hab := hid hab; have Hxb := hid hxb
  clear hc hd hab hxb
  go_enter Tryz.func72, Tryz.ntmps72
  go_wp2_with fail
  go_loop [5, 10] (fun s i => ∃ (n : Nat) (t : Int), n ≤ cs.length ∧ i = .int .i64 n ∧ s = .int .i64 t ∧ (-1000000 * (n : Int) ≤ t ∧ t ≤ 1000000 * (n : Int)) ∧ t + dot (cs.drop n) (xs.drop n) = dot cs xs) (fun _ i => cs.length - (intOf i).toNat)
  case atStart => exact ⟨0, 0, Nat.zero_le _, rfl, rfl, by omega, by simp⟩
  case round =>
    obtain ⟨n, t, hn, rfl, rfl, ht, hdot⟩ := hrel
    have Hdot := hid hdot; clear hdot
    by_cases hlt : n < cs.length
    · obtain ⟨x, hx⟩ := get_some hlt
      obtain ⟨y, hy⟩ := get_some (show n < xs.length by omega)
      obtain ⟨b, o, rfl, _, hcell⟩ := Hc.out n x hx
      obtain ⟨b', o', rfl, _, hcell'⟩ := Hd.out n y hy
      have hmul := mul_bd (Hab.out x (List.mem_of_getElem? hx)) (Hxb.out y (List.mem_of_getElem? hy))
      have HX := hid (drop_cons hx); have HY := hid (drop_cons hy); clear hx hy
      have hnx : n < xs.length := by omega
      go_wp2_with fail
      refine ⟨⟨n + 1, t + x * y, by omega, by go_num, rfl, by omega, ?_⟩, by simp [intOf]; omega⟩
      rw [← Hdot.out, HX.out, HY.out]; simp [dot]; omega
    · go_wp2_with fail
      go_ret
      exact ⟨ret_int (by have := Hdot.out; rw [drop_end (xs := cs) (by omega)] at this; simp [dot] at this; exact this), Gr.refl _ _⟩


end Go.Proofs.YtmonhpoogfdpoaaGreat

namespace Go.Proofs.YtmonhpoogfdpoaaGreat
open Go.RowKit

def anyG {α : Type} (p : α → Bool) (xs : List α) : Bool := xs.any p
def memB (x : Int) (xs : List Int) : Bool := decide (x ∈ xs)

theorem anyG_true {α : Type} {p : α → Bool} {xs : List α} {n : Nat} {x : α} (hx : xs[n]? = some x) (hp : p x = true) : anyG p xs = true := List.any_eq_true.2 ⟨x, List.mem_of_getElem? hx, hp⟩
theorem anyG_false {α : Type} {p : α → Bool} {xs : List α} (h : ∀ (j : Nat) x, j < xs.length → xs[j]? = some x → p x = false) : anyG p xs = false := by
  unfold anyG
  rw [List.any_eq_false]
  intro x hx
  obtain ⟨j, hj, rfl⟩ := List.mem_iff_getElem.1 hx
  rw [h j _ hj (List.getElem?_eq_getElem hj)]
  simp
theorem below_snoc {α : Type} {p : α → Bool} {xs : List α} {n : Nat} {x : α} (h : ∀ (j : Nat) y, j < n → xs[j]? = some y → p y = false) (hx : xs[n]? = some x) (hp : p x = false) :
    ∀ (j : Nat) y, j < n + 1 → xs[j]? = some y → p y = false := by
  intro j y hj hy
  by_cases e : j = n
  · subst e; rw [hx] at hy; cases hy; exact hp
  · exact h j y (by omega) hy

/-- slices.IndexFunc over constraints. -/
theorem idxCon_c (cs : List Con) (p : Con → Bool) (v : Value) (k : Nat) (C : Array Value) (w : World) (hv : ConsV [] w v cs)
    (hk : ∀ args w, (callFunc k args).run Tryz.prog w = .ok (.enter k args) w)
    (hf : ∀ c cv w1, c ∈ cs → Gr [] w w1 → ConV [] w1 cv c → Calls Tryz.prog k (#[cv] ++ C) w1 fun e w2 => e = .returned (.bool (p c)) ∧ Gr [] w1 w2) :
    Calls Tryz.prog 87 #[v, .func (.func k) #[] C] w fun e w' => (∃ i : Int, e = .returned (.int .i64 i) ∧ (0 ≤ i ↔ anyG p cs = true)) ∧ Gr [] w w' := by
  obtain ⟨ao, cap, rfl, ⟨hlc, hcm, _⟩, hc⟩ := hv
  have hlen : cs.length ≤ 9223372036854775807 := by omega
  have Hf := hid hf; clear hf
  have Hc := hid hc; clear hc
  go_enter Tryz.func87, Tryz.ntmps87
  go_wp2_with fail
  go_loopw [8] (fun i wr => ∃ n : Nat, n ≤ cs.length ∧ i = .int .i64 n ∧ (∀ (j : Nat) x, j < n → cs[j]? = some x → p x = false) ∧ Gr [] w wr) (fun i _ => cs.length - (intOf i).toNat)
  case atStart => exact ⟨0, Nat.zero_le _, rfl, by intro j x hj; omega, Gr.refl _ _⟩
  case round =>
    obtain ⟨n, hn, rfl, hp, hg⟩ := hrel
    have HP := hid hp; clear hp
    by_cases hlt : n < cs.length
    · obtain ⟨c, hx⟩ := get_some hlt
      obtain ⟨b, o, vv, av, rv, rfl, hs, ⟨h0, h1, h2, h3, h4⟩, hvv, hav, hrv⟩ := (Hc.out.gr hg) n c hx
      have HX := hid hx; clear hx
      have hcon : ConV [] wr (.agg #[.int .i64 c.kind, vv, av, .int .i64 c.bound, rv]) c := ⟨vv, av, rv, rfl, hvv, hav, hrv⟩
      have Hcon := hid hcon; clear hcon hvv hav hrv
      go_wp2_with fail
      refine (Hf.out c _ _ (List.mem_of_getElem? HX.out) hg Hcon.out).mono ?_
      rintro e w2 ⟨rfl, hg2⟩
      cases hb : p c
      all_goals go_wp2_with fail
      · exact ⟨⟨n + 1, by omega, by go_num, below_snoc HP.out HX.out hb, hg.trans hg2⟩, by simp [intOf]; omega⟩
      · go_ret
        exact ⟨⟨n, rfl, ⟨fun _ => anyG_true HX.out hb, fun _ => by omega⟩⟩, hg.trans hg2⟩
    · go_wp2_with fail
      go_ret
      refine ⟨⟨-1, rfl, ⟨fun h => by omega, fun h => ?_⟩⟩, hg⟩
      rw [anyG_false (fun j x hj => HP.out j x (by omega))] at h; cases h

theorem containsCon_c (cs : List Con) (p : Con → Bool) (v : Value) (k : Nat) (C : Array Value) (w : World) (hv : ConsV [] w v cs)
    (hk : ∀ args w, (callFunc k args).run Tryz.prog w = .ok (.enter k args) w)
    (hf : ∀ c cv w1, c ∈ cs → Gr [] w w1 → ConV [] w1 cv c → Calls Tryz.prog k (#[cv] ++ C) w1 fun e w2 => e = .returned (.bool (p c)) ∧ Gr [] w1 w2) :
    Calls Tryz.prog 62 #[v, .func (.func k) #[] C] w fun e w' => e = .returned (.bool (anyG p cs)) ∧ Gr [] w w' := by
  have Hf := hid hf; clear hf
  have Hk := hid hk; clear hk
  go_enter Tryz.func62, Tryz.ntmps62
  go_wp2_with fail
  refine (idxCon_c cs p v k C _ hv Hk.out Hf.out).mono ?_
  rintro e w' ⟨⟨i, rfl, hi⟩, hg⟩
  have Hi := hid hi; clear hi
  go_wp2_with fail
  go_ret
  exact ⟨ret_bool (by rw [Bool.eq_iff_iff, ← Hi.out]; simp), hg⟩

/-- slices.IndexFunc over rows. -/
theorem idxRow_c (cs : List (List Int)) (p : List Int → Bool) (v : Value) (k : Nat) (C : Array Value) (w : World) (hv : RowsV [] w v cs)
    (hk : ∀ args w, (callFunc k args).run Tryz.prog w = .ok (.enter k args) w)
    (hf : ∀ c cv w1, c ∈ cs → Gr [] w w1 → Nums [] w1 .i64 cv c → Calls Tryz.prog k (#[cv] ++ C) w1 fun e w2 => e = .returned (.bool (p c)) ∧ Gr [] w1 w2) :
    Calls Tryz.prog 59 #[v, .func (.func k) #[] C] w fun e w' => (∃ i : Int, e = .returned (.int .i64 i) ∧ (0 ≤ i ↔ anyG p cs = true)) ∧ Gr [] w w' := by
  obtain ⟨ao, cap, rfl, ⟨hlc, hcm, _⟩, hc⟩ := hv
  have hlen : cs.length ≤ 9223372036854775807 := by omega
  have Hf := hid hf; clear hf
  have Hc := hid hc; clear hc
  go_enter Tryz.func59, Tryz.ntmps59
  go_wp2_with fail
  go_loopw [8] (fun i wr => ∃ n : Nat, n ≤ cs.length ∧ i = .int .i64 n ∧ (∀ (j : Nat) x, j < n → cs[j]? = some x → p x = false) ∧ Gr [] w wr) (fun i _ => cs.length - (intOf i).toNat)
  case atStart => exact ⟨0, Nat.zero_le _, rfl, by intro j x hj; omega, Gr.refl _ _⟩
  case round =>
    obtain ⟨n, hn, rfl, hp, hg⟩ := hrel
    have HP := hid hp; clear hp
    by_cases hlt : n < cs.length
    · obtain ⟨c, hx⟩ := get_some hlt
      obtain ⟨b, o, cv, rfl, hs, h0, hcv⟩ := (Hc.out.gr hg) n c hx
      have HX := hid hx; clear hx
      have Hcv := hid hcv; clear hcv
      go_wp2_with fail
      refine (Hf.out c _ _ (List.mem_of_getElem? HX.out) hg Hcv.out).mono ?_
      rintro e w2 ⟨rfl, hg2⟩
      cases hb : p c
      all_goals go_wp2_with fail
      · exact ⟨⟨n + 1, by omega, by go_num, below_snoc HP.out HX.out hb, hg.trans hg2⟩, by simp [intOf]; omega⟩
      · go_ret
        exact ⟨⟨n, rfl, ⟨fun _ => anyG_true HX.out hb, fun _ => by omega⟩⟩, hg.trans hg2⟩
    · go_wp2_with fail
      go_ret
      refine ⟨⟨-1, rfl, ⟨fun h => by omega, fun h => ?_⟩⟩, hg⟩
      rw [anyG_false (fun j x hj => HP.out j x (by omega))] at h; cases h

theorem containsRow_c (cs : List (List Int)) (p : List Int → Bool) (v : Value) (k : Nat) (C : Array Value) (w : World) (hv : RowsV [] w v cs)
    (hk : ∀ args w, (callFunc k args).run Tryz.prog w = .ok (.enter k args) w)
    (hf : ∀ c cv w1, c ∈ cs → Gr [] w w1 → Nums [] w1 .i64 cv c → Calls Tryz.prog k (#[cv] ++ C) w1 fun e w2 => e = .returned (.bool (p c)) ∧ Gr [] w1 w2) :
    Calls Tryz.prog 29 #[v, .func (.func k) #[] C] w fun e w' => e = .returned (.bool (anyG p cs)) ∧ Gr [] w w' := by
  have Hf := hid hf; clear hf
  have Hk := hid hk; clear hk
  go_enter Tryz.func29, Tryz.ntmps29
  go_wp2_with fail
  refine (idxRow_c cs p v k C _ hv Hk.out Hf.out).mono ?_
  rintro e w' ⟨⟨i, rfl, hi⟩, hg⟩
  have Hi := hid hi; clear hi
  go_wp2_with fail
  go_ret
  exact ⟨ret_bool (by rw [Bool.eq_iff_iff, ← Hi.out]; simp), hg⟩

theorem indexInt_c (xs : List Int) (y : Int) (v : Value) (w : World) (hv : Nums [] w .i64 v xs) :
    Calls Tryz.prog 44 #[v, .int .i64 y] w fun e w' => (∃ i : Int, e = .returned (.int .i64 i) ∧ (0 ≤ i ↔ memB y xs = true)) ∧ Gr [] w w' := by
  obtain ⟨ao, cap, rfl, ⟨hlc, hcm, _⟩, hc⟩ := hv
  have hlen : xs.length ≤ 9223372036854775807 := by omega
  have Hc := hid hc; clear hc
  go_enter Tryz.func44, Tryz.ntmps44
  go_wp2_with fail
  go_loop [8] (fun i => ∃ n : Nat, n ≤ xs.length ∧ i = .int .i64 n ∧ (∀ (j : Nat) x, j < n → xs[j]? = some x → eqI y x = false)) (fun i => xs.length - (intOf i).toNat)
  case atStart => exact ⟨0, Nat.zero_le _, rfl, by intro j x hj; omega⟩
  case round =>
    obtain ⟨n, hn, rfl, hp⟩ := hrel
    have HP := hid hp; clear hp
    by_cases hlt : n < xs.length
    · obtain ⟨x, hx⟩ := get_some hlt
      obtain ⟨b, o, rfl, _, h0⟩ := Hc.out n x hx
      have HX := hid hx; clear hx
      cases hb : (y == x)
      · go_wp2_with fail
        exact ⟨⟨n + 1, by omega, by go_num, below_snoc HP.out HX.out (by simpa [eqI] using hb)⟩, by simp [intOf]; omega⟩
      · have hyx : y = x := by simpa using hb
        have hm : memB y xs = true := by rw [hyx]; simpa [memB] using List.mem_of_getElem? HX.out
        have Hm := hid hm; clear hm
        clear hyx
        go_wp2_with fail
        go_ret
        exact ⟨⟨n, rfl, ⟨fun _ => Hm.out, fun _ => by omega⟩⟩, Gr.refl _ _⟩
    · go_wp2_with fail
      go_ret
      refine ⟨⟨-1, rfl, ⟨fun h => by omega, fun h => ?_⟩⟩, Gr.refl _ _⟩
      have hm : y ∈ xs := by simpa [memB] using h
      obtain ⟨j, hj, e⟩ := List.mem_iff_getElem.1 hm
      have := HP.out j _ (by omega) (List.getElem?_eq_getElem hj)
      simp [eqI, e] at this

theorem containsInt_c (xs : List Int) (y : Int) (v : Value) (w : World) (hv : Nums [] w .i64 v xs) :
    Calls Tryz.prog 43 #[v, .int .i64 y] w fun e w' => e = .returned (.bool (memB y xs)) ∧ Gr [] w w' := by
  go_enter Tryz.func43, Tryz.ntmps43
  go_wp2_with fail
  refine (indexInt_c xs y v w hv).mono ?_
  rintro e w' ⟨⟨i, rfl, hi⟩, hg⟩
  have Hi := hid hi; clear hi
  go_wp2_with fail
  go_ret
  exact ⟨ret_bool (by rw [Bool.eq_iff_iff, ← Hi.out]; simp), hg⟩

theorem Cells.take {S : List Nat} {w : World} {k : IntKind} {ao : Option Addr} {xs : List Int} (h : Cells S w k ao xs) (n : Nat) : Cells S w k ao (xs.take n) := by
  intro i x hi
  rw [List.getElem?_take] at hi
  split at hi
  · exact h i x hi
  · cases hi
theorem nodup_of {xs : List Int} (h : ∀ (j : Nat) x, j < xs.length → xs[j]? = some x → memB x (xs.take j) = false) : distinctB xs = true := by
  unfold distinctB
  rw [decide_eq_true_eq]
  rw [List.nodup_iff_pairwise_ne, List.pairwise_iff_getElem]
  intro i j hi hj hij e
  have := h j xs[j] hj (List.getElem?_eq_getElem hj)
  simp only [memB, decide_eq_false_iff_not] at this
  exact this (List.mem_take_iff_getElem.2 ⟨i, by omega, e⟩)
theorem not_nodup {xs : List Int} {j : Nat} {x : Int} (hx : xs[j]? = some x) (h : memB x (xs.take j) = true) : distinctB xs = false := by
  unfold distinctB
  rw [decide_eq_false_iff_not, List.nodup_iff_pairwise_ne, List.pairwise_iff_getElem]
  intro hp
  simp only [memB, decide_eq_true_eq] at h
  obtain ⟨i, hi, e⟩ := List.mem_take_iff_getElem.1 h
  obtain ⟨hj, rfl⟩ := List.getElem?_eq_some_iff.1 hx
  exact hp i j (by omega) hj (by omega) e

theorem distinct_c (xs : List Int) (v : Value) (w : World) (hv : Nums [] w .i64 v xs) :
    Calls Tryz.prog 38 #[v] w fun e w' => e = .returned (.bool (distinctB xs)) ∧ Gr [] w w' := by
  obtain ⟨ao, cap, rfl, ⟨hlc, hcm, _⟩, hc⟩ := hv
  have hlen : xs.length ≤ 9223372036854775807 := by omega
  have Hc := hid hc; clear hc
  go_enter Tryz.func38, Tryz.ntmps38
  go_wp2_with fail
  go_loopw [7] (fun i wr => ∃ n : Nat, n ≤ xs.length ∧ i = .int .i64 n ∧ (∀ (j : Nat) x, j < n → xs[j]? = some x → memB x (xs.take j) = false) ∧ Gr [] w wr) (fun i _ => xs.length - (intOf i).toNat)
  case atStart => exact ⟨0, Nat.zero_le _, rfl, by intro j x hj; omega, Gr.refl _ _⟩
  case round =>
    obtain ⟨n, hn, rfl, hp, hg⟩ := hrel
    have HP := hid hp; clear hp
    by_cases hlt : n < xs.length
    · obtain ⟨x, hx⟩ := get_some hlt
      have hcr := Hc.out.gr hg
      obtain ⟨b, o, rfl, _, h0⟩ := hcr n x hx
      have hnums : Nums [] wr .i64 (.slice (some ⟨b, o, none⟩) n cap) (xs.take n) := ⟨_, cap, by rw [List.length_take]; congr 1; omega, ⟨by rw [List.length_take]; omega, hcm, by simp⟩, hcr.take n⟩
      have HX := hid hx; have Hnums := hid hnums; clear hx hcr hnums
      have hnc : n ≤ cap := by omega
      go_wp2_with fail
      refine (containsInt_c (xs.take n) x _ _ Hnums.out).mono ?_
      rintro e w2 ⟨rfl, hg2⟩
      cases hb : memB x (xs.take n)
      all_goals go_wp2_with fail
      · refine ⟨⟨n + 1, by omega, by go_num, ?_, hg.trans hg2⟩, by simp [intOf]; omega⟩
        intro j y hj hy
        by_cases e : j = n
        · subst e; rw [HX.out] at hy; cases hy; exact hb
        · exact HP.out j y (by omega) hy
      · go_ret
        exact ⟨ret_bool (not_nodup HX.out hb).symm, hg.trans hg2⟩
    · go_wp2_with fail
      go_ret
      exact ⟨ret_bool (nodup_of (fun j x hj => HP.out j x (by omega))).symm, hg⟩
end Go.Proofs.YtmonhpoogfdpoaaGreat

namespace Go.Proofs.YtmonhpoogfdpoaaGreat
open Go.RowKit

theorem domainsOk_c (xs : List Int) (v : Value) (w : World) (hv : Nums [] w .i64 v xs) :
    Calls Tryz.prog 16 #[v] w fun e w' => e = .returned (.bool (domsOk xs)) ∧ Gr [] w w' := by
  have Hv := hid hv
  obtain ⟨ao, cap, rfl, ⟨hlc, hcm, _⟩, hc⟩ := hv
  clear hc
  go_enter Tryz.func16, Tryz.ntmps16
  go_wp2_with fail
  refine (within_c _ _ _ _).mono ?_
  rintro e w1 ⟨rfl, rfl⟩
  cases hb : inB 1 4 xs.length
  · go_wp2_with fail
    go_ret
    exact ⟨ret_bool (by simp [domsOk, hb]), Gr.refl _ _⟩
  · go_wp2_with fail
    refine (allIn_c xs 0 63 _ _ Hv.out).mono ?_
    rintro e w2 ⟨rfl, hg2⟩
    go_wp2_with fail
    go_ret
    exact ⟨ret_bool (by simp [domsOk, hb]), hg2⟩

/-- The closure of rowsIn. -/
theorem rowsInLit_c (r : List Int) (many lo hi : Int) (v : Value) (b1 b2 b3 : Nat) (w : World) (hv : Nums [] w .i64 v r)
    (h1 : w.cell? ⟨b1, 0, none⟩ = some (.int .i64 many)) (h2 : w.cell? ⟨b2, 0, none⟩ = some (.int .i64 lo)) (h3 : w.cell? ⟨b3, 0, none⟩ = some (.int .i64 hi)) :
    Calls Tryz.prog 95 #[v, .pointer (some ⟨b1, 0, none⟩), .pointer (some ⟨b2, 0, none⟩), .pointer (some ⟨b3, 0, none⟩)] w fun e w' => e = .returned (.bool (!rowOk many lo hi r)) ∧ Gr [] w w' := by
  have Hv := hid hv
  obtain ⟨ao, cap, rfl, ⟨hlc, hcm, _⟩, hc⟩ := hv
  clear hc
  cases hb : ((r.length : Int) != many)
  · have he : eqI r.length many = true := by simpa [eqI] using hb
    go_enter Tryz.func95, Tryz.ntmps95
    go_wp2_with fail
    refine (allIn_c r lo hi _ _ Hv.out).mono ?_
    rintro e w2 ⟨rfl, hg2⟩
    go_wp2_with fail
    go_ret
    exact ⟨ret_bool (by simp [rowOk, he]), hg2⟩
  · have he : eqI r.length many = false := by simpa [eqI] using hb
    go_enter Tryz.func95, Tryz.ntmps95
    go_wp2_with fail
    go_ret
    exact ⟨ret_bool (by simp [rowOk, he]), Gr.refl _ _⟩

theorem cell_new3 (w : World) (x y z : Value) (t : TypeId) : (((w.alloc (.cells #[x] t)).alloc (.cells #[y] t)).alloc (.cells #[z] t)).cell? ⟨w.heap.size, 0, none⟩ = some x ∧
    (((w.alloc (.cells #[x] t)).alloc (.cells #[y] t)).alloc (.cells #[z] t)).cell? ⟨w.heap.size + 1, 0, none⟩ = some y ∧ (((w.alloc (.cells #[x] t)).alloc (.cells #[y] t)).alloc (.cells #[z] t)).cell? ⟨w.heap.size + 1 + 1, 0, none⟩ = some z := by
  refine ⟨?_, ?_, ?_⟩
  · rw [World.cell?_alloc_past _ _ _ (by simp; omega), World.cell?_alloc_past _ _ _ (by simp), World.cell?_alloc_at _ _ _ _ rfl]; rfl
  · rw [World.cell?_alloc_past _ _ _ (by simp), World.cell?_alloc_at _ _ _ _ (by simp)]; rfl
  · rw [World.cell?_alloc_at _ _ _ _ (by simp)]; rfl

theorem rowsIn_c (rows : List (List Int)) (many lo hi : Int) (v : Value) (w : World) (hv : RowsV [] w v rows) :
    Calls Tryz.prog 71 #[v, .int .i64 many, .int .i64 lo, .int .i64 hi] w fun e w' => e = .returned (.bool (rowsInB rows many lo hi)) ∧ Gr [] w w' := by
  obtain ⟨h1, h2, h3⟩ := cell_new3 w (.int .i64 many) (.int .i64 lo) (.int .i64 hi) 3
  have hg0 : Gr [] w (((w.alloc (.cells #[.int .i64 many] 3)).alloc (.cells #[.int .i64 lo] 3)).alloc (.cells #[.int .i64 hi] 3)) := (((Gr.refl _ _).alloc _).alloc _).alloc _
  have Hv := hid (hv.gr hg0)
  obtain ⟨ao, cap, rfl, ⟨hlc, hcm, _⟩, hc⟩ := hv
  clear hc
  go_enter Tryz.func71, Tryz.ntmps71
  go_wp2_with fail
  refine (within_c _ _ _ _).mono ?_
  rintro e w1 ⟨rfl, rfl⟩
  cases hb : inB 1 8 rows.length
  · go_wp2_with fail
    go_ret
    exact ⟨ret_bool (by simp [rowsInB, hb]), hg0⟩
  · go_wp2_with fail
    refine (containsRow_c rows (fun r => !rowOk many lo hi r) _ 95 _ _ Hv.out (fun _ _ => by kernel_rfl) ?_).mono ?_
    · intro r rv w2 _ hg2 hr
      exact rowsInLit_c r many lo hi rv _ _ _ w2 hr (hg2.cell h1 (by simp)) (hg2.cell h2 (by simp)) (hg2.cell h3 (by simp))
    rintro e w2 ⟨rfl, hg2⟩
    go_wp2_with fail
    go_ret
    exact ⟨ret_bool (by simp only [rowsInB, hb, anyG, Bool.true_and]; rw [List.all_eq_not_any_not]), hg0.trans hg2⟩

/-- The closure of fits: block b holds the constraint. -/
theorem fitsLit_c (c : Con) (vv av rv : Value) (many lo hi : Int) (b : Nat) (w : World) (hb : w.heap[b]? = some (.cells #[.int .i64 c.kind, vv, av, .int .i64 c.bound, rv] 26 (0, 0))) (ha : Nums [] w .i64 av c.args) :
    Calls Tryz.prog 70 #[.int .i64 many, .int .i64 lo, .int .i64 hi, .pointer (some ⟨b, 0, none⟩)] w fun e w' => e = .returned (.bool (argsB c many lo hi)) ∧ Gr [] w w' := by
  have hf := fld hb
  clear hb
  have Ha := hid ha
  obtain ⟨ao, cap, rfl, ⟨hlc, hcm, _⟩, hc⟩ := ha
  clear hc
  cases hb : ((c.args.length : Int) == many)
  · have he : eqI c.args.length many = false := by simpa [eqI] using hb
    go_enter Tryz.func70, Tryz.ntmps70
    go_wp2_with fail
    go_ret
    exact ⟨ret_bool (by simp [argsB, he]), Gr.refl _ _⟩
  · have he : eqI c.args.length many = true := by simpa [eqI] using hb
    go_enter Tryz.func70, Tryz.ntmps70
    go_wp2_with fail
    refine (allIn_c c.args lo hi _ _ Ha.out).mono ?_
    rintro e w2 ⟨rfl, hg2⟩
    go_wp2_with fail
    go_ret
    exact ⟨ret_bool (by simp [argsB, he]), hg2⟩
end Go.Proofs.YtmonhpoogfdpoaaGreat

namespace Go.Proofs.YtmonhpoogfdpoaaGreat
open Go.RowKit

/-- The reader: block R holds the code and the position, which is at most q. -/
def Rd (w : World) (R : Nat) (bs : List Int) (q : Nat) : Prop :=
  ∃ (ao : Option Addr) (cap p : Nat), w.heap[R]? = some (.cells #[.slice ao bs.length cap, .int .i64 p] 71 (0, 0)) ∧ Cells [R] w .u8 ao bs ∧ (∀ a, ao = some a → 0 < bs.length → a.block < R) ∧ p ≤ q ∧ bs.length ≤ 2000 ∧ ∀ b ∈ bs, 0 ≤ b ∧ b ≤ 255

theorem two_set1 {w : World} {b : Nat} {u v : Value} {t : TypeId} (h : w.heap[b]? = some (.cells #[u, v] t (0, 0))) (v' : Value) : (w.setCell ⟨b, 1, none⟩ v').heap[b]? = some (.cells #[u, v'] t (0, 0)) := by
  simp [World.setCell, Array.getElem?_modify, h]

theorem Rd.moved {w : World} {R : Nat} {bs : List Int} {q p cap : Nat} {ao : Option Addr} (hR : w.heap[R]? = some (.cells #[.slice ao bs.length cap, .int .i64 (p : Nat)] 71 (0, 0))) (hn : Cells [R] w .u8 ao bs) (hb : ∀ a, ao = some a → 0 < bs.length → a.block < R) (hp : p ≤ q) (hl : bs.length ≤ 2000) (h : ∀ b ∈ bs, 0 ≤ b ∧ b ≤ 255) :
    Rd (w.setCell ⟨R, 1, none⟩ (.int .i64 ((p : Int) + 1))) R bs (q + 1) :=
  ⟨ao, cap, p + 1, by rw [two_set1 hR]; rfl, hn.gr ((Gr.refl _ _).setCell _ _ (by simp)), hb, by omega, hl, h⟩
theorem Rd.gr {w w' : World} {R : Nat} {bs : List Int} {q : Nat} (h : Rd w R bs q) (hg : Gr [] w w') : Rd w' R bs q :=
  let ⟨ao, cap, p, hR, hn, hb, hp, hl, h⟩ := h; ⟨ao, cap, p, hg.obj hR (by simp), hn.gr hg.any, hb, hp, hl, h⟩
theorem Rd.low {B : Nat} {w w' : World} {R : Nat} {bs : List Int} {q : Nat} (h : Rd w R bs q) (hg : Below B w w') (hB : R < B) : Rd w' R bs q :=
  let ⟨ao, cap, p, hR, hn, hb, hp, hl, h⟩ := h; ⟨ao, cap, p, (hg.block R hB).trans hR, hn.low hg (fun a ha h0 => Nat.lt_trans (hb a ha h0) hB), hb, hp, hl, h⟩
theorem Rd.le {w : World} {R : Nat} {bs : List Int} {q q' : Nat} (h : Rd w R bs q) (hq : q ≤ q') : Rd w R bs q' :=
  let ⟨ao, cap, p, hR, hn, hb, hp, hl, h⟩ := h; ⟨ao, cap, p, hR, hn, hb, by omega, hl, h⟩
theorem Rd.drew {w : World} {R : Nat} {bs : List Int} {q : Nat} (h : Rd w R bs q) : Rd w.drew R bs q := h
theorem Rd.lt {w : World} {R : Nat} {bs : List Int} {q : Nat} (h : Rd w R bs q) : R < w.heap.size := let ⟨_, _, _, hR, _⟩ := h; lt_of_block hR

def PickPost (R : Nat) (bs : List Int) (q : Nat) (n : Int) (w : World) (e : Ending) (w' : World) : Prop :=
  (∃ r : Int, e = .returned (.int .i64 r) ∧ 0 ≤ r ∧ (r < n ∨ r = 0)) ∧ Rd w' R bs (q + 1) ∧ Gr [R] w w'

theorem pick_c (R : Nat) (bs : List Int) (q : Nat) (n : Int) (w : World) (hr : Rd w R bs q) (hq : q ≤ 1000000000) (hn : n ≤ 1000000) :
    Calls Tryz.prog 34 #[.pointer (some ⟨R, 0, none⟩), .int .i64 n] w (PickPost R bs q n w) := by
  obtain ⟨ao, cap, p, hR, hc, hab, hpq, hbl, hbb⟩ := hr
  have hrd := Rd.moved hR hc hab hpq hbl hbb
  have hc0 : w.cell? ⟨R, 0, none⟩ = some (.slice ao bs.length cap) := by simp [World.cell?, hR]
  have hc1 : w.cell? ⟨R, 1, none⟩ = some (.int .i64 p) := by simp [World.cell?, hR]
  have hf : w.frozen? ⟨R, 1, none⟩ = false := by simp [World.frozen?, hR]
  have hg : Gr [R] w (w.setCell ⟨R, 1, none⟩ (.int .i64 ((p : Int) + 1))) := (Gr.refl _ _).setCell _ _ (by simp)
  have hd1 : (w.setCell ⟨R, 1, none⟩ (.int .i64 ((p : Int) + 1))).cell? ⟨R, 1, none⟩ = some (.int .i64 ((p : Int) + 1)) := World.cell?_setCell_same _ _ _ hc1
  have hd0 : (w.setCell ⟨R, 1, none⟩ (.int .i64 ((p : Int) + 1))).cell? ⟨R, 0, none⟩ = some (.slice ao bs.length cap) := by rw [World.cell?_setCell_other _ _ _ _ (by simp)]; exact hc0
  have hcg := hc.gr hg
  clear hR hab
  have Hbb := hid hbb; clear hbb
  have Hrd := hid hrd; clear hrd
  by_cases hn1 : n < 1
  · go_enter Tryz.func34, Tryz.ntmps34
    go_wp2_with fail
    go_ret
    exact ⟨⟨0, rfl, by omega, by omega⟩, Hrd.out, hg⟩
  · by_cases hb0 : bs.length = 0
    · go_enter Tryz.func34, Tryz.ntmps34
      go_wp2_with fail
      all_goals first | omega | skip
      go_ret
      exact ⟨⟨0, rfl, by omega, by omega⟩, Hrd.out, hg⟩
    · by_cases hpl : p < bs.length
      · obtain ⟨x, hx⟩ := get_some hpl
        obtain ⟨b, o, rfl, hs, hcell⟩ := hcg p x hx
        have hxb := Hbb.out x (List.mem_of_getElem? hx)
        have HX := hid hx; clear hx hc hcg
        go_enter Tryz.func34, Tryz.ntmps34
        go_wp2_with fail
        go_ret
        exact ⟨⟨x % n, rfl, Int.emod_nonneg _ (by omega), Or.inl (Int.emod_lt_of_pos _ (by omega))⟩, Hrd.out, hg⟩
      · obtain ⟨x, hx⟩ := get_some (show p % bs.length < bs.length from Nat.mod_lt _ (by omega))
        obtain ⟨y, hy⟩ := get_some (show (p * 7 + 3) % bs.length < bs.length from Nat.mod_lt _ (by omega))
        obtain ⟨b, o, rfl, hs, hcx⟩ := hcg _ x hx
        obtain ⟨b', o', he, _, hcy⟩ := hcg _ y hy
        obtain ⟨rfl, rfl⟩ : b' = b ∧ o' = o := by simpa [eq_comm] using he
        have hxb := Hbb.out x (List.mem_of_getElem? hx)
        have hyb := Hbb.out y (List.mem_of_getElem? hy)
        have hm1 : (p : Int) % bs.length < bs.length := Int.emod_lt_of_pos _ (by omega)
        have hm2 : ((p : Int) * 7 + 3) % bs.length < bs.length := Int.emod_lt_of_pos _ (by omega)
        have hm3 : 0 ≤ (p : Int) % bs.length := Int.emod_nonneg _ (by omega)
        have hm4 : 0 ≤ ((p : Int) * 7 + 3) % bs.length := Int.emod_nonneg _ (by omega)
        have hd : 0 ≤ (p : Int) / bs.length ∧ (p : Int) / bs.length ≤ p := IntWalk.tdiv_le _ _ (by omega) (by omega)
        have hE := i64_xor_nn (x * 131 + y * 1117 + (p : Int) * 29 + (p : Int) / bs.length * 53) ((x * 131 + y * 1117 + (p : Int) * 29 + (p : Int) / bs.length * 53) / 64) (by omega) (by omega)
        clear hx hy hc hcg he
        go_enter Tryz.func34, Tryz.ntmps34
        go_wp2_with fail
        go_quiet (fail)
        go_wp2_with fail
        go_ret
        exact ⟨⟨_, rfl, Int.emod_nonneg _ (by omega), Or.inl (Int.emod_lt_of_pos _ (by omega))⟩, Hrd.out, hg.drewN _⟩

theorem infoInt : (Tryz.prog.info? 3).map (fun i => (i.zero, i.size, i.bytes)) = some (some (.int .i64 0), 1, 8) := by kernel_rfl

/-- What a generator leaves: the reader further on, at most k places; nothing but the reader's block was written. -/
def RowPost (B R : Nat) (bs : List Int) (q : Nat) (Pr : List Int → Prop) (w : World) (e : Ending) (w' : World) : Prop :=
  ∃ v xs, e = .returned v ∧ Own B w' 3 v xs ∧ Pr xs ∧ Rd w' R bs q ∧ Gr [R] w w'

theorem cell_new (w : World) (v : Value) (t : TypeId) : (w.alloc (.cells #[v] t)).cell? ⟨w.heap.size, 0, none⟩ = some v := by
  rw [World.cell?_alloc_at _ _ _ _ rfl]; rfl

set_option maxHeartbeats 400000 in
theorem randomRow_c (R : Nat) (bs : List Int) (q : Nat) (k : Nat) (w : World) (hr : Rd w R bs q) (hq : q ≤ 100000000) (hk : k ≤ 100000) :
    Calls Tryz.prog 93 #[.pointer (some ⟨R, 0, none⟩), .int .i64 k] w (RowPost w.heap.size R bs (q + k) (fun xs => xs.length = k ∧ ∀ x ∈ xs, 0 ≤ x ∧ x ≤ 5) w) := by
  have hRlt := hr.lt
  have Hr := hid hr; clear hr
  go_enter Tryz.func93, Tryz.ntmps93
  go_wp2_with fail
  have hg0 : Gr [R] w (w.alloc (Obj.cells #[] 3)) := (Gr.refl _ _).alloc _
  go_loopw [5, 6] (fun v i wr => ∃ (n : Nat) (xs : List Int), n ≤ k ∧ i = .int .i64 n ∧ Own w.heap.size wr 3 v xs ∧ xs.length = n ∧ (∀ x ∈ xs, 0 ≤ x ∧ x ≤ 5) ∧ Rd wr R bs (q + n) ∧ Gr [R] w wr) (fun _ i _ => k - (intOf i).toNat)
  case atStart => exact ⟨0, [], by omega, rfl, Own.empty _ _ (Nat.le_refl _), rfl, by simp, Hr.out.gr ((Gr.refl _ _).alloc _), hg0⟩
  case round =>
    obtain ⟨n, xs, hn, rfl, hown, hl, hx, hrd, hg⟩ := hrel
    have hsz := hg.size
    by_cases hlt : n < k
    · have Hx := hid hx; clear hx
      have Hl := hid hl; clear hl
      go_wp2_with fail
      refine (pick_c R bs (q + n) 6 wr hrd (by omega) (by omega)).mono ?_
      rintro e w1 ⟨⟨r, rfl, hr0, hr6⟩, hrd1, hg1⟩
      have hown1 := hown.gr hg1 (by simp; omega)
      have hsz1 := hg1.size
      have Hg1 := hid hg1; clear hg1
      go_wp2_with (at_builtin; refine wp_app1 rfl _ _ 23 rfl w.heap.size 3 infoInt Tryz.underlying23 _ xs rfl (hown1.alloc _) _ 1 r rfl (cell_new _ _ _) (by have := Hl.out; omega) (by simp; omega) ?_; intro v' w2 hown2 hb2)
      refine ⟨⟨n + 1, xs ++ [r], by omega, by go_num, hown2, by rw [List.length_append, Hl.out]; rfl, ?_, ?_, ?_⟩, by simp [intOf]; omega⟩
      · intro x hx
        rcases List.mem_append.1 hx with hx | hx
        · exact Hx.out x hx
        · obtain rfl := List.mem_singleton.1 hx; omega
      · exact (hrd1.gr ((Gr.refl _ _).alloc _)).low hb2 hRlt
      · exact ((hg.trans Hg1.out).alloc _).low hb2 (Nat.le_refl _)
    · go_wp2_with fail
      go_ret
      exact ⟨_, xs, rfl, hown, ⟨by omega, hx⟩, hrd.le (by omega), hg⟩

/-- 'one': a member of a list that is not empty. -/
theorem one_c (R : Nat) (bs : List Int) (q : Nat) (v : Value) (xs : List Int) (w : World) (hr : Rd w R bs q) (hv : Nums [R] w .i64 v xs) (hq : q ≤ 1000000000) (hx : xs ≠ []) (hxl : xs.length ≤ 1000000) :
    Calls Tryz.prog 67 #[.pointer (some ⟨R, 0, none⟩), v] w (fun e w' => (∃ x, e = .returned (.int .i64 x) ∧ x ∈ xs) ∧ Rd w' R bs (q + 1) ∧ Gr [R] w w') := by
  have hpos : 0 < xs.length := List.length_pos_iff.2 hx
  obtain ⟨ao, cap, rfl, ⟨hlc, hcm, hnil⟩, hc⟩ := hv
  have hlen : xs.length ≤ 9223372036854775807 := by omega
  clear hnil
  have Hc := hid hc; clear hc
  go_enter Tryz.func67, Tryz.ntmps67
  go_wp2_with fail
  refine (pick_c R bs q xs.length w hr hq (by omega)).mono ?_
  rintro e w1 ⟨⟨r, rfl, hr0, hr6⟩, hrd1, hg1⟩
  obtain ⟨r, rfl⟩ := Int.eq_ofNat_of_zero_le hr0
  obtain ⟨x, hxr⟩ := get_some (show r < xs.length by omega)
  obtain ⟨b, o, rfl, hs, hcell⟩ := (Hc.out.gr hg1) r x hxr
  have HX := hid hxr; clear hxr
  have hrl : r < xs.length := by omega
  go_wp2_with fail
  go_ret
  exact ⟨⟨x, rfl, List.mem_of_getElem? HX.out⟩, hrd1, hg1⟩

theorem newReader_c (v : Value) (bs : List Int) (w : World) (ao : Option Addr) (cap : Nat) (hv : v = .slice ao bs.length cap) (hlen : bs.length ≤ 9223372036854775807) (hcap : bs.length ≤ cap) (hc : Cells [] w .u8 ao bs) (hb : ∀ b ∈ bs, 0 ≤ b ∧ b ≤ 255) :
    Calls Tryz.prog 15 #[v] w (fun e w' => (∃ R cs, e = .returned (.pointer (some ⟨R, 0, none⟩)) ∧ w.heap.size ≤ R ∧ Rd w' R cs 0) ∧ Gr [] w w') := by
  subst hv
  have hal : ∀ a, ao = some a → 0 < bs.length → a.block < w.heap.size := by
    intro a ha hl
    obtain ⟨x, hx⟩ := get_some hl
    obtain ⟨b, o, he, _, hcell⟩ := hc 0 x hx
    rw [he] at ha; cases ha
    exact World.block_lt_of_cell? w _ hcell
  have Hc := hid hc; clear hc
  have Hal := hid hal; clear hal
  have Hb := hid hb; clear hb
  by_cases hl : 2000 < bs.length
  · have hl' : (2000 : Nat) ≤ bs.length := by omega
    have htl : (bs.take 2000).length = 2000 := by rw [List.length_take]; omega
    have hcl : bs.length ≤ cap := hcap
    obtain ⟨b, o, rfl⟩ : ∃ b o, ao = some ⟨b, o, none⟩ := by
      obtain ⟨x, hx⟩ := get_some (show 0 < bs.length by omega)
      obtain ⟨b, o, e, _⟩ := Hc.out 0 x hx
      exact ⟨b, o, e⟩
    go_enter Tryz.func15, Tryz.ntmps15
    go_wp2_with fail
    go_ret
    refine ⟨⟨w.heap.size, bs.take 2000, rfl, Nat.le_refl _, some ⟨b, o, none⟩, cap, 0, ?_, ?_, fun a ha _ => Hal.out a ha (by omega), Nat.le_refl _, by omega, fun x hx => Hb.out x (List.mem_of_mem_take hx)⟩, (Gr.refl _ _).alloc _⟩
    · rw [htl]; exact heap_alloc_new _ _
    · refine Cells.gr (S := [w.heap.size]) ?_ ((Gr.refl _ _).alloc _)
      intro i x hi
      rw [List.getElem?_take] at hi
      split at hi
      · obtain ⟨b', o', e, _, hcell⟩ := Hc.out i x hi
        exact ⟨b', o', e, by have := World.block_lt_of_cell? w _ hcell; simp at this ⊢; omega, hcell⟩
      · cases hi
  · go_enter Tryz.func15, Tryz.ntmps15
    go_wp2_with fail
    go_ret
    refine ⟨⟨w.heap.size, bs, rfl, Nat.le_refl _, ao, cap, 0, heap_alloc_new _ _, ?_, Hal.out, Nat.le_refl _, by omega, Hb.out⟩, (Gr.refl _ _).alloc _⟩
    refine Cells.gr (S := [w.heap.size]) ?_ ((Gr.refl _ _).alloc _)
    intro i x hi
    obtain ⟨b', o', e, _, hcell⟩ := Hc.out i x hi
    exact ⟨b', o', e, by have := World.block_lt_of_cell? w _ hcell; simp at this ⊢; omega, hcell⟩
end Go.Proofs.YtmonhpoogfdpoaaGreat
