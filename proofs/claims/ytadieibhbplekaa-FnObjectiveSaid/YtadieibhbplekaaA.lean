/-
  Walks of the small functions on numbers and lists of numbers.
-/
import Derived.Test.YtadieibhbplekaaRows
import Derived.Test.YtadieibhbplekaaLib
namespace Go.Proofs.Ytadieibhbplekaa
open Go.RowKit

theorem within_c (n lo hi : Int) (w : World) :
    Calls Try.prog 18 #[.int .i64 n, .int .i64 lo, .int .i64 hi] w fun e w' => e = .returned (.bool (inB lo hi n)) ∧ w' = w := by
  go_enter Try.func18, Try.ntmps18
  go_wp2
  all_goals go_ret
  all_goals exact ⟨ret_bool (by unfold inB; first | (simp [*]; done) | (simp; omega)), rfl⟩

theorem lit_c (n lo hi : Int) (b1 o1 b2 o2 : Nat) (w : World) (h1 : w.cell? ⟨b1, o1, none⟩ = some (.int .i64 lo)) (h2 : w.cell? ⟨b2, o2, none⟩ = some (.int .i64 hi)) :
    Calls Try.prog 17 #[.int .i64 n, .pointer (some ⟨b1, o1, none⟩), .pointer (some ⟨b2, o2, none⟩)] w fun e w' => e = .returned (.bool (!inB lo hi n)) ∧ w' = w := by
  go_enter Try.func17, Try.ntmps17
  go_wp2_with (go_at_call 18; refine (within_c _ _ _ _).mono ?_; rintro e w' ⟨rfl, rfl⟩)
  all_goals go_ret
  all_goals exact ⟨rfl, rfl⟩

theorem idx_c (S : List Nat) (xs : List Int) (p : Int → Bool) (v : Value) (k : Nat) (C : Array Value) (w : World) (hv : Nums S w .i64 v xs) 
    (hk : ∀ args w, (callFunc k args).run Try.prog w = .ok (.enter k args) w)
    (hf : ∀ x w1, x ∈ xs → Gr S w w1 → Calls Try.prog k (#[.int .i64 x] ++ C) w1 fun e w2 => e = .returned (.bool (p x)) ∧ Gr S w1 w2) :
    Calls Try.prog 20 #[v, .func (.func k) #[] C] w fun e w' => (∃ i : Int, e = .returned (.int .i64 i) ∧ (-1 ≤ i ∧ (0 ≤ i ↔ anyB p xs = true) ∧ (0 ≤ i → (∃ x, xs[i.toNat]? = some x ∧ p x = true) ∧ ∀ j x, j < i.toNat → xs[j]? = some x → p x = false))) ∧ Gr S w w' := by
  obtain ⟨ao, cap, rfl, ⟨hlc, hcm, hnil⟩, hc⟩ := hv
  have hlen : xs.length ≤ 9223372036854775807 := by omega
  clear hnil
  have Hf := hid hf; clear hf
  go_enter Try.func20, Try.ntmps20
  go_wp2
  go_loopw [8] (fun i wr => ∃ n : Nat, n ≤ xs.length ∧ i = .int .i64 n ∧ (∀ j x, j < n → xs[j]? = some x → p x = false) ∧ Gr S w wr) (fun i _ => xs.length - (intOf i).toNat)
  case atStart => exact ⟨0, Nat.zero_le _, rfl, by intro j x hj; omega, Gr.refl _ _⟩
  case round =>
    obtain ⟨n, hn, rfl, hp, hg⟩ := hrel
    have HP := hid hp; clear hp
    by_cases hlt : n < xs.length
    · obtain ⟨x, hx⟩ := get_some hlt
      obtain ⟨b, o, rfl, hs, hcell⟩ := hc n x hx
      have hcell' := hg.cell hcell hs
      have HX := hid hx; clear hx
      have Hc := hid hc; clear hc
      go_wp2_with fail
      refine (Hf.out x _ (List.mem_of_getElem? HX.out) hg).mono ?_
      rintro e w2 ⟨rfl, hg2⟩
      cases hb : p x
      all_goals go_wp2_with fail
      · refine ⟨⟨n + 1, by omega, by go_num, ?_, hg.trans hg2⟩, by simp [intOf]; omega⟩
        intro j y hj hy
        by_cases e : j = n
        · subst e; have := HX.out; simp_all
        · exact HP.out j y (by omega) hy
      · go_ret
        refine ⟨⟨n, rfl, by omega, ⟨fun _ => List.any_eq_true.2 ⟨x, List.mem_of_getElem? HX.out, hb⟩, fun _ => by omega⟩, fun _ => ⟨⟨x, by simpa using HX.out, hb⟩, by simpa using HP.out⟩⟩, hg.trans hg2⟩
    · go_wp2_with fail
      go_ret
      refine ⟨⟨-1, rfl, by omega, ⟨fun h => by omega, fun h => ?_⟩, fun h => by omega⟩, hg⟩
      obtain ⟨x, hx, hp⟩ := List.any_eq_true.1 (show xs.any p = true from h)
      obtain ⟨j, hj, rfl⟩ := List.mem_iff_getElem.1 hx
      have := HP.out j _ (by omega) (List.getElem?_eq_getElem hj)
      simp_all

theorem contains_c (S : List Nat) (xs : List Int) (p : Int → Bool) (v : Value) (k : Nat) (C : Array Value) (w : World) (hv : Nums S w .i64 v xs) 
    (hk : ∀ args w, (callFunc k args).run Try.prog w = .ok (.enter k args) w)
    (hf : ∀ x w1, x ∈ xs → Gr S w w1 → Calls Try.prog k (#[.int .i64 x] ++ C) w1 fun e w2 => e = .returned (.bool (p x)) ∧ Gr S w1 w2) :
    Calls Try.prog 16 #[v, .func (.func k) #[] C] w fun e w' => e = .returned (.bool (anyB p xs)) ∧ Gr S w w' := by
  have Hf := hid hf; clear hf
  have Hk := hid hk; clear hk
  go_enter Try.func16, Try.ntmps16
  go_wp2_with (go_at_call 20; refine (idx_c S xs p v k C _ hv Hk.out Hf.out).mono ?_; rintro e w' ⟨⟨i, rfl, hi⟩, hg⟩)
  go_ret
  exact ⟨rfl, hg⟩

theorem allIn_c (xs : List Int) (lo hi : Int) (v : Value) (w : World) (hv : Nums [] w .i64 v xs) :
    Calls Try.prog 12 #[v, .int .i64 lo, .int .i64 hi] w fun e w' => e = .returned (.bool (allB lo hi xs)) ∧ Gr [] w w' := by
  have hg0 : Gr [] w ((w.alloc (Obj.cells #[Value.int IntKind.i64 lo] 3)).alloc (Obj.cells #[Value.int IntKind.i64 hi] 3)) := ((Gr.refl _ _).alloc _).alloc _
  have hc1 : ((w.alloc (Obj.cells #[Value.int IntKind.i64 lo] 3)).alloc (Obj.cells #[Value.int IntKind.i64 hi] 3)).cell? ⟨w.heap.size, 0, none⟩ = some (.int .i64 lo) := by
    rw [World.cell?_alloc_past _ _ _ (by simp), World.cell?_alloc_at _ _ _ _ rfl]; rfl
  have hc2 : ((w.alloc (Obj.cells #[Value.int IntKind.i64 lo] 3)).alloc (Obj.cells #[Value.int IntKind.i64 hi] 3)).cell? ⟨w.heap.size + 1, 0, none⟩ = some (.int .i64 hi) := by
    rw [World.cell?_alloc_at _ _ _ _ (by simp)]; rfl
  go_enter Try.func12, Try.ntmps12
  go_wp2_with fail
  refine (contains_c [] xs (fun x => !inB lo hi x) v 17 _ _ (hv.gr hg0) (fun _ _ => by kernel_rfl) ?_).mono ?_
  · intro x w1 _ hg
    refine (lit_c x lo hi _ _ _ _ w1 (hg.cell hc1 (by simp)) (hg.cell hc2 (by simp))).mono ?_
    rintro e w2 ⟨rfl, rfl⟩
    exact ⟨rfl, Gr.refl _ _⟩
  rintro e w1 ⟨rfl, hg1⟩
  go_wp2_with fail
  go_ret
  exact ⟨ret_bool (by unfold allB anyB; rw [List.all_eq_not_any_not]), hg0.trans hg1⟩
end Go.Proofs.Ytadieibhbplekaa
