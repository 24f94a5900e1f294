/-
  slices.DeleteFunc over rows of numbers, with whatever function.
-/
import Derived.Test.YtngpcoilgilmjaaRe
import Derived.Lib.SliceRun
set_option linter.unusedVariables false
set_option linter.unusedSimpArgs false
namespace Go.Proofs.Ytngpcoilgilmjaa
open Go.RowKit

theorem idxRow2_c (cs : List (List Int)) (p : List Int → Bool) (v : Value) (k : Nat) (C : Array Value) (w : World) (hv : RowsV [] w v cs)
    (hk : ∀ args w, (callFunc k args).run Try.prog w = .ok (.enter k args) w)
    (hf : ∀ c cv w1, c ∈ cs → Gr [] w w1 → Nums [] w1 .i64 cv c → Calls Try.prog k (#[cv] ++ C) w1 fun e w2 => e = .returned (.bool (p c)) ∧ Gr [] w1 w2) :
    Calls Try.prog 128 #[v, .func (.func k) #[] C] w fun e w' => (∃ i : Int, e = .returned (.int .i64 i) ∧ ((i = -1 ∧ ∀ x ∈ cs, p x = false) ∨ ∃ (n : Nat) (x : List Int), i = (n : Int) ∧ cs[n]? = some x ∧ p x = true ∧ ∀ (j : Nat) y, j < n → cs[j]? = some y → p y = false)) ∧ Gr [] w w' := by
  obtain ⟨ao, cap, rfl, ⟨hlc, hcm, _⟩, hc⟩ := hv
  have hlen : cs.length ≤ 9223372036854775807 := by omega
  have Hf := hid hf; clear hf
  have Hc := hid hc; clear hc
  go_enter Try.func128, Try.ntmps128
  go_wp2_with fail
  go_loopw [8] (fun i wr => ∃ n : Nat, n ≤ cs.length ∧ i = .int .i64 n ∧ (∀ (j : Nat) x, j < n → cs[j]? = some x → p x = false) ∧ Gr [] w wr) (fun i _ => cs.length - (intOf i).toNat)
  case atStart => exact ⟨0, Nat.zero_le _, rfl, by intro j x hj; omega, Gr.refl _ _⟩
  case round =>
    obtain ⟨n, hn, rfl, hp, hg⟩ := hrel
    have HP := hid hp; clear hp
    by_cases hlt : n < cs.length
    · obtain ⟨c, hx⟩ := get_some hlt
      obtain ⟨b, o, cv, rfl, hs, h0, hcv⟩ := (Hc.out.gr hg) n c hx
      have HX := hid hx; clear hx
      have Hcv := hid hcv; clear hcv
      go_wp2_with fail
      refine (Hf.out c _ _ (List.mem_of_getElem? HX.out) hg Hcv.out).mono ?_
      rintro e w2 ⟨rfl, hg2⟩
      cases hb : p c
      all_goals go_wp2_with fail
      · exact ⟨⟨n + 1, by omega, by go_num, below_snoc HP.out HX.out hb, hg.trans hg2⟩, by simp [intOf]; omega⟩
      · go_ret
        exact ⟨⟨n, rfl, .inr ⟨n, c, rfl, HX.out, hb, HP.out⟩⟩, hg.trans hg2⟩
    · go_wp2_with fail
      go_ret
      refine ⟨⟨-1, rfl, .inl ⟨rfl, fun x hx => ?_⟩⟩, hg⟩
      obtain ⟨j, hj⟩ := List.mem_iff_getElem?.1 hx
      exact HP.out j x (by have := (List.getElem?_eq_some_iff.1 hj).1; omega) hj

/-! ### The places of what is kept -/
def keptI (p : List Int → Bool) (zs : List (List Int)) (j : Nat) : List Nat := (List.range j).filter fun t => !p (zs.getD t [])
theorem getD_of {zs : List (List Int)} {t : Nat} {x : List Int} (h : zs[t]? = some x) : zs.getD t [] = x := by rw [List.getD_eq_getElem?_getD, h]; rfl
theorem keptI_succ {p : List Int → Bool} {zs : List (List Int)} {j : Nat} {x : List Int} (h : zs[j]? = some x) : keptI p zs (j + 1) = keptI p zs j ++ if p x then [] else [j] := by
  unfold keptI
  rw [List.range_succ, List.filter_append]
  congr 1
  simp only [List.filter_cons, List.filter_nil, getD_of h]
  cases p x <;> rfl
theorem keptI_map (p : List Int → Bool) (zs : List (List Int)) : ∀ n, n ≤ zs.length → (keptI p zs n).map (fun t => zs.getD t []) = (zs.take n).filter fun x => !p x := by
  intro n
  induction n with
  | zero => intro _; simp [keptI]
  | succ n ih =>
    intro h
    obtain ⟨x, hx⟩ := get_some (xs := zs) (k := n) (by omega)
    rw [keptI_succ hx, List.map_append, ih (by omega), List.take_add_one, hx, List.filter_append]
    congr 1
    cases hp : p x
    · simp [hp, hx]
    · simp [hp]
theorem keptI_all {p : List Int → Bool} {zs : List (List Int)} {n : Nat} (hn : n ≤ zs.length) (h : ∀ (j : Nat) y, j < n → zs[j]? = some y → p y = false) : keptI p zs n = List.range n := by
  unfold keptI
  rw [List.filter_eq_self]
  intro t ht
  have := List.mem_range.1 ht
  obtain ⟨x, hx⟩ := get_some (xs := zs) (k := t) (by omega)
  rw [getD_of hx, h t x this hx]; rfl
theorem keptI_sorted (p : List Int → Bool) (zs : List (List Int)) (n : Nat) : (keptI p zs n).Pairwise (· < ·) := List.Pairwise.filter _ List.pairwise_lt_range
theorem keptI_lt {p : List Int → Bool} {zs : List (List Int)} {n t : Nat} (h : t ∈ keptI p zs n) : t < n := List.mem_range.1 (List.mem_filter.1 h).1
theorem Gr.setCells {S : List Nat} {g : Nat} (hg : g ∈ S) : ∀ (vs : List Value) (o : Nat) {w w' : World}, Gr S w w' → Gr S w (w'.setCells g o vs)
  | [], _, _, _, h => h
  | v :: vs, o, w, w', h => Gr.setCells hg vs (o + 1) (h.setCell ⟨g, o, none⟩ v (.inl hg))
set_option maxRecDepth 100000 in
theorem zeroRow : ∀ w, (zeroValue 23).run Try.prog w = .ok (.slice none 0 0) w := by
  intro w
  first
    | rfl
    | kernel_rfl
    | (simp [zeroValue, go_sem]; done)

end Go.Proofs.Ytngpcoilgilmjaa
