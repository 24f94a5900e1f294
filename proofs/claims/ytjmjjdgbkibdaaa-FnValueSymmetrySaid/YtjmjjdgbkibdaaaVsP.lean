/-
  The plain law of symmetric values: in what remains of each domain they stand or miss together.
-/
import Derived.Test.YtjmjjdgbkibdaaaOrP
import Derived.Test.YtjmjjdgbkibdaaaBb
set_option linter.unusedVariables false
set_option linter.unusedSimpArgs false
namespace Go.Proofs.Ytjmjjdgbkibdaaa
open Go.RowKit

theorem back_bit {cs : List Con} {D : List Nat} {i n : Nat} (hi : i < D.length) : ((backL cs D (sols cs D).length).getD i 0).testBit n = true ↔ ∃ t ∈ sols cs D, (t.getD i 0).toNat = n := by
  unfold backL
  rw [List.take_length, suppFold_bit _ _ _ (fun t ht => by rw [(sols_val ht).1]; simp) i (by simpa using hi) n]
  constructor
  · rintro (h | ⟨t, h1, _, h2⟩)
    · rw [List.getD_eq_getElem?_getD, List.getElem?_replicate, if_pos hi] at h; simp at h
    · exact ⟨t, h1, h2⟩
  · rintro ⟨t, h1, h2⟩; exact .inr ⟨t, h1, rfl, h2⟩
theorem swapV_getD {u v : Int} {t : List Int} {i : Nat} (hi : i < t.length) : (swapV u v t).getD i 0 = valSw u v (t.getD i 0) := by
  unfold swapV
  rw [List.getD_eq_getElem?_getD, List.getD_eq_getElem?_getD, List.getElem?_map, List.getElem?_eq_getElem hi]; rfl
theorem getD_val {t : List Int} {i : Nat} (hi : i < t.length) (h : ∀ y ∈ t, 0 ≤ y ∧ y ≤ 5) : 0 ≤ t.getD i 0 ∧ t.getD i 0 ≤ 5 := by
  rw [List.getD_eq_getElem?_getD, List.getElem?_eq_getElem hi]
  exact h _ (List.getElem_mem hi)
theorem back_one {cs : List Con} {D : List Nat} {i u v : Nat} (hi : i < D.length) (h : presB cs D (swapV u v) = true) (hb : ((backL cs D (sols cs D).length).getD i 0).testBit u = true) : ((backL cs D (sols cs D).length).getD i 0).testBit v = true := by
  rw [back_bit hi] at hb ⊢
  obtain ⟨t, h1, h2⟩ := hb
  have hs := sols_val h1
  have hv := getD_val (i := i) (by omega) hs.2
  refine ⟨_, presB_iff.1 h t h1, ?_⟩
  rw [swapV_getD (by omega)]
  unfold valSw
  rw [if_pos (by omega)]; simp
theorem swapV_comm (u v : Int) : swapV u v = swapV v u := by
  funext x
  unfold swapV
  congr 1
  funext y
  exact valSw_comm u v y
theorem back_sym {cs : List Con} {D : List Nat} {i u v : Nat} (hi : i < D.length) (h : presB cs D (swapV u v) = true) : ((backL cs D (sols cs D).length).getD i 0).testBit u = ((backL cs D (sols cs D).length).getD i 0).testBit v := by
  rw [Bool.eq_iff_iff]
  exact ⟨back_one hi h, back_one hi (by rw [swapV_comm]; exact h)⟩
end Go.Proofs.Ytjmjjdgbkibdaaa
