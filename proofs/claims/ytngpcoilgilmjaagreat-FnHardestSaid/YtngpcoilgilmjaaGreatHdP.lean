/-
  Plain law of the hardest soft constraints: one is listed exactly if the model with it has no solution. Walk of the laws' 'contains'.
-/
import Derived.Test.YtngpcoilgilmjaaGreatSoP
import Derived.Test.YtngpcoilgilmjaaGreatMcP
set_option linter.unusedVariables false
set_option linter.unusedSimpArgs false
namespace Go.Proofs.YtngpcoilgilmjaaGreat
open Go.RowKit

theorem hard_count {m : Mod} {ss : List Sft} {D : List Nat} {n : Nat} {s : Sft} (hs : ss[n]? = some s) : memB (n : Int) (hardL ss (sols m.cons D) ss.length) = decide ((sols (m.cons ++ [s.con]) D).length = 0) := by
  unfold memB
  rw [Bool.eq_iff_iff, decide_eq_true_eq, decide_eq_true_eq, mem_hardL]
  have hn := (List.getElem?_eq_some_iff.1 hs).1
  have e : ss.getD n default = s := by rw [List.getD_eq_getElem?_getD, hs]; rfl
  rw [e, sols_snoc, List.length_eq_zero_iff, List.filter_eq_nil_iff]
  constructor
  · rintro ⟨-, h⟩ x hx hb
    have : metAny s (sols m.cons D) = true := by unfold metAny; rw [List.any_eq_true]; exact ⟨x, hx, hb⟩
    rw [h] at this; cases this
  · intro h
    refine ⟨hn, ?_⟩
    cases hm : metAny s (sols m.cons D)
    · rfl
    · obtain ⟨x, hx, hb⟩ := List.any_eq_true.1 (show (sols m.cons D).any (metB s) = true from hm)
      exact absurd hb (h x hx)
theorem memB_nil (x : Int) : memB x [] = false := by simp [memB]


theorem lawContainsH_c (xs : List Int) (y : Int) (v : Value) (w : World) (hx : Nums [] w .i64 v xs) :
    Calls Tryz.prog 16 #[v, .int .i64 y] w fun e w' => e = .returned (.bool (memB y xs)) ∧ w' = w := by
  obtain ⟨xo, xc, rfl, ⟨hx1, hx2, _⟩, hxc⟩ := hx
  have Hxc := hid hxc; clear hxc
  have hxl : xs.length ≤ 9223372036854775807 := by omega
  go_enter Tryz.func16, Tryz.ntmps16
  go_wp2_with fail
  go_loop [5] (fun i => ∃ n : Nat, n ≤ xs.length ∧ i = .int .i64 n ∧ (y ∈ xs.drop n ↔ y ∈ xs)) (fun i => xs.length - (intOf i).toNat)
  case atStart => exact ⟨0, Nat.zero_le _, rfl, by simp⟩
  case round =>
    obtain ⟨n, hn, rfl, hd⟩ := hrel
    have Hd := hid hd; clear hd
    by_cases hlt : n < xs.length
    · obtain ⟨x, hx⟩ := get_some hlt
      obtain ⟨b, o, rfl, _, h0⟩ := Hxc.out n x hx
      have HX := hid (drop_cons hx); clear hx
      cases hb : (x == y)
      · go_wp2_with fail
        refine ⟨⟨n + 1, by omega, by go_num, ?_⟩, by simp [intOf]; omega⟩
        have := Hd.out
        rw [HX.out] at this
        rw [← this]
        have e : ¬ y = x := by intro e; subst e; simp at hb
        simp [e]
      · go_wp2_with fail
        go_ret
        refine ⟨ret_bool ?_, rfl⟩
        have := Hd.out
        rw [HX.out] at this
        have e : x = y := by simpa using hb
        unfold memB
        symm
        rw [decide_eq_true_eq, ← this, e]; simp
    · go_wp2_with fail
      go_ret
      refine ⟨ret_bool ?_, rfl⟩
      unfold memB
      symm
      rw [decide_eq_false_iff_not, ← Hd.out, drop_end (by omega)]; simp

end Go.Proofs.YtngpcoilgilmjaaGreat
