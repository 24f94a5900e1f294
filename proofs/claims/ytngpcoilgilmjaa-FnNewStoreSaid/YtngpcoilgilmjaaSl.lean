/-
  Walks for the law of SolveAll: the reference's SolveAll, the comparisons of lists, IsSolution.
-/
import Derived.Test.YtngpcoilgilmjaaLPS
set_option linter.unusedVariables false
namespace Go.Proofs.Ytngpcoilgilmjaa
open Go.RowKit

theorem equalLists_t (xs : List (List Int)) (vx vy : Value) (w : World) (hx : RowsV [] w vx xs) (hy : RowsV [] w vy xs) :
    Calls Try.prog 58 #[vx, vy] w fun e w' => e = .returned (.bool true) ∧ Gr [] w w' := by
  have Hx := hid hx; have Hy := hid hy
  obtain ⟨xo, xc, rfl, ⟨hx1, hx2, _⟩, _⟩ := hx
  obtain ⟨yo, yc, rfl, ⟨hy1, hy2, _⟩, _⟩ := hy
  go_enter Try.func58, Try.ntmps58
  go_wp2_with fail
  go_loopw [5] (fun i wr => ∃ n : Nat, n ≤ xs.length ∧ i = .int .i64 n ∧ Gr [] w wr) (fun i _ => xs.length - (intOf i).toNat)
  case atStart => exact ⟨0, Nat.zero_le _, rfl, Gr.refl _ _⟩
  case round =>
    obtain ⟨n, hn, rfl, hg⟩ := hrel
    by_cases hlt : n < xs.length
    · obtain ⟨x, hx⟩ := get_some hlt
      obtain ⟨b1, o1, u1, rfl, hc1, hn1⟩ := (Hx.out.gr hg).at hx
      obtain ⟨b2, o2, u2, rfl, hc2, hn2⟩ := (Hy.out.gr hg).at hx
      have HS : Hid (∀ w', Gr [] wr w' → w'.cell? ⟨b1, o1 + n, none⟩ = some u1 ∧ w'.cell? ⟨b2, o2 + n, none⟩ = some u2 ∧ Gr [] wr w') := hid fun w' h => ⟨h.cell hc1 (by simp), h.cell hc2 (by simp), h⟩
      have Hn1 := hid hn1; have Hn2 := hid hn2; have Hg := hid hg
      clear hx hn1 hn2 hg
      go_wp2_with fail
      go_region_held3 (fun w' => w'.cell? ⟨b1, o1 + n, none⟩ = some u1 ∧ w'.cell? ⟨b2, o2 + n, none⟩ = some u2 ∧ Gr [] wr w')
        (first | exact HS.out _ ((Gr.refl [] _).drew) | (go_split_ands; exact HS.out _ (Gr.trans (by assumption) hg3)))
        (first
          | (go_at_call 19; go_split_ands; refine (lawEqualInts_c x x _ _ _ (Hn1.out.gr (by assumption)) (Hn2.out.gr (by assumption))).mono ?_; rw [decide_eq_true (rfl : x = x)]; rintro e w3 ⟨rfl, hg3⟩))
      all_goals
        go_wp2_with fail
        exact ⟨⟨n + 1, by omega, by go_num, (Hg.out.trans ((Gr.refl _ _).drew)).trans hg3⟩, by simp [intOf]; omega⟩
    · go_wp2_with fail
      go_ret
      exact ⟨rfl, hg⟩

/-- A model and a number. -/
def DrawLPost (w : World) (e : Ending) (w' : World) : Prop := ∃ (m : Mod) (mv : Value) (L : Int), e = .returned (.tuple #[mv, .int .i64 L]) ∧ ModV [] w' mv m ∧ m.Small ∧ Gr [] w w'
end Go.Proofs.Ytngpcoilgilmjaa
