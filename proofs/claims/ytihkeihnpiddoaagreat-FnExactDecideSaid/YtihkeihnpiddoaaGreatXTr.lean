/-
  Walks: the set of the values that make a literal true.
-/
import Derived.Test.YtihkeihnpiddoaaGreatXLtStP
import Derived.Test.YtihkeihnpiddoaaGreatXA
set_option linter.unusedVariables false
set_option linter.unusedSimpArgs false
namespace Go.Proofs.YtihkeihnpiddoaaGreat
open Go.RowKit

def litD (l : Lit) : Nat := if l.neg then 63 - 2 ^ l.val.toNat else 2 ^ l.val.toNat
theorem litOk_iff {n : Int} {l : Lit} : litOk n l = true ↔ (0 ≤ l.var ∧ l.var ≤ n - 1) ∧ 0 ≤ l.val ∧ l.val ≤ 5 := by
  unfold litOk
  rw [Bool.and_eq_true, inB_iff, inB_iff]
theorem litD_lt (l : Lit) (h : 0 ≤ l.val ∧ l.val ≤ 5) : litD l < 64 := by
  obtain ⟨a, b, c⟩ := l
  have : b = 0 ∨ b = 1 ∨ b = 2 ∨ b = 3 ∨ b = 4 ∨ b = 5 := by simp at h; omega
  rcases this with rfl | rfl | rfl | rfl | rfl | rfl <;> cases c <;> simp [litD]

set_option maxRecDepth 100000 in
set_option maxHeartbeats 2000000 in
theorem trues_c (l : Lit) (w : World) (h : 0 ≤ l.val ∧ l.val ≤ 5) :
    Calls Tryz.prog 91 #[.agg #[.int .i64 l.var, .int .i64 l.val, .bool l.neg]] w fun e w' => e = .returned (.int .i64 (litD l : Nat)) ∧ Gr [] w w' := by
  obtain ⟨a, b, c⟩ := l
  have hb : b = 0 ∨ b = 1 ∨ b = 2 ∨ b = 3 ∨ b = 4 ∨ b = 5 := by simp at h; omega
  have hg0 : Gr [] w (w.alloc (.cells #[.int .i64 a, .int .i64 b, .bool c] 31)) := (Gr.refl _ _).alloc _
  have fb := fld (heap_alloc_new w (.cells #[.int .i64 a, .int .i64 b, .bool c] 31))
  have Hg0 := hid hg0
  clear hg0 h
  rcases hb with rfl | rfl | rfl | rfl | rfl | rfl <;> cases c
  all_goals
    go_enter Tryz.func91, Tryz.ntmps91
    go_wp2_with fail
    go_ret
    exact ⟨by rfl, Hg0.out⟩
set_option maxRecDepth 100000 in
set_option maxHeartbeats 2000000 in
theorem literalDomain_c (l : Lit) (w : World) (h : 0 ≤ l.val ∧ l.val ≤ 5) :
    Calls Tryz.prog 47 #[.agg #[.int .i64 l.var, .int .i64 l.val, .bool l.neg]] w fun e w' => e = .returned (.int .i64 (litD l : Nat)) ∧ Gr [] w w' := by
  obtain ⟨a, b, c⟩ := l
  have hb : b = 0 ∨ b = 1 ∨ b = 2 ∨ b = 3 ∨ b = 4 ∨ b = 5 := by simp at h; omega
  have hg0 : Gr [] w (w.alloc (.cells #[.int .i64 a, .int .i64 b, .bool c] 31)) := (Gr.refl _ _).alloc _
  have fb := fld (heap_alloc_new w (.cells #[.int .i64 a, .int .i64 b, .bool c] 31))
  have Hg0 := hid hg0
  clear hg0 h
  rcases hb with rfl | rfl | rfl | rfl | rfl | rfl <;> cases c
  all_goals
    go_enter Tryz.func47, Tryz.ntmps47
    go_wp2_with fail
    go_ret
    exact ⟨by rfl, Hg0.out⟩

end Go.Proofs.YtihkeihnpiddoaaGreat
