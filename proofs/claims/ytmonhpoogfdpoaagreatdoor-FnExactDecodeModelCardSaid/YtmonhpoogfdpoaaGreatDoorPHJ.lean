/-
  Walks of what a constraint's satisfaction is made of. Walks of the automaton and of the capacity. Walks of the bit operations on domains. Walks of the copies of lists.
  The walk of a constraint's satisfaction, a theorem for each kind.
-/
import Derived.Test.YtmonhpoogfdpoaaGreatDoorPA
import Derived.Test.YtmonhpoogfdpoaaGreatDoorPLib
import Derived.Laws.Cover3
set_option linter.unusedVariables false
namespace Go.Proofs.YtmonhpoogfdpoaaGreatDoor
open Go.RowKit

theorem infoI : (Tryz.prog.info? 3).map (fun i => (i.zero, i.size, i.bytes)) = some (some (.int .i64 0), 1, 8) := by kernel_rfl
theorem cell_one (w : World) (v : Value) (t : TypeId) : (w.alloc (.cells #[v] t)).cell? ⟨w.heap.size, 0, none⟩ = some v := by
  rw [World.cell?_alloc_at _ _ _ _ rfl]; rfl

end Go.Proofs.YtmonhpoogfdpoaaGreatDoor

namespace Go.Proofs.YtmonhpoogfdpoaaGreatDoor
open Go.RowKit

end Go.Proofs.YtmonhpoogfdpoaaGreatDoor

namespace Go.Proofs.YtmonhpoogfdpoaaGreatDoor
open Go.RowKit

theorem testBit_and (d v : Nat) (hd : d < 64) : (bits BinOp.and IntKind.i64 ((d : Int) / 2 ^ v) 1 == 1) = d.testBit v := by
  have e1 : (d : Int) / 2 ^ v = ((d / 2 ^ v : Nat) : Int) := by simp
  have h2 : d / 2 ^ v < 9223372036854775808 := Nat.lt_of_le_of_lt (Nat.div_le_self _ _) (by omega)
  rw [e1, show (1 : Int) = ((1 : Nat) : Int) from rfl, i64_and _ _ h2 (by omega), Nat.and_one_is_mod, Nat.testBit_eq_decide_div_mod_eq, Bool.eq_iff_iff]
  simp only [beq_iff_eq, decide_eq_true_eq]
  omega

theorem has_c (d v : Nat) (hd : d < 64) (hv : v < 6) (w : World) :
    Calls Tryz.prog 69 #[.int .i64 d, .int .i64 v] w fun e w' => e = .returned (.bool (d.testBit v)) ∧ w' = w := by
  go_enter Tryz.func69, Tryz.ntmps69
  go_wp2_with fail
  go_ret
  exact ⟨ret_bool (testBit_and d v hd), rfl⟩

end Go.Proofs.YtmonhpoogfdpoaaGreatDoor

namespace Go.Proofs.YtmonhpoogfdpoaaGreatDoor
open Go.RowKit

theorem run_eql_slice_nil {P : Program} (w : World) (t e : TypeId) (a : Option Addr) (l c : Nat) (h : P.underlying t = some (.slice e)) : (binOp .eql t (.slice a l c) (.slice none 0 0)).run P w = .ok (.bool a.isNone) w := by
  simp only [binOp]
  simp [run_equal_slice_nil w t e a l c h]
attribute [local go_sem] run_eql_slice_nil

set_option maxRecDepth 100000 in
theorem Clone_c (v : Value) (xs : List Int) (w : World) (hx : Nums [] w .i64 v xs) (hl : xs.length ≤ 2000000) :
    Calls Tryz.prog 94 #[v] w fun e w' => ∃ v', e = .returned v' ∧ Own w.heap.size w' 3 v' xs ∧ Gr [] w w' := by
  have hund := Tryz.underlying24
  have Hx := hid hx
  obtain ⟨ao, cap, rfl, ⟨h1, h2, h3⟩, _⟩ := hx
  cases ao with
  | none =>
    have hcap := h3 rfl
    have hxs : xs = [] := List.eq_nil_of_length_eq_zero (by omega)
    clear Hx
    subst hcap hxs
    clear h1 h2 h3
    go_enter Tryz.func94, Tryz.ntmps94
    go_wp2_with fail
    go_ret
    exact ⟨_, rfl, Own.nil _ _ _, Gr.refl _ _⟩
  | some ad =>
    clear h3
    go_enter Tryz.func94, Tryz.ntmps94
    go_wp2_with (at_builtin; refine wp_appN rfl _ _ 24 rfl w.heap.size 3 infoI Tryz.underlying24 _ [] xs rfl (Own.empty w 3 (Nat.le_refl _)) _ [] rfl (Hx.out.gr ((Gr.refl [] w).alloc _)) (by simp; omega) (by simp) ?_; intro v' w' hown hb)
    go_ret
    exact ⟨_, rfl, by simpa using hown, ((Gr.refl [] w).alloc _).low hb (Nat.le_refl _)⟩

/-- A list of numbers at the head of a block from B on; the slice may reach less far than the block. -/
def OwnC (B : Nat) (w : World) (e : TypeId) (v : Value) (xs : List Int) : Prop :=
  (v = .slice none 0 0 ∧ xs = []) ∨ ∃ g cap cur, v = .slice (some ⟨g, 0, none⟩) xs.length cap ∧ B ≤ g ∧ w.heap[g]? = some (.cells cur e (0, 0)) ∧ xs.length ≤ cap ∧ cap ≤ maxLen ∧ cap ≤ cur.size ∧ cur.toList.take xs.length = xs.map (Value.int .i64)
theorem Own.c {B : Nat} {w : World} {e : TypeId} {v : Value} {xs : List Int} (h : Own B w e v xs) : OwnC B w e v xs := by
  rcases h.2 with ⟨h1, h2⟩ | ⟨g, cap, cur, h1, h2, h3, h4, h5, h6, h7⟩
  · exact .inl ⟨h1, List.eq_nil_of_length_eq_zero h2⟩
  · exact .inr ⟨g, cap, cur, h1, h2, h3, h4, h5, by omega, by simpa using h7⟩

theorem OwnC.gr {S : List Nat} {B : Nat} {w w' : World} {e : TypeId} {v : Value} {xs : List Int} (h : OwnC B w e v xs) (hg : Gr S w w') (hS : ∀ b ∈ S, b < B) : OwnC B w' e v xs := by
  rcases h with h | ⟨g, cap, cur, h1, h2, h3, r⟩
  · exact .inl h
  · exact .inr ⟨g, cap, cur, h1, h2, hg.obj h3 (fun hm => by have := hS g hm; omega), r⟩
theorem OwnC.nums' {S : List Nat} {B : Nat} {w : World} {e : TypeId} {v : Value} {xs : List Int} (h : OwnC B w e v xs) (hS : ∀ b ∈ S, b < B ∨ w.heap.size ≤ b) : Nums S w .i64 v xs := by
  rcases h with ⟨rfl, rfl⟩ | ⟨g, cap, cur, rfl, h2, h3, h4, h5, h6, h7⟩
  · exact ⟨none, 0, rfl, ⟨Nat.le_refl _, by omega, fun _ => rfl⟩, fun i x hi => by simp at hi⟩
  · have hlt := (Array.getElem?_eq_some_iff.1 h3).1
    refine ⟨some ⟨g, 0, none⟩, cap, rfl, ⟨h4, by simp only [maxLen] at h5; omega, by simp⟩, fun i x hi => ⟨g, 0, rfl, fun hm => by rcases hS g hm with h | h <;> omega, ?_⟩⟩
    have hil : i < xs.length := (List.getElem?_eq_some_iff.1 hi).1
    have e1 := congrArg (fun t => t[i]?) h7
    simp only [List.getElem?_take, hil, if_true, List.getElem?_map, hi] at e1
    have e2 : cur[i]? = some (.int .i64 x) := by simpa using e1
    simp [World.cell?, h3, e2]
theorem Clip_c (v : Value) (xs : List Int) (w : World) (B : Nat) (hx : OwnC B w 3 v xs) (hl : xs.length ≤ 2000000) :
    Calls Tryz.prog 93 #[v] w fun e w' => ∃ v', e = .returned v' ∧ OwnC B w' 3 v' xs ∧ w' = w := by
  rcases hx with ⟨rfl, rfl⟩ | ⟨g, cap, cur, rfl, h2, h3, h4, h5, h6, h7⟩
  · go_enter Tryz.func93, Tryz.ntmps93
    go_wp2_with fail
    go_ret
    exact ⟨_, rfl, .inl ⟨rfl, rfl⟩, rfl⟩
  · have H := hid (And.intro h3 h7)
    clear h3 h7
    go_enter Tryz.func93, Tryz.ntmps93
    go_wp2_with fail
    go_ret
    exact ⟨_, rfl, .inr ⟨g, xs.length, cur, rfl, h2, H.out.1, Nat.le_refl _, by omega, by omega, H.out.2⟩, rfl⟩

theorem copied_c (v : Value) (xs : List Int) (w : World) (hx : Nums [] w .i64 v xs) (hl : xs.length ≤ 2000000) :
    Calls Tryz.prog 57 #[v] w fun e w' => ∃ v', e = .returned v' ∧ OwnC w.heap.size w' 3 v' xs ∧ Gr [] w w' := by
  have Hx := hid hx
  obtain ⟨ao, cap, rfl, ⟨h1, h2, h3⟩, _⟩ := hx
  go_enter Tryz.func57, Tryz.ntmps57
  go_wp2_with fail
  refine (Clone_c _ xs _ Hx.out hl).mono ?_
  rintro e w1 ⟨v1, rfl, hown, hg⟩
  go_wp2_with fail
  refine (Clip_c v1 xs w1 _ hown.c hl).mono ?_
  rintro e w2 ⟨v2, rfl, hown2, rfl⟩
  go_wp2_with fail
  go_ret
  exact ⟨_, rfl, hown2, hg⟩
end Go.Proofs.YtmonhpoogfdpoaaGreatDoor

set_option linter.unusedVariables false
namespace Go.Proofs.YtmonhpoogfdpoaaGreatDoor
open Go.RowKit

end Go.Proofs.YtmonhpoogfdpoaaGreatDoor
