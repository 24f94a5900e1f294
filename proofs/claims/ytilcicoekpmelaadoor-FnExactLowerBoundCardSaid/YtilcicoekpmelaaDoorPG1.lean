/-
  Walks of generators: some variables, an automaton, domains.
  Walk of the generator of automata.
  What the generator of constraints leaves, and small facts for its walk.
-/
import Derived.Test.YtilcicoekpmelaaDoorPFP
import Derived.Test.YtilcicoekpmelaaDoorPA
set_option linter.unusedVariables false
namespace Go.Proofs.YtilcicoekpmelaaDoor
open Go.RowKit

theorem infoR : (Tryd.prog.info? 22).map (fun i => (i.zero, i.size, i.bytes)) = some (some (.slice none 0 0), 1, 24) := by kernel_rfl
theorem infoC : (Tryd.prog.info? 53).map (fun i => (i.zero, i.size, i.bytes)) = some (some (.agg #[.int .i64 0, .slice none 0 0, .slice none 0 0, .int .i64 0, .slice none 0 0]), 5, 88) := by kernel_rfl

theorem OwnC.take {B : Nat} {w : World} {e : TypeId} {ao : Option Addr} {n cap : Nat} {xs : List Int} (h : Own B w e (.slice ao n cap) xs) (k : Nat) (hk : k ≤ xs.length) : OwnC B w e (.slice ao k cap) (xs.take k) := by
  rcases h.2 with ⟨h1, h2⟩ | ⟨g, cap', cur, e1, h2, h3, h4, h5, h6, h7⟩
  · cases h1
    have : xs = [] := List.eq_nil_of_length_eq_zero h2
    subst this
    exact .inl ⟨by simp at hk; rw [hk], by simp⟩
  · cases e1
    refine .inr ⟨g, cap, cur, by rw [List.length_take, Nat.min_eq_left hk], h2, h3, by rw [List.length_take]; omega, h5, by omega, ?_⟩
    rw [List.length_take, Nat.min_eq_left hk]
    have := congrArg (List.take k) h7
    rw [List.take_take, Nat.min_eq_left (by omega)] at this
    rw [this, List.map_take]

end Go.Proofs.YtilcicoekpmelaaDoor

namespace Go.Proofs.YtilcicoekpmelaaDoor
open Go.RowKit

end Go.Proofs.YtilcicoekpmelaaDoor

namespace Go.Proofs.YtilcicoekpmelaaDoor
open Go.RowKit

theorem OwnC.form {B : Nat} {w : World} {e : TypeId} {v : Value} {xs : List Int} (h : OwnC B w e v xs) : ∃ vo vc, v = .slice vo xs.length vc := by
  rcases h with ⟨h, h2⟩ | ⟨g, cap, cur, h, _⟩
  · subst h2; exact ⟨_, _, h⟩
  · exact ⟨_, _, h⟩
def FrR (lo hi : Nat) (w : World) (v : Value) (rows : List (List Int)) : Prop := ∀ S : List Nat, (∀ b ∈ S, b < lo ∨ hi ≤ b) → RowsV S w v rows
theorem FrR.gr {lo hi : Nat} {S : List Nat} {w w' : World} {v : Value} {rows : List (List Int)} (h : FrR lo hi w v rows) (hg : Gr S w w') (hS : ∀ b ∈ S, b < lo ∨ hi ≤ b) : FrR lo hi w' v rows := fun S0 h0 =>
  ((h (S ++ S0) (by intro b hb; rcases List.mem_append.1 hb with hb | hb; exact hS b hb; exact h0 b hb)).gr (hg.sub fun k _ hk => by simp [hk])).sub fun b _ hb => by simp [hb]
theorem FrR.mono {lo hi lo' hi' : Nat} {w : World} {v : Value} {xs : List (List Int)} (h : FrR lo hi w v xs) (h1 : lo' ≤ lo) (h2 : hi ≤ hi') : FrR lo' hi' w v xs := fun S hS => h S fun b hb => (hS b hb).imp (by omega) (by omega)
theorem FrR.nil (lo hi : Nat) (w : World) : FrR lo hi w (.slice none 0 0) [] := fun S _ => ⟨none, 0, rfl, by simp, fun i r hi => by simp at hi⟩
/-- Of small size. -/
structure Tiny (c : Con) : Prop where
  vars : c.vars.length ≤ 100
  args : c.args.length ≤ 100
  rows : c.rows.length ≤ 100
  row : ∀ r ∈ c.rows, r.length ≤ 100
theorem Tiny.small {c : Con} (h : Tiny c) : c.Small := ⟨by have := h.vars; omega, by have := h.args; omega, by have := h.rows; omega, fun r hr => by have := h.row r hr; omega⟩

theorem below_gr {B : Nat} {w w' : World} (h : Below B w w') : Gr (List.range' B (w.heap.size - B)) w w' :=
  ⟨h.os, h.tape, h.output, h.size, fun k hk hm => h.block k (by
    rcases Nat.lt_or_ge k B with h1 | h1
    · exact h1
    · exact absurd (List.mem_range'_1.2 ⟨h1, by omega⟩) hm)⟩
theorem OwnG.ownB {α : Type} {size : Nat} {el : List Nat → World → List Value → α → Prop} {B : Nat} {w : World} {e : TypeId} {v : Value} {xs : List α} (h : OwnG size el B w e v xs) {b : Nat} (hb : v.ownBlock = some b) : B ≤ b ∧ b < w.heap.size :=
  let ⟨_, _, _, h3, _⟩ := h; ownsRow_ownBlock h3 hb
theorem OwnG.below {α : Type} {size : Nat} {el : List Nat → World → List Value → α → Prop} {B : Nat} {w w' : World} {e : TypeId} {v : Value} {xs : List α} (h : OwnG size el B w e v xs) (hg : Gr v.ownBlock.toList w w') (hB : B ≤ w.heap.size) : Below B w w' :=
  ⟨hg.os, hg.tape, hg.output, hg.size, fun k hk => hg.block k (by omega) (fun hm => by have := (h.ownB (b := k) (by simpa using hm)).1; omega)⟩
end Go.Proofs.YtilcicoekpmelaaDoor
