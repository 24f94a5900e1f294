/-
  Data with a home: readings in blocks that a predicate names, none of them frozen; and what a call does that writes numbers over numbers. No program is mentioned.
  How a slice of numbers that came in is read.
  How a model and a constraint that came in as arguments are read.
-/
import Derived.Test.YtmonhpoogfdpoaaGreatXFP
import Derived.Lib.SmallJoins
import Derived.Test.YtmonhpoogfdpoaaGreatXLib
import Derived.Test.YtmonhpoogfdpoaaGreatXA
import Derived.Deep.Slices
import Derived.ChangeArms
set_option linter.unusedVariables false
namespace Go.Proofs.YtmonhpoogfdpoaaGreat
open Go.RowKit

def but (M : Nat → Prop) (b : Nat) (k : Nat) : Prop := M k ∧ k ≠ b
section
variable {M M' : Nat → Prop} {S : List Nat} {w w' : World}
end

/-- Blocks made since. -/
def New (B : Nat) (w : World) (b : Nat) : Prop := B ≤ b ∧ b < w.heap.size
/-! ### Numbers written over numbers -/
section
variable {M M' : Nat → Prop} {w w' : World}
end

/-! ### Stores -/
/-! ### New rows -/
end Go.Proofs.YtmonhpoogfdpoaaGreat

set_option linter.unusedVariables false
namespace Go.Proofs.YtmonhpoogfdpoaaGreat
open Go.RowKit

/-- WHAT THE WALK IS TOLD OF A SLICE OF INTEGERS THAT CAME IN: it is nil; or it leads to a row of 'cap' cells, the numbers 'zs' (the first 'len' are its elements, the rest its spare room), each fitting its kind. -/
def IsRow (k : IntKind) (w : World) (a : Option Addr) (len cap : Nat) (zs : List Int) : Prop :=
  (a = none ∧ len = 0 ∧ cap = 0 ∧ zs = []) ∨
  ∃ x, a = some x ∧ len ≤ cap ∧ cap ≤ maxLen ∧ zs.length = cap ∧ (∀ i, i < zs.length → w.cell? (x.add i) = some (.int k (zs.getD i 0))) ∧ ∀ n ∈ zs, (Lit.int k n).wf = true

theorem addr_add (b o i : Nat) : (⟨b, o, none⟩ : Addr).add i = ⟨b, o + i, none⟩ := by unfold Addr.add; split <;> simp_all
theorem spot_none {w : World} {a : Addr} {v : Value} (h : w.cell? a = some v) : a.spot = none := by
  unfold World.cell? at h
  split at h
  · split at h
    · cases h
    · rename_i hs; simpa using hs
  · cases h
theorem row_open {k : IntKind} {w : World} {ao : Option Addr} {len cap : Nat} {zs : List Int} (h : IsRow k w ao len cap zs) :
    ∃ xs : List Int, len = xs.length ∧ (xs.length ≤ cap ∧ cap ≤ 9223372036854775807 ∧ (ao = none → cap = 0)) ∧ Cells [] w k ao xs ∧ ∀ x ∈ xs, (Lit.int k x).wf = true := by
  rcases h with ⟨rfl, rfl, rfl, rfl⟩ | ⟨x, rfl, hlc, hcm, hzl, hcell, hwz⟩
  · exact ⟨[], rfl, by simp, fun i x hi => by simp at hi, by simp⟩
  · refine ⟨zs.take len, by rw [List.length_take]; omega, ⟨by rw [List.length_take]; omega, by simpa [maxLen] using hcm, by simp⟩, fun i y hi => ?_, fun y hy => hwz y (List.mem_of_mem_take hy)⟩
    rw [List.getElem?_take] at hi
    split at hi
    · have hi' := (List.getElem?_eq_some_iff.1 hi).1
      have h0 := hcell 0 (by omega)
      have hx : x = ⟨x.block, x.off, none⟩ := by
        have := spot_none h0
        simp [Addr.add] at this
        cases x; simp_all
      have h1 := hcell i hi'
      rw [hx, addr_add] at h1
      refine ⟨x.block, x.off, by rw [← hx], by simp, ?_⟩
      rw [h1]; simp [hi]
    · cases hi
theorem wf_u8 {x : Int} (h : (Lit.int .u8 x).wf = true) : 0 ≤ x ∧ x ≤ 255 := by
  simpa [Lit.wf, IntKind.min, IntKind.max, IntKind.signed, IntKind.bits] using h
end Go.Proofs.YtmonhpoogfdpoaaGreat

set_option linter.unusedVariables false
namespace Go.Proofs.YtmonhpoogfdpoaaGreat
open Go.RowKit Go.ChangeShapes Go.WideShapes

instance : Inhabited Con := ⟨⟨0, [], [], 0, []⟩⟩
section
variable {H : Type} {enc : TypeId × Value → H} {W : World} {held : Bool}

set_option maxRecDepth 100000
end
end Go.Proofs.YtmonhpoogfdpoaaGreat
