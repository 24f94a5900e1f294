/-
  Literals and clauses as plain data; how they are read in memory; the plain meaning of the checks on them. No program is mentioned.
  Plain laws of stores: larger domains have a larger fixpoint; two decisions in either order lead to the same domains. No program is mentioned.
-/
import Derived.Test.YtihkeihnpiddoaaGreatXLib
import Derived.Test.YtihkeihnpiddoaaGreatXFP
set_option linter.unusedVariables false
set_option linter.unusedSimpArgs false
namespace Go.Proofs.YtihkeihnpiddoaaGreat
open Go.RowKit

structure Lit where
  var : Int
  val : Int
  neg : Bool
instance : DecidableEq Lit := fun a b =>
  decidable_of_iff (a.var = b.var ∧ a.val = b.val ∧ a.neg = b.neg) ⟨fun ⟨h1, h2, h3⟩ => by cases a; cases b; simp_all, fun h => by subst h; exact ⟨rfl, rfl, rfl⟩⟩
instance : Inhabited Lit := ⟨⟨0, 0, false⟩⟩
abbrev Cls := List Lit

/-- The cells of a list of literals, three each. -/
def LCells (S : List Nat) (w : World) (ao : Option Addr) (ls : Cls) : Prop :=
  ∀ i l, ls[i]? = some l → ∃ b o, ao = some ⟨b, o, none⟩ ∧ b ∉ S ∧
    (w.cell? ⟨b, o + i * 3, none⟩ = some (.int .i64 l.var) ∧ w.cell? ⟨b, o + i * 3 + 1, none⟩ = some (.int .i64 l.val) ∧ w.cell? ⟨b, o + i * 3 + 2, none⟩ = some (.bool l.neg))
def LitsV (S : List Nat) (w : World) (v : Value) (ls : Cls) : Prop :=
  ∃ ao cap, v = .slice ao ls.length cap ∧ (ls.length ≤ cap ∧ cap ≤ 9223372036854775807 ∧ (ao = none → cap = 0)) ∧ LCells S w ao ls
theorem LCells.gr {S : List Nat} {w w' : World} {ao : Option Addr} {ls : Cls} (h : LCells S w ao ls) (hg : Gr S w w') : LCells S w' ao ls :=
  fun i l hi => let ⟨b, o, e, hs, h0, h1, h2⟩ := h i l hi; ⟨b, o, e, hs, hg.cell h0 hs, hg.cell h1 hs, hg.cell h2 hs⟩
theorem LitsV.gr {S : List Nat} {w w' : World} {v : Value} {ls : Cls} (h : LitsV S w v ls) (hg : Gr S w w') : LitsV S w' v ls :=
  let ⟨ao, cap, e, hl, hc⟩ := h; ⟨ao, cap, e, hl, hc.gr hg⟩
theorem LitsV.slice {S : List Nat} {w : World} {v : Value} {ls : Cls} (h : LitsV S w v ls) : ∃ ao cap, v = .slice ao ls.length cap ∧ (ls.length ≤ cap ∧ cap ≤ 9223372036854775807) := by
  obtain ⟨ao, cap, e, ⟨h1, h2, -⟩, -⟩ := h
  exact ⟨ao, cap, e, h1, h2⟩
theorem LitsV.at {S : List Nat} {w : World} {ao : Option Addr} {n cap : Nat} {ls : Cls} (h : LitsV S w (.slice ao n cap) ls) {i : Nat} {l : Lit} (hi : ls[i]? = some l) :
    ∃ b o, ao = some ⟨b, o, none⟩ ∧ b ∉ S ∧ w.cell? ⟨b, o + i * 3, none⟩ = some (.int .i64 l.var) ∧ w.cell? ⟨b, o + i * 3 + 1, none⟩ = some (.int .i64 l.val) ∧ w.cell? ⟨b, o + i * 3 + 2, none⟩ = some (.bool l.neg) := by
  obtain ⟨ao', cap', e, _, hc⟩ := h
  simp only [Value.slice.injEq] at e
  obtain ⟨rfl, _, _⟩ := e
  exact hc i l hi
/-! ### The order of literals -/
/-- Literals of n variables. -/
def litOk (n : Int) (l : Lit) : Bool := inB 0 (n - 1) l.var && inB 0 5 l.val
/-! ### Insertion into an ascending list -/
end Go.Proofs.YtihkeihnpiddoaaGreat

set_option linter.unusedVariables false
set_option linter.unusedSimpArgs false
namespace Go.Proofs.YtihkeihnpiddoaaGreat
open Go.RowKit

/-- A domain is cut by a set. -/
def andAt (D : List Nat) (i d : Nat) : List Nat := D.set i (D.getD i 0 &&& d)
theorem andAt_len (D : List Nat) (i d : Nat) : (andAt D i d).length = D.length := by simp [andAt]
theorem andAt_get (D : List Nat) (i d k : Nat) : (andAt D i d).getD k 0 = if k = i then D.getD i 0 &&& d else D.getD k 0 := by
  unfold andAt
  simp only [List.getD_eq_getElem?_getD, List.getElem?_set]
  by_cases h : i = k
  · subst h
    rw [if_pos rfl, if_pos rfl]
    by_cases hl : i < D.length
    · rw [if_pos hl]; rfl
    · rw [if_neg hl, List.getElem?_eq_none (by omega)]; simp
  · rw [if_neg h, if_neg (fun e => h e.symm)]
theorem andAt_bit {D : List Nat} {i d k n : Nat} : ((andAt D i d).getD k 0).testBit n = true ↔ (D.getD k 0).testBit n = true ∧ (k = i → d.testBit n = true) := by
  rw [andAt_get]
  by_cases h : k = i
  · subst h; rw [if_pos rfl, Nat.testBit_and, Bool.and_eq_true]; simp
  · rw [if_neg h]; simp [h]
theorem andAt_sub (D : List Nat) (i d : Nat) : Sub (andAt D i d) D := ⟨andAt_len _ _ _, fun k n h => (andAt_bit.1 h).1⟩
theorem andAt_below {D : List Nat} (h : Below64 D) (i d : Nat) : Below64 (andAt D i d) := (andAt_sub D i d).below h
end Go.Proofs.YtihkeihnpiddoaaGreat
