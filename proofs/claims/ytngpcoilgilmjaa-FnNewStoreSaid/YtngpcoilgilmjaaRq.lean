/-
  Plain laws of repair: solutions that agree with a plan, and the nearest of them.
  Walks of repair: distances, agreement, the nearest solution; the program's and the reference's.
  Walks of repair, second part: agreeing, Repair; the reference's.
-/
import Derived.Test.YtngpcoilgilmjaaOb
import Derived.Test.YtngpcoilgilmjaaNs
import Derived.Test.YtngpcoilgilmjaaDf
set_option linter.unusedVariables false
set_option linter.unusedSimpArgs false
namespace Go.Proofs.Ytngpcoilgilmjaa
open Go.RowKit

def apN (a b : List Int) (n : Nat) : Nat := ((List.range n).filter fun i => a.getD i 0 != b.getD i 0).length
theorem apN_zero (a b : List Int) : apN a b 0 = 0 := rfl
theorem getD_here {xs : List Int} {i : Nat} {x : Int} (h : xs[i]? = some x) : xs.getD i 0 = x := by rw [List.getD_eq_getElem?_getD, h]; rfl
theorem apN_succ {a b : List Int} {n : Nat} {x y : Int} (h1 : a[n]? = some x) (h2 : b[n]? = some y) : apN a b (n + 1) = apN a b n + if x == y then 0 else 1 := by
  unfold apN
  rw [List.range_succ, List.filter_append, List.length_append]
  congr 1
  simp only [List.filter_cons, List.filter_nil, getD_here h1, getD_here h2, bne]
  cases x == y <;> rfl
theorem apN_le (a b : List Int) (n : Nat) : apN a b n ≤ n := by
  have := List.length_filter_le (fun i => a.getD i 0 != b.getD i 0) (List.range n)
  rwa [List.length_range] at this
theorem apN_self (a : List Int) (n : Nat) : apN a a n = 0 := by
  unfold apN
  rw [List.length_eq_zero_iff, List.filter_eq_nil_iff]
  intro i _
  simp
theorem apN_eq {a b : List Int} (hl : a.length = b.length) (h : apN a b a.length = 0) : a = b := by
  unfold apN at h
  rw [List.length_eq_zero_iff, List.filter_eq_nil_iff] at h
  apply List.ext_getElem hl
  intro i h1 h2
  have := h i (List.mem_range.2 h1)
  simpa [List.getD_eq_getElem?_getD, List.getElem?_eq_getElem h1, List.getElem?_eq_getElem h2] using this

/-! ### Agreement -/
def agI (on : Nat → Bool) (old x : List Int) (n : Nat) : Bool := (List.range n).all fun i => !(on i && (x.getD i 0 != old.getD i 0))
theorem agI_zero (on : Nat → Bool) (old x : List Int) : agI on old x 0 = true := rfl
theorem agI_succ (on : Nat → Bool) {old x : List Int} {n : Nat} {y z : Int} (h1 : x[n]? = some y) (h2 : old[n]? = some z) : agI on old x (n + 1) = (agI on old x n && !(on n && (y != z))) := by
  unfold agI
  rw [List.range_succ, List.all_append]
  simp [h1, h2, bne]
theorem agI_false {on : Nat → Bool} {old x : List Int} {n k : Nat} (hk : k < n) (h : on k = true) (hne : (x.getD k 0 != old.getD k 0) = true) : agI on old x n = false := by
  unfold agI
  rw [List.all_eq_false]
  exact ⟨k, List.mem_range.2 hk, by rw [h, hne]; simp⟩
theorem agI_self (on : Nat → Bool) (x : List Int) (n : Nat) : agI on x x n = true := by
  unfold agI
  rw [List.all_eq_true]
  intro i _
  simp
def onL (fr : List Int) (i : Nat) : Bool := fr.contains (i : Int)
def keepB (fr old x : List Int) : Bool := fr.all fun f => x.getD f.toNat 0 == old.getD f.toNat 0
theorem keep_ag {fr old x : List Int} (h : ∀ f ∈ fr, 0 ≤ f ∧ f < x.length) : keepB fr old x = agI (onL fr) old x x.length := by
  rw [Bool.eq_iff_iff]
  unfold keepB agI onL
  rw [List.all_eq_true, List.all_eq_true]
  constructor
  · intro h1 i hi
    cases hc : fr.contains (i : Int)
    · rfl
    · have h2 := h1 i (by simpa using hc)
      rw [Int.toNat_natCast] at h2
      simp only [Bool.true_and, bne, h2, Bool.not_true, Bool.not_false]
  · intro h1 f hf
    obtain ⟨h2, h3⟩ := h f hf
    have h4 := h1 f.toNat (List.mem_range.2 (by omega))
    have hc : fr.contains ((f.toNat : Nat) : Int) = true := by rw [Int.toNat_of_nonneg h2]; simpa using hf
    rw [hc] at h4
    simpa [bne] using h4
theorem bestF_succ {cost : List Int → Int} {p : List Int → Bool} {zs : List (List Int)} {n : Nat} {x : List Int} (h : zs[n]? = some x) :
    bestO cost ((zs.take (n + 1)).filter p) = if p x then bstep cost (bestO cost ((zs.take n).filter p)) x else bestO cost ((zs.take n).filter p) := by
  rw [List.take_add_one, h, List.filter_append]
  unfold bestO
  rw [List.foldl_append]
  cases hp : p x <;> simp [hp]

/-! ### The nearest solution -/
def frB (fr : List Int) (n : Nat) : Bool := decide ((fr.length : Int) ≤ 4) && allB 0 ((n : Int) - 1) fr
def nearO (cs : List Con) (D : List Nat) (old fr : List Int) : Option (List Int) := bestO (fun x => (apN x old x.length : Int)) ((sols cs D).filter fun x => agI (onL fr) old x x.length)
def repO (m : Mod) (D : List Nat) (old fr : List Int) : Option (List Int) := if validM m && (asgB old m.doms.length && frB fr m.doms.length) then nearO m.cons D old fr else none
theorem repO_no {m : Mod} {D : List Nat} {old fr : List Int} (h : (validM m && (asgB old m.doms.length && frB fr m.doms.length)) = false) : repO m D old fr = none := by unfold repO; rw [h]; rfl
theorem repO_yes {m : Mod} {D : List Nat} {old fr : List Int} (h : (validM m && (asgB old m.doms.length && frB fr m.doms.length)) = true) : repO m D old fr = nearO m.cons D old fr := by unfold repO; rw [h]; rfl
theorem nearO_mem {cs : List Con} {D : List Nat} {old fr y : List Int} (h : nearO cs D old fr = some y) : y ∈ sols cs D ∧ agI (onL fr) old y y.length = true := by
  have h1 := bestO_mem h
  exact ⟨(List.mem_filter.1 h1).1, (List.mem_filter.1 h1).2⟩
theorem nearO_least {cs : List Con} {D : List Nat} {old fr y x : List Int} (h : nearO cs D old fr = some y) (hx : x ∈ sols cs D) (ha : agI (onL fr) old x x.length = true) : apN y old y.length ≤ apN x old x.length := by
  have := bestO_least h x (List.mem_filter.2 ⟨hx, ha⟩)
  omega
theorem nearO_len {cs : List Con} {D : List Nat} {old fr : List Int} (hl : D.length ≤ 4) : ((nearO cs D old fr).getD []).length ≤ 1000000 := by
  cases h : nearO cs D old fr with
  | none => simp
  | some y =>
    have := (solv (nearO_mem h).1).1
    simp only [Option.getD_some]; omega
theorem repO_len (m : Mod) (old fr : List Int) (D : List Nat) (hD : validM m = true → VM m D) : ((repO m D old fr).getD []).length ≤ 1000000 := by
  cases h : (validM m && (asgB old m.doms.length && frB fr m.doms.length))
  · rw [repO_no h]; simp
  · rw [repO_yes h]
    rw [Bool.and_eq_true] at h
    exact nearO_len (hD h.1).len.2
theorem frB_in {fr : List Int} {n : Nat} (h : frB fr n = true) : fr.length ≤ 4 ∧ ∀ f ∈ fr, 0 ≤ f ∧ f < n := by
  unfold frB at h
  rw [Bool.and_eq_true, decide_eq_true_eq] at h
  refine ⟨by have := h.1; omega, fun f hf => ?_⟩
  have := (allB_iff.1 h.2) f hf
  omega
end Go.Proofs.Ytngpcoilgilmjaa

set_option linter.unusedVariables false
set_option linter.unusedSimpArgs false
namespace Go.Proofs.Ytngpcoilgilmjaa
open Go.RowKit





end Go.Proofs.Ytngpcoilgilmjaa

set_option linter.unusedVariables false
set_option linter.unusedSimpArgs false
namespace Go.Proofs.Ytngpcoilgilmjaa
open Go.RowKit





end Go.Proofs.Ytngpcoilgilmjaa
