/-
  Literals and clauses as plain data; how they are read in memory; the plain meaning of the checks on them. No program is mentioned.
  Plain laws of stores: larger domains have a larger fixpoint; two decisions in either order lead to the same domains. No program is mentioned.
-/
import Derived.Test.YtihkeihnpiddoaaGreatDLib
import Derived.Test.YtihkeihnpiddoaaGreatDFP
set_option linter.unusedVariables false
set_option linter.unusedSimpArgs false
namespace Go.Proofs.YtihkeihnpiddoaaGreat
open Go.RowKit

structure Lit where
  var : Int
  val : Int
  neg : Bool
instance : DecidableEq Lit := fun a b =>
  decidable_of_iff (a.var = b.var ∧ a.val = b.val ∧ a.neg = b.neg) ⟨fun ⟨h1, h2, h3⟩ => by cases a; cases b; simp_all, fun h => by subst h; exact ⟨rfl, rfl, rfl⟩⟩
instance : Inhabited Lit := ⟨⟨0, 0, false⟩⟩
abbrev Cls := List Lit

/-- The cells of a list of literals, three each. -/
def LCells (S : List Nat) (w : World) (ao : Option Addr) (ls : Cls) : Prop :=
  ∀ i l, ls[i]? = some l → ∃ b o, ao = some ⟨b, o, none⟩ ∧ b ∉ S ∧
    (w.cell? ⟨b, o + i * 3, none⟩ = some (.int .i64 l.var) ∧ w.cell? ⟨b, o + i * 3 + 1, none⟩ = some (.int .i64 l.val) ∧ w.cell? ⟨b, o + i * 3 + 2, none⟩ = some (.bool l.neg))
def LitsV (S : List Nat) (w : World) (v : Value) (ls : Cls) : Prop :=
  ∃ ao cap, v = .slice ao ls.length cap ∧ (ls.length ≤ cap ∧ cap ≤ 9223372036854775807 ∧ (ao = none → cap = 0)) ∧ LCells S w ao ls
theorem LCells.gr {S : List Nat} {w w' : World} {ao : Option Addr} {ls : Cls} (h : LCells S w ao ls) (hg : Gr S w w') : LCells S w' ao ls :=
  fun i l hi => let ⟨b, o, e, hs, h0, h1, h2⟩ := h i l hi; ⟨b, o, e, hs, hg.cell h0 hs, hg.cell h1 hs, hg.cell h2 hs⟩
theorem LitsV.gr {S : List Nat} {w w' : World} {v : Value} {ls : Cls} (h : LitsV S w v ls) (hg : Gr S w w') : LitsV S w' v ls :=
  let ⟨ao, cap, e, hl, hc⟩ := h; ⟨ao, cap, e, hl, hc.gr hg⟩
theorem LitsV.slice {S : List Nat} {w : World} {v : Value} {ls : Cls} (h : LitsV S w v ls) : ∃ ao cap, v = .slice ao ls.length cap ∧ (ls.length ≤ cap ∧ cap ≤ 9223372036854775807) := by
  obtain ⟨ao, cap, e, ⟨h1, h2, -⟩, -⟩ := h
  exact ⟨ao, cap, e, h1, h2⟩
theorem LitsV.at {S : List Nat} {w : World} {ao : Option Addr} {n cap : Nat} {ls : Cls} (h : LitsV S w (.slice ao n cap) ls) {i : Nat} {l : Lit} (hi : ls[i]? = some l) :
    ∃ b o, ao = some ⟨b, o, none⟩ ∧ b ∉ S ∧ w.cell? ⟨b, o + i * 3, none⟩ = some (.int .i64 l.var) ∧ w.cell? ⟨b, o + i * 3 + 1, none⟩ = some (.int .i64 l.val) ∧ w.cell? ⟨b, o + i * 3 + 2, none⟩ = some (.bool l.neg) := by
  obtain ⟨ao', cap', e, _, hc⟩ := h
  simp only [Value.slice.injEq] at e
  obtain ⟨rfl, _, _⟩ := e
  exact hc i l hi
/-! ### The order of literals -/
/-- Literals of n variables. -/
def litOk (n : Int) (l : Lit) : Bool := inB 0 (n - 1) l.var && inB 0 5 l.val
/-! ### Insertion into an ascending list -/
end Go.Proofs.YtihkeihnpiddoaaGreat

set_option linter.unusedVariables false
set_option linter.unusedSimpArgs false
namespace Go.Proofs.YtihkeihnpiddoaaGreat
open Go.RowKit

theorem Sub.word {D E : List Nat} (h : Sub D E) (vars : List Int) : Sub (wordN vars D) (wordN vars E) := by
  refine ⟨by rw [wordN_len, wordN_len], fun i n hb => ?_⟩
  cases hv : vars[i]? with
  | none =>
    rw [List.getD_eq_getElem?_getD, List.getElem?_eq_none (by rw [wordN_len]; exact List.getElem?_eq_none_iff.1 hv)] at hb
    simp at hb
  | some v =>
    rw [List.getD_eq_getElem?_getD, wordN_get _ _ _ _ hv] at hb ⊢
    exact h.2 _ _ hb
theorem filt_mono {c : Con} {D E : List Nat} (hc : VC c D.length) (h : Sub D E) : Sub (filt c D) (filt c E) := by
  have hc' : VC c E.length := by rw [← h.1]; exact hc
  refine ⟨by rw [filt_len, filt_len]; exact h.1, fun i n hb => ?_⟩
  rcases var_cases c i with hi | ⟨k, v, hk, rfl⟩
  · rw [filt_other hi] at hb ⊢
    exact h.2 _ _ hb
  · obtain ⟨t, ht, h1, h2⟩ := (filt_at hc hk n).1 hb
    exact (filt_at hc' hk n).2 ⟨t, In.mono ht (h.word c.vars), h1, h2⟩
theorem stepF_mono {cs : List Con} {D E : List Nat} (hc : VCs cs D.length) (h : Sub D E) : Sub (stepF cs D) (stepF cs E) := by
  induction cs generalizing D E with
  | nil => exact h
  | cons c r ih =>
    simp only [stepF, List.foldl_cons]
    exact ih (fun c' hc' => by rw [filt_len]; exact hc c' (List.mem_cons_of_mem _ hc')) (filt_mono (hc c (List.mem_cons_self ..)) h)
theorem Sub.zero {D E : List Nat} (h : Sub D E) (h0 : 0 ∈ E) : 0 ∈ D := by
  obtain ⟨i, hi⟩ := List.mem_iff_getElem?.1 h0
  have hil : i < D.length := by have := (List.getElem?_eq_some_iff.1 hi).1; have := h.1; omega
  have e : D.getD i 0 = 0 := by
    refine Nat.eq_of_testBit_eq fun n => ?_
    rw [Nat.zero_testBit]
    cases hb : (D.getD i 0).testBit n
    · rfl
    · have := h.2 i n hb
      rw [List.getD_eq_getElem?_getD, hi] at this
      simp at this
  rw [List.getD_eq_getElem?_getD, List.getElem?_eq_getElem hil] at e
  simp at e
  rw [← e]
  exact List.getElem_mem hil
theorem fix_ge {cs : List Con} {D F : List Nat} (hc : VCs cs D.length) (h0 : 0 ∉ F) (hs : Sub F D) (he : stepF cs F = F) : Sub F (fix cs D) := by
  refine fix_ind (cs := cs) (fun D R => Sub F D → Sub F R) ?_ ?_ ?_ D hc hs
  · intro D _ hz h
    exact absurd (h.zero hz) h0
  · intro D _ _ _ h; exact h
  · intro D R hD _ ih h
    refine ih ?_
    rw [← he]
    exact stepF_mono (by rw [h.1]; exact hD) h
theorem fix_mono {cs : List Con} {D E : List Nat} (hc : VCs cs D.length) (h : Sub D E) : Sub (fix cs D) (fix cs E) := by
  have hE : VCs cs E.length := by rw [← h.1]; exact hc
  rcases fix_end hc with hz | ⟨h0, he⟩
  · rw [hz, h.1, ← fix_len hE]
    exact zeros_sub _
  · exact fix_ge hE h0 ((fix_sub hc).trans h) he

/-- A domain is cut by a set. -/
def andAt (D : List Nat) (i d : Nat) : List Nat := D.set i (D.getD i 0 &&& d)
theorem andAt_len (D : List Nat) (i d : Nat) : (andAt D i d).length = D.length := by simp [andAt]
theorem andAt_get (D : List Nat) (i d k : Nat) : (andAt D i d).getD k 0 = if k = i then D.getD i 0 &&& d else D.getD k 0 := by
  unfold andAt
  simp only [List.getD_eq_getElem?_getD, List.getElem?_set]
  by_cases h : i = k
  · subst h
    rw [if_pos rfl, if_pos rfl]
    by_cases hl : i < D.length
    · rw [if_pos hl]; rfl
    · rw [if_neg hl, List.getElem?_eq_none (by omega)]; simp
  · rw [if_neg h, if_neg (fun e => h e.symm)]
theorem andAt_bit {D : List Nat} {i d k n : Nat} : ((andAt D i d).getD k 0).testBit n = true ↔ (D.getD k 0).testBit n = true ∧ (k = i → d.testBit n = true) := by
  rw [andAt_get]
  by_cases h : k = i
  · subst h; rw [if_pos rfl, Nat.testBit_and, Bool.and_eq_true]; simp
  · rw [if_neg h]; simp [h]
theorem andAt_sub (D : List Nat) (i d : Nat) : Sub (andAt D i d) D := ⟨andAt_len _ _ _, fun k n h => (andAt_bit.1 h).1⟩
theorem andAt_mono {D E : List Nat} (h : Sub D E) (i d : Nat) : Sub (andAt D i d) (andAt E i d) :=
  ⟨by rw [andAt_len, andAt_len]; exact h.1, fun k n hb => andAt_bit.2 ⟨h.2 _ _ (andAt_bit.1 hb).1, (andAt_bit.1 hb).2⟩⟩
theorem andAt_comm (D : List Nat) (i a j b : Nat) : andAt (andAt D i a) j b = andAt (andAt D j b) i a := by
  refine Sub.antisymm ⟨by simp [andAt_len], fun k n h => ?_⟩ ⟨by simp [andAt_len], fun k n h => ?_⟩ <;>
  · have h1 := andAt_bit.1 h
    have h2 := andAt_bit.1 h1.1
    exact andAt_bit.2 ⟨andAt_bit.2 ⟨h2.1, h1.2⟩, h2.2⟩
theorem andAt_below {D : List Nat} (h : Below64 D) (i d : Nat) : Below64 (andAt D i d) := (andAt_sub D i d).below h
theorem fix_andAt {cs : List Con} {D : List Nat} (hc : VCs cs D.length) (j b : Nat) : fix cs (andAt (fix cs D) j b) = fix cs (andAt D j b) := by
  have hF := fix_len hc
  have h1 : VCs cs (andAt D j b).length := by rw [andAt_len]; exact hc
  have h2 : VCs cs (andAt (fix cs D) j b).length := by rw [andAt_len, hF]; exact hc
  refine Sub.antisymm (fix_mono h2 (andAt_mono (fix_sub hc) j b)) ?_
  rcases fix_end h1 with hz | ⟨h0, he⟩
  · have e : (fix cs (andAt (fix cs D) j b)).length = (andAt D j b).length := by rw [fix_len h2, andAt_len, andAt_len, hF]
    rw [hz, ← e]
    exact zeros_sub _
  · have hs : Sub (fix cs (andAt D j b)) (fix cs D) := fix_mono h1 (andAt_sub D j b)
    refine fix_ge h2 h0 ⟨by rw [andAt_len]; exact hs.1, fun k n h => andAt_bit.2 ⟨hs.2 _ _ h, ?_⟩⟩ he
    exact (andAt_bit.1 ((fix_sub h1).2 _ _ h)).2
/-- Two decisions in either order. -/
theorem fix_two {cs : List Con} {D : List Nat} (hc : VCs cs D.length) (i a j b : Nat) : fix cs (andAt (fix cs (andAt D i a)) j b) = fix cs (andAt (fix cs (andAt D j b)) i a) := by
  rw [fix_andAt (by rw [andAt_len]; exact hc), fix_andAt (by rw [andAt_len]; exact hc), andAt_comm]
end Go.Proofs.YtihkeihnpiddoaaGreat
