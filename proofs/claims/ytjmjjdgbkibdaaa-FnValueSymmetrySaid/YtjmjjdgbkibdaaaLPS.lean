/-
  Walks of laws.equalInts and FnIsConsistent.
  Walks of laws.isSubset and FnPropagateFixpoint.
  Walk of FnPropagateSound.
-/
import Derived.Test.YtjmjjdgbkibdaaaG8
import Derived.Test.YtjmjjdgbkibdaaaSk
set_option linter.unusedVariables false
namespace Go.Proofs.Ytjmjjdgbkibdaaa
open Go.RowKit

/-- Domains that no constraint changes are those that propagation leaves as they are. -/
theorem cons_iff_fix {m : Mod} {D : List Nat} (h : VM m D) (h0 : 0 ∉ D) : consB m.cons D = decide (fix m.cons D = D) := by
  rw [Bool.eq_iff_iff, consB_iff, decide_eq_true_eq, ← stepF_eq_iff h.cons]
  constructor
  · exact fix_done h.cons h0
  · intro he
    by_cases hs : stepF m.cons D = D
    · exact hs
    · have h1 := fix_more h.cons h0 hs
      have h2 := fix_sub (cs := m.cons) (D := stepF m.cons D) (by rw [stepF_len]; exact h.cons)
      rw [← h1, he] at h2
      have := stepF_sub h.cons
      exact this.antisymm h2

end Go.Proofs.Ytjmjjdgbkibdaaa

set_option linter.unusedVariables false
namespace Go.Proofs.Ytjmjjdgbkibdaaa
open Go.RowKit

theorem and_sub {D E : List Nat} (h : Sub D E) {i d e : Nat} (hd : D[i]? = some d) (he : E[i]? = some e) : d &&& e = d := by
  refine Nat.eq_of_testBit_eq fun n => ?_
  rw [Nat.testBit_and]
  cases hb : d.testBit n
  · rfl
  · have := h.2 i n (by simpa [List.getD_eq_getElem?_getD, hd] using hb)
    rw [List.getD_eq_getElem?_getD, he] at this
    simpa using this
theorem fix_bool {m : Mod} {D : List Nat} (h : VM m D) : ∃ fb : Bool, (∀ (i : Nat) d, (fix m.cons D)[i]? = some d → ((d : Int) == 0) = fb) ∧ isConsB ⟨ints (fix m.cons D), m.cons⟩ (fix m.cons D) = !fb := by
  have hl := fix_len h.cons
  have hv : VM ⟨ints (fix m.cons D), m.cons⟩ (fix m.cons D) := ⟨rfl, by rw [hl]; exact h.len, fix_below h.cons h.below, by rw [hl]; exact h.cons, h.many⟩
  rcases fix_end h.cons with e | ⟨h0, hs⟩
  · refine ⟨true, fun i d hd => ?_, ?_⟩
    · rw [e] at hd
      unfold zeros at hd
      have := List.eq_of_mem_replicate (List.mem_of_getElem? hd)
      subst this; rfl
    · have h0 : 0 ∈ fix m.cons D := by rw [e]; unfold zeros; rw [List.mem_replicate]; have := h.len; exact ⟨by omega, rfl⟩
      unfold isConsB
      simp [h0]
  · refine ⟨false, fun i d hd => ?_, ?_⟩
    · have : d ≠ 0 := fun e => h0 (e ▸ List.mem_of_getElem? hd)
      simp; omega
    · unfold isConsB
      have h1 : consB m.cons (fix m.cons D) = true := consB_iff.2 ((stepF_eq_iff (by rw [hl]; exact h.cons)).1 hs)
      rw [hv.valid]
      simp [h0, h1]
theorem VM.fixed {m : Mod} {D : List Nat} (h : VM m D) : VM ⟨ints (fix m.cons D), m.cons⟩ (fix m.cons D) := by
  have hl := fix_len h.cons
  exact ⟨rfl, by rw [hl]; exact h.len, fix_below h.cons h.below, by rw [hl]; exact h.cons, h.many⟩

end Go.Proofs.Ytjmjjdgbkibdaaa

set_option linter.unusedVariables false
namespace Go.Proofs.Ytjmjjdgbkibdaaa
open Go.RowKit

theorem DomainHas_t {d v : Nat} (hd : d < 64) (hv : v < 6) (hb : d.testBit v = true) (w : World) : Calls Try.prog 23 #[.int .i64 d, .int .i64 v] w fun e w' => e = .returned (.bool true) ∧ w' = w := by
  have h := DomainHas_c d v hd hv w
  rwa [hb] at h
theorem RowsV.at {S : List Nat} {w : World} {ao : Option Addr} {n cap : Nat} {rows : List (List Int)} (h : RowsV S w (.slice ao n cap) rows) {i : Nat} {r : List Int} (hi : rows[i]? = some r) :
    ∃ b o u, ao = some ⟨b, o, none⟩ ∧ w.cell? ⟨b, o + i, none⟩ = some u ∧ Nums S w .i64 u r := by
  obtain ⟨ao', cap', e, _, hc⟩ := h
  cases e
  obtain ⟨b, o, u, e1, _, h1, h2⟩ := hc i r hi
  exact ⟨b, o, u, e1, h1, h2⟩

end Go.Proofs.Ytjmjjdgbkibdaaa
