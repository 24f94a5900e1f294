/-
  Lists of literals as the library's sort reads them, and what the sort makes of them. No program is mentioned.
-/
import Derived.Test.YtpfelbbmgbfkeaaGreatLn
import Derived.Shelf.SlSortCmp.NoneTotal
set_option linter.unusedVariables false
set_option linter.unusedSimpArgs false
namespace Go.Proofs.YtpfelbbmgbfkeaaGreat
open Go.RowKit

theorem ltOf_cmpL : Go.Proofs.ltOf cmpL = litLt := by funext a b; exact cmpL_lt a b
theorem swo_litLt : Go.Sort.SWO litLt where
  irrefl := litLt_irrefl
  trans x y z := litLt_trans
  ntrans x y z h1 h2 := by
    cases h3 : litLt x z
    · rfl
    · rcases litLt_tri y x with h | h | h
      · have := litLt_trans h h3; rw [h2] at this; cases this
      · subst h; rw [h2] at h3; cases h3
      · rw [h1] at h; cases h
theorem merge_lits {ls : Cls} (hn : ls.Nodup) : (ls.mergeSort fun x y => !litLt y x) = sortL ls := by
  have hp : (ls.mergeSort fun x y => !litLt y x).Perm ls := List.mergeSort_perm _ _
  have hs : (ls.mergeSort fun x y => !litLt y x).Pairwise fun a b => (!litLt b a) = true := by
    refine List.pairwise_mergeSort (fun a b c h1 h2 => ?_) (fun a b => ?_) ls
    · simp only [Bool.not_eq_true'] at *
      exact swo_litLt.ntrans _ _ _ h2 h1
    · cases h : litLt b a
      · rfl
      · rw [litLt_asymm h]; rfl
  refine asc_ext ?_ (sortL_asc _) fun x => by rw [mem_sortL]; exact hp.mem_iff
  refine (hs.and (hp.nodup_iff.2 hn)).imp ?_
  rintro a b ⟨h1, h2⟩
  rcases litLt_tri a b with h | h | h
  · exact h
  · exact absurd h h2
  · rw [h] at h1; cases h1

/-! ### As the library's sort reads a list -/
theorem lits_getBang {ls : Cls} {i : Nat} {l : Lit} (h : ls[i]? = some l) : ls.toArray[i]! = l := by
  rw [Array.getElem!_eq_getD, Array.getD_eq_getD_getElem?]; simp [h]
theorem LitsM.holds {M : Nat → Prop} {w : World} {b o cap n : Nat} {ls : Cls} (h : LitsM M w (.slice (some ⟨b, o, none⟩) n cap) ls) : Go.Sort.HoldsK litC 3 w b o ls.toArray := by
  intro t ht
  rw [Go.Sort.size_flatK] at ht
  rw [Go.Sort.get_flatK _ _ _ _ ht]
  have hi : t / 3 < ls.length := by simp at ht; omega
  obtain ⟨l, hl⟩ := get_some hi
  rw [lits_getBang hl]
  obtain ⟨b', o', e, hm, ⟨c0, c1, c2⟩, hf⟩ := h.at hl
  cases e
  have e3 : o + t = o + t / 3 * 3 + t % 3 := by omega
  have hr : t % 3 < 3 := by omega
  rw [e3]
  refine ⟨?_, hf _ hr⟩
  have hc : t % 3 = 0 ∨ t % 3 = 1 ∨ t % 3 = 2 := by omega
  rcases hc with hc | hc | hc <;> rw [hc]
  · exact c0
  · exact c1
  · exact c2
theorem litsM_of_holds {M : Nat → Prop} {w : World} {b o cap : Nat} {ls : Cls} (h : Go.Sort.HoldsK litC 3 w b o ls.toArray) (hM : M b) (hl : ls.length ≤ cap ∧ cap ≤ 9223372036854775807) : LitsM M w (.slice (some ⟨b, o, none⟩) ls.length cap) ls := by
  refine ⟨_, _, rfl, ⟨hl.1, hl.2, by simp⟩, fun i l hi => ⟨b, o, rfl, hM, ?_, fun r hr => ?_⟩⟩
  · have hil : i < ls.toArray.size := by simpa using (List.getElem?_eq_some_iff.1 hi).1
    have c0 := (Go.Sort.HoldsK.cell h hil (c := 0) (by omega)).1
    have c1 := (Go.Sort.HoldsK.cell h hil (c := 1) (by omega)).1
    have c2 := (Go.Sort.HoldsK.cell h hil (c := 2) (by omega)).1
    rw [lits_getBang hi] at c0 c1 c2
    exact ⟨c0, c1, c2⟩
  · have hil : i < ls.toArray.size := by simpa using (List.getElem?_eq_some_iff.1 hi).1
    exact (Go.Sort.HoldsK.cell h hil hr).2
theorem sortWorld_gr {w : World} {b o n : Nat} {d : Array Lit} {os : Array Obj} : Gr [b] w (Go.Proofs.sortWorldK litC 3 w b o n d os) := by
  unfold Go.Proofs.sortWorldK
  refine ⟨rfl, rfl, rfl, ?_, fun k hk hb => ?_⟩
  · rw [Go.Sort.size_grow, Go.Sort.size_putRowK]; exact Nat.le_add_right _ _
  · rw [Go.Sort.heap_grow_old _ _ (by rw [Go.Sort.size_putRowK]; exact hk)]
    simp at hb
    simp only [Go.Sort.putRowK, Go.Sort.putRow, Go.Sort.mapBlock, Array.getElem?_modify]
    rw [if_neg (fun h => hb h.symm)]
    rfl
/-- A world that has grown, draws not undone: as the sort's contract has it. -/
theorem grow_of_gr {w w' : World} (h : Gr [] w w') (hd : w.drawn ≤ w'.drawn) : ∃ q os, w' = Go.Sort.grow (w.drewN q) os := by
  refine ⟨w'.drawn - w.drawn, w'.heap.extract w.heap.size w'.heap.size, ?_⟩
  have e1 : w.heap ++ w'.heap.extract w.heap.size w'.heap.size = w'.heap := by
    apply Array.ext_getElem?
    intro k
    rw [Array.getElem?_append]
    split
    · rename_i hk; exact (h.block k hk (by simp)).symm
    · rename_i hk
      rw [Array.getElem?_extract]
      have := h.size
      by_cases hk2 : k < w'.heap.size
      · rw [if_pos (by omega)]; congr 1; omega
      · rw [if_neg (by omega), Array.getElem?_eq_none (by omega)]
  have h1 := h.os; have h2 := h.tape; have h3 := h.output
  cases w; cases w'
  simp only [Go.Sort.grow, World.drewN] at *
  subst h1 h2 h3
  rw [e1]
  congr 1
  omega
end Go.Proofs.YtpfelbbmgbfkeaaGreat
