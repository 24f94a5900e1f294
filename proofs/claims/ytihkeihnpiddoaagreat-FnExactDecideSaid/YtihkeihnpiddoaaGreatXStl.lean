/-
  Walks of the program's newStore and NewStore: the cells of whole numbers that the result holds and leads to are all different.
-/
import Derived.Test.YtihkeihnpiddoaaGreatXSw
import Derived.Test.YtihkeihnpiddoaaGreatXCql
set_option linter.unusedVariables false
set_option linter.unusedSimpArgs false
namespace Go.Proofs.YtihkeihnpiddoaaGreat
open Go.RowKit

theorem ConsM.leaf {M : Nat → Prop} {w : World} {v : Value} {cs : List Con} (h : ConsM M w v cs) : ∀ a ∈ leavesCs w v, M a.block := by
  obtain ⟨ao, cap, rfl, h1, h2⟩ := id h
  intro a ha
  cases ao with
  | none => simp [leavesCs] at ha
  | some b0 =>
    obtain ⟨b, o, sp⟩ := b0
    simp only [leavesCs, List.mem_flatMap, List.mem_range] at ha
    obtain ⟨i, hi, ha⟩ := ha
    obtain ⟨c, hc⟩ := get_some hi
    obtain ⟨b', o', _, _, _, e, hm, _⟩ := h2 i c hc
    cases e
    obtain ⟨vv, av, rv, ⟨c0, c1, c2, c3, c4⟩, n1, n2, n3⟩ := h.cellE hc
    unfold leavesE at ha
    rw [cellv_of c1, cellv_of c2, cellv_of c4] at ha
    simp only [List.mem_append, List.mem_singleton] at ha
    rcases ha with (((h | h) | h) | h) | h
    · subst h; exact hm
    · exact n1.leaf a h
    · exact n2.leaf a h
    · subst h; exact hm
    · exact n3.leaf a h
theorem ModM.parts {M : Nat → Prop} {w : World} {dv cv : Value} {m : Mod} (h : ModM M w (.agg #[dv, cv]) m) : NumsM M w dv m.doms ∧ ConsM M w cv m.cons := by
  obtain ⟨_, _, e, h1, h2⟩ := h
  simp only [Value.agg.injEq, Array.mk.injEq, List.cons.injEq, and_true] at e
  obtain ⟨rfl, rfl⟩ := e
  exact ⟨h1, h2⟩
theorem nd_keep {M : Nat → Prop} {w w' : World} {dv cv : Value} {m : Mod} (h : ModM M w (.agg #[dv, cv]) m) (hg : Gr [] w w') (hn : (leavesN dv ++ leavesCs w cv).Nodup) : (leavesN dv ++ leavesCs w' cv).Nodup := by
  rw [h.parts.2.leaves_gr hg (by simp)]; exact hn
/-- A store whose blocks lie between B and E, and whose cells of whole numbers are all different. -/
def StoF (B E : Nat) (w : World) (v : Value) (s : Sto) : Prop :=
  ∃ dv cv lv, v = .agg #[dv, cv, lv] ∧ ModM (fun b => B ≤ b ∧ b < E) w (.agg #[dv, cv]) s.mod ∧ RowsM (fun b => B ≤ b ∧ b < E) w lv s.lv ∧ (leavesN dv ++ leavesCs w cv ++ leavesR w lv).Nodup
theorem StoF.gr {B E : Nat} {S : List Nat} {w w' : World} {v : Value} {s : Sto} (h : StoF B E w v s) (hg : Gr S w w') (hS : ∀ b ∈ S, b < B ∨ E ≤ b) : StoF B E w' v s := by
  obtain ⟨dv, cv, lv, e, h1, h2, h3⟩ := h
  have k : ∀ b ∈ S, ¬ (B ≤ b ∧ b < E) := fun b hb h => by have := hS b hb; omega
  refine ⟨dv, cv, lv, e, h1.gr' hg k (fun _ _ h => h), h2.gr' hg k (fun _ _ h => h), ?_⟩
  rw [h1.parts.2.leaves_gr hg k, h2.leaves_gr hg k]; exact h3
theorem StoF.sto {B E : Nat} {w : World} {v : Value} {s : Sto} (h : StoF B E w v s) {S : List Nat} (hS : ∀ b ∈ S, b < B ∨ E ≤ b) : StoV S w v s := by
  obtain ⟨dv, cv, lv, rfl, h1, h2, h3⟩ := h
  have k : ∀ b ∈ S, ¬ (B ≤ b ∧ b < E) := fun b hb h => by have := hS b hb; omega
  exact StoV.mk (h1.mod k) (h2.rows k)
theorem StoF.zero (B E : Nat) (w : World) : StoF B E w (.agg #[.slice none 0 0, .slice none 0 0, .slice none 0 0]) zeroSto :=
  ⟨_, _, _, rfl, ⟨_, _, rfl, NumsM.nil _ _, ⟨none, 0, rfl, by simp [zeroSto], fun i x h => by simp [zeroSto] at h⟩⟩, RowsM.nil _ _, by simp [leavesN, leavesCs, leavesR]⟩


end Go.Proofs.YtihkeihnpiddoaaGreat
