/-
  Literals that came in as arguments: walks of the exact laws' conversions of lists of them: sizes, copies, comparisons, marks.
  How lists of literals that came in as an argument are read.
  Lists of clauses that came in as an argument: how they are read; walks of the exact laws' conversions of them.
  Clauses that lie each in a block of its own: marks upon them; own lists of them.
-/
import Derived.Test.YtlekngkcifgonaaGreatXLnLo
import Derived.Test.YtlekngkcifgonaaGreatXEE
import Derived.Test.YtlekngkcifgonaaGreatXEO
import Derived.Lib.SmallJoins
import Derived.Deep.Slices
import Derived.ChangeArms
import Derived.Test.YtlekngkcifgonaaGreatXEG
import Derived.Test.YtlekngkcifgonaaGreatXSy1ToRe
set_option linter.unusedVariables false
set_option linter.unusedSimpArgs false
namespace Go.Proofs.YtlekngkcifgonaaGreat
open Go.RowKit



/-! ### Copies -/
theorem infoL3 : (Tryz.prog.info? 45).map (fun i => (i.zero, i.size, i.bytes)) = some (some (.agg #[.int .i64 0, .int .i64 0, .bool false]), 3, 24) := by kernel_rfl




/-! ### Comparisons -/




/-! ### Marks -/




end Go.Proofs.YtlekngkcifgonaaGreat

set_option linter.unusedVariables false
set_option linter.unusedSimpArgs false
namespace Go.Proofs.YtlekngkcifgonaaGreat
open Go.RowKit Go.ChangeShapes Go.WideShapes

section
variable {H : Type} {enc : TypeId × Value → H} {W : World} {held : Bool}
set_option maxRecDepth 100000
end
end Go.Proofs.YtlekngkcifgonaaGreat

set_option linter.unusedVariables false
set_option linter.unusedSimpArgs false
namespace Go.Proofs.YtlekngkcifgonaaGreat
open Go.RowKit Go.ChangeShapes Go.WideShapes

section
variable {H : Type} {enc : TypeId × Value → H} {W : World} {held : Bool}
set_option maxRecDepth 100000
end

/-! ### Copies -/
theorem infoK : (Tryz.prog.info? 110).map (fun i => (i.zero, i.size, i.bytes)) = some (some (.slice none 0 0), 1, 24) := by kernel_rfl
end Go.Proofs.YtlekngkcifgonaaGreat

set_option linter.unusedVariables false
set_option linter.unusedSimpArgs false
namespace Go.Proofs.YtlekngkcifgonaaGreat
open Go.RowKit

/-- The home of one clause. -/
def At (b : Nat) (c : Cls) : Nat → Prop := fun k => c ≠ [] ∧ k = b
/-- Clauses, each in a block of its own, between B and E. -/
def RowsK (B E : Nat) (w : World) (v : Value) (cls : List Cls) : Prop :=
  ∃ ao cap, v = .slice ao cls.length cap ∧ (cls.length ≤ cap ∧ cap ≤ 9223372036854775807 ∧ (ao = none → cap = 0)) ∧ ∃ f : Nat → Nat,
    (∀ i j c d, cls[i]? = some c → cls[j]? = some d → c ≠ [] → d ≠ [] → f i = f j → i = j) ∧
    ∀ i c, cls[i]? = some c → ∃ g u, ao = some ⟨g, 0, none⟩ ∧ (B ≤ g ∧ g < E) ∧ (∀ j d, cls[j]? = some d → d ≠ [] → f j ≠ g) ∧ (c ≠ [] → B ≤ f i ∧ f i < E) ∧ w.cell? ⟨g, i, none⟩ = some u ∧
      (∀ j, w.frozen? ⟨g, j, none⟩ = false) ∧ LitsM (At (f i) c) w u c
theorem RowsK.nil (B E : Nat) (w : World) : RowsK B E w (.slice none 0 0) [] := ⟨none, 0, rfl, by simp, fun i => i, by simp, by simp⟩
theorem RowsK.keep {B E : Nat} {S : List Nat} {w w' : World} {v : Value} {cls : List Cls} (h : RowsK B E w v cls) (hg : Gr S w w') (hS : ∀ b ∈ S, b < B ∨ E ≤ b) : RowsK B E w' v cls := by
  obtain ⟨ao, cap, e, hl, f, h1, h2⟩ := h
  refine ⟨ao, cap, e, hl, f, h1, fun i c hi => ?_⟩
  obtain ⟨g, u, e1, k1, k2, k3, k4, k5, k6⟩ := h2 i c hi
  have hgS : g ∉ S := fun hm => by have := hS g hm; omega
  have hlt := World.block_lt_of_cell? w _ k4
  exact ⟨g, u, e1, k1, k2, k3, hg.cell k4 hgS, fun j => (hg.frozen (a := ⟨g, j, none⟩) hlt hgS).trans (k5 j), k6.gr' hg (fun b hb hM => by obtain ⟨hc, rfl⟩ := hM; have := k3 hc; have := hS _ hb; omega) (fun _ _ h => h)⟩
theorem RowsK.imp {B E B' E' : Nat} {w : World} {v : Value} {cls : List Cls} (h : RowsK B E w v cls) (hB : B' ≤ B) (hE : E ≤ E') : RowsK B' E' w v cls := by
  obtain ⟨ao, cap, e, hl, f, h1, h2⟩ := h
  refine ⟨ao, cap, e, hl, f, h1, fun i c hi => ?_⟩
  obtain ⟨g, u, e1, k1, k2, k3, k4, k5, k6⟩ := h2 i c hi
  exact ⟨g, u, e1, by omega, k2, fun hc => by have := k3 hc; omega, k4, k5, k6⟩
theorem RowsK.clss {B E : Nat} {S : List Nat} {w : World} {v : Value} {cls : List Cls} (h : RowsK B E w v cls) (hS : ∀ b ∈ S, b < B ∨ E ≤ b) : ClsV S w v cls := by
  obtain ⟨ao, cap, e, hl, f, h1, h2⟩ := h
  refine ⟨ao, cap, e, hl, fun i c hi => ?_⟩
  obtain ⟨g, u, e1, k1, k2, k3, k4, k5, k6⟩ := h2 i c hi
  exact ⟨g, 0, u, e1, fun hm => by have := hS g hm; omega, by rw [Nat.zero_add]; exact k4, k6.lits fun b hb hM => by obtain ⟨hc, rfl⟩ := hM; have := k3 hc; have := hS _ hb; omega⟩
theorem RowsK.clip {B E : Nat} {w : World} {ao : Option Addr} {n cap : Nat} {cls : List Cls} (h : RowsK B E w (.slice ao n cap) cls) : RowsK B E w (.slice ao n n) cls := by
  obtain ⟨ao', cap', e, hl, r⟩ := h
  simp only [Value.slice.injEq] at e
  obtain ⟨rfl, rfl, rfl⟩ := e
  exact ⟨_, _, rfl, ⟨Nat.le_refl _, by omega, fun h => by have := hl.2.2 h; omega⟩, r⟩
/-! ### Marks -/





theorem ClipK_c (B E : Nat) (v : Value) (cls : List Cls) (w : World) (hx : RowsK B E w v cls) :
    Calls Tryz.prog 155 #[v] w fun e w' => ∃ v', e = .returned v' ∧ RowsK B E w' v' cls ∧ Gr [] w w' := by
  have Hx := hid hx
  obtain ⟨ao, cap, rfl, ⟨h1, h2, h3⟩, -⟩ := hx
  clear h3
  go_enter Tryz.func155, Tryz.ntmps155
  go_wp2_with fail
  go_ret
  exact ⟨_, rfl, Hx.out.clip, Gr.refl _ _⟩

/-! ### Own lists of clauses, each with the block in which it lies -/
def elKB (S : List Nat) (w : World) (cs : List Value) (x : Nat × Cls) : Prop := ∃ u, cs = [u] ∧ LitsM (fun b => At x.1 x.2 b ∧ b ∉ S) w u x.2
theorem elKB_ok : ElOk elKB :=
  ⟨fun ⟨u, e, h⟩ hg => ⟨u, e, h.gr' hg (fun b hb hM => hM.2 hb) (fun _ _ h => h)⟩,
   fun {S S' w cs x} ⟨u, e, h⟩ hs => ⟨u, e, h.move fun a v hm hv => ⟨hv, rfl, hm.1, fun hS => hm.2 (hs _ (World.block_lt_of_cell? w _ hv) hS)⟩⟩⟩
/-- The blocks of the clauses are each another's. -/
def Apart (B E : Nat) (ps : List (Nat × Cls)) : Prop := (ps.Pairwise fun x y => x.2 ≠ [] → y.2 ≠ [] → x.1 ≠ y.1) ∧ ∀ x ∈ ps, x.2 ≠ [] → B ≤ x.1 ∧ x.1 < E
theorem Apart.nil (B E : Nat) : Apart B E [] := ⟨List.Pairwise.nil, by simp⟩
theorem Apart.le {B E E' : Nat} {ps : List (Nat × Cls)} (h : Apart B E ps) (hE : E ≤ E') : Apart B E' ps := ⟨h.1, fun x hx hn => by have := h.2 x hx hn; omega⟩
theorem Apart.snoc {B E E' : Nat} {ps : List (Nat × Cls)} {x : Nat × Cls} (h : Apart B E ps) (hB : B ≤ E) (hE : E ≤ E') (hx : x.2 ≠ [] → E ≤ x.1 ∧ x.1 < E') : Apart B E' (ps ++ [x]) := by
  refine ⟨?_, fun y hy hn => ?_⟩
  · rw [List.pairwise_append]
    refine ⟨h.1, by simp, fun a ha b hb h1 h2 e => ?_⟩
    simp at hb; subst hb
    have := h.2 a ha h1
    have := hx h2
    omega
  · rcases List.mem_append.1 hy with hy | hy
    · have := h.2 y hy hn; omega
    · simp at hy; subst hy; have := hx hn; omega
theorem LitsM.one {s : Nat} {w : World} {v : Value} {c : Cls} (h : LitsM (New s w) w v c) : ∃ b, LitsM (At b c) w v c ∧ (c ≠ [] → s ≤ b ∧ b < w.heap.size) := by
  obtain ⟨ao, cap, e, hl, hc⟩ := h
  cases c with
  | nil => exact ⟨0, ⟨ao, cap, e, hl, fun i l h => by simp at h⟩, fun h => absurd rfl h⟩
  | cons l r =>
    obtain ⟨b, o, e0, hm0, -, -⟩ := hc 0 l rfl
    refine ⟨b, ⟨ao, cap, e, hl, fun i x hi => ?_⟩, fun _ => hm0⟩
    obtain ⟨b', o', e1, hm1, h2, h3⟩ := hc i x hi
    have : b' = b := by rw [e0] at e1; simp at e1; exact e1.1.symm
    subst this
    exact ⟨b', o', e1, ⟨by simp, rfl⟩, h2, h3⟩
theorem OwnG.rowsK {B E : Nat} {w : World} {e : TypeId} {v : Value} {ps : List (Nat × Cls)} (h : OwnG 1 elKB B w e v ps) (ha : Apart B E ps) (hE : w.heap.size ≤ E) : RowsK B E w v (ps.map Prod.snd) := by
  obtain ⟨ao, cap, rfl, h1, h2, h3⟩ := h.slice
  refine ⟨ao, cap, by rw [List.length_map], by rw [List.length_map]; exact ⟨h1, h2, h3⟩, fun i => (ps.getD i (0, [])).1, ?_, fun i c hi => ?_⟩
  · intro i j c d hi hj hc hd e
    rw [List.getElem?_map] at hi hj
    cases hx : ps[i]? with
    | none => rw [hx] at hi; cases hi
    | some x =>
      cases hy : ps[j]? with
      | none => rw [hy] at hj; cases hj
      | some y =>
        rw [hx] at hi; rw [hy] at hj
        cases hi; cases hj
        simp only [List.getD_eq_getElem?_getD, hx, hy, Option.getD_some] at e
        obtain ⟨hil, rfl⟩ := List.getElem?_eq_some_iff.1 hx
        obtain ⟨hjl, rfl⟩ := List.getElem?_eq_some_iff.1 hy
        have hp := List.pairwise_iff_getElem.1 ha.1
        rcases Nat.lt_trichotomy i j with h | h | h
        · exact absurd e (hp i j hil hjl h hc hd)
        · exact h
        · exact absurd e.symm (hp j i hjl hil h hd hc)
  · rw [List.getElem?_map] at hi
    cases hx : ps[i]? with
    | none => rw [hx] at hi; cases hi
    | some x =>
      rw [hx] at hi; cases hi
      obtain ⟨g, cap', cs, e1, hb, hlt, hl, hc, hf, hel⟩ := h.cell hx
      cases e1
      obtain ⟨u, rfl, hn⟩ := hel [] (by simp)
      have hxm := List.mem_of_getElem? hx
      refine ⟨g, u, rfl, ⟨hb, by omega⟩, fun j d hj hd e => ?_, fun hn => ?_, by have := hc 0 u rfl; simpa using this, fun j => hf j, ?_⟩
      · rw [List.getElem?_map] at hj
        cases hy : ps[j]? with
        | none => rw [hy] at hj; cases hj
        | some y =>
          rw [hy] at hj; cases hj
          simp only [List.getD_eq_getElem?_getD, hy, Option.getD_some] at e
          obtain ⟨g', cap'', cs', e1', -, -, -, -, -, hel'⟩ := h.cell hy
          cases e1'
          obtain ⟨u', rfl, hn'⟩ := hel' [g] (by intro b hb; simp at hb; subst hb; right; simp [Value.ownBlock])
          obtain ⟨ao', c', -, -, hcc⟩ := hn'
          cases hyc : y.2 with
          | nil => exact hd hyc
          | cons l r =>
            obtain ⟨b, o, -, hm, -, -⟩ := hcc 0 l (by rw [hyc]; rfl)
            have := hm.1.2
            subst this
            exact hm.2 (by rw [e]; simp)
      · simp only [List.getD_eq_getElem?_getD, hx, Option.getD_some]
        have := ha.2 x hxm hn
        omega
      · simp only [List.getD_eq_getElem?_getD, hx, Option.getD_some]
        exact hn.move fun a v hm hv => ⟨hv, rfl, hm.1⟩
end Go.Proofs.YtlekngkcifgonaaGreat
