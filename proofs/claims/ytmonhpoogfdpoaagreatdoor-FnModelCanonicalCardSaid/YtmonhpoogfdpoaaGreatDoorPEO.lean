/-
  Data with a home: readings in blocks that a predicate names, none of them frozen; and what a call does that writes numbers over numbers. No program is mentioned.
  How a slice of numbers that came in is read.
  How a model and a constraint that came in as arguments are read.
-/
import Derived.Test.YtmonhpoogfdpoaaGreatDoorPFP
import Derived.Lib.SmallJoins
import Derived.Test.YtmonhpoogfdpoaaGreatDoorPLib
import Derived.Test.YtmonhpoogfdpoaaGreatDoorPA
import Derived.Deep.Slices
import Derived.ChangeArms
set_option linter.unusedVariables false
namespace Go.Proofs.YtmonhpoogfdpoaaGreatDoor
open Go.RowKit

theorem RowsV.at0 {S : List Nat} {w : World} {ao : Option Addr} {n cap : Nat} {rows : List (List Int)} (h : RowsV S w (.slice ao n cap) rows) {i : Nat} {r : List Int} (hi : rows[i]? = some r) :
    ∃ b o u, ao = some ⟨b, o, none⟩ ∧ w.cell? ⟨b, o + i, none⟩ = some u ∧ Nums S w .i64 u r := by
  obtain ⟨ao', cap', e, _, hc⟩ := h
  cases e
  obtain ⟨b, o, u, e1, _, h1, h2⟩ := hc i r hi
  exact ⟨b, o, u, e1, h1, h2⟩
def NumsM (M : Nat → Prop) (w : World) (v : Value) (xs : List Int) : Prop :=
  ∃ ao cap, v = .slice ao xs.length cap ∧ (xs.length ≤ cap ∧ cap ≤ 9223372036854775807 ∧ (ao = none → cap = 0)) ∧
    ∀ i x, xs[i]? = some x → ∃ b o, ao = some ⟨b, o, none⟩ ∧ M b ∧ w.cell? ⟨b, o + i, none⟩ = some (.int .i64 x) ∧ w.frozen? ⟨b, o + i, none⟩ = false
def but (M : Nat → Prop) (b : Nat) (k : Nat) : Prop := M k ∧ k ≠ b
def RowsM (M : Nat → Prop) (w : World) (v : Value) (rows : List (List Int)) : Prop :=
  ∃ ao cap, v = .slice ao rows.length cap ∧ (rows.length ≤ cap ∧ cap ≤ 9223372036854775807 ∧ (ao = none → cap = 0)) ∧
    ∀ i r, rows[i]? = some r → ∃ b o u, ao = some ⟨b, o, none⟩ ∧ M b ∧ w.cell? ⟨b, o + i, none⟩ = some u ∧ w.frozen? ⟨b, o + i, none⟩ = false ∧ NumsM (but M b) w u r
def ConM (M : Nat → Prop) (w : World) (v : Value) (c : Con) : Prop :=
  ∃ vv av rv, v = .agg #[.int .i64 c.kind, vv, av, .int .i64 c.bound, rv] ∧ NumsM M w vv c.vars ∧ NumsM M w av c.args ∧ RowsM M w rv c.rows
def ConsM (M : Nat → Prop) (w : World) (v : Value) (cs : List Con) : Prop :=
  ∃ ao cap, v = .slice ao cs.length cap ∧ (cs.length ≤ cap ∧ cap ≤ 9223372036854775807 ∧ (ao = none → cap = 0)) ∧
    ∀ i c, cs[i]? = some c → ∃ b o vv av rv, ao = some ⟨b, o, none⟩ ∧ M b ∧
      (w.cell? ⟨b, o + i * 5, none⟩ = some (.int .i64 c.kind) ∧ w.cell? ⟨b, o + i * 5 + 1, none⟩ = some vv ∧ w.cell? ⟨b, o + i * 5 + 2, none⟩ = some av ∧
       w.cell? ⟨b, o + i * 5 + 3, none⟩ = some (.int .i64 c.bound) ∧ w.cell? ⟨b, o + i * 5 + 4, none⟩ = some rv) ∧
      (∀ j, w.frozen? ⟨b, j, none⟩ = false) ∧ NumsM (but M b) w vv c.vars ∧ NumsM (but M b) w av c.args ∧ RowsM (but M b) w rv c.rows
def ModM (M : Nat → Prop) (w : World) (v : Value) (m : Mod) : Prop :=
  ∃ dv cv, v = .agg #[dv, cv] ∧ NumsM M w dv m.doms ∧ ConsM M w cv m.cons

section
variable {M M' : Nat → Prop} {S : List Nat} {w w' : World}
theorem NumsM.move {v : Value} {xs : List Int} (h : NumsM M w v xs) (hc : ∀ a u, M a.block → w.cell? a = some u → w'.cell? a = some u ∧ w'.frozen? a = w.frozen? a ∧ M' a.block) : NumsM M' w' v xs := by
  obtain ⟨ao, cap, e, hl, h⟩ := h
  refine ⟨ao, cap, e, hl, fun i x hi => ?_⟩
  obtain ⟨b, o, e1, hm, hc1, hf⟩ := h i x hi
  obtain ⟨k1, k2, k3⟩ := hc ⟨b, o + i, none⟩ _ hm hc1
  exact ⟨b, o, e1, k3, k1, k2.trans hf⟩
theorem RowsM.move {v : Value} {rows : List (List Int)} (h : RowsM M w v rows) (hc : ∀ a u, M a.block → w.cell? a = some u → w'.cell? a = some u ∧ w'.frozen? a = w.frozen? a ∧ M' a.block) : RowsM M' w' v rows := by
  obtain ⟨ao, cap, e, hl, h⟩ := h
  refine ⟨ao, cap, e, hl, fun i r hi => ?_⟩
  obtain ⟨b, o, u, e1, hm, hc1, hf, hn⟩ := h i r hi
  obtain ⟨k1, k2, k3⟩ := hc ⟨b, o + i, none⟩ _ hm hc1
  refine ⟨b, o, u, e1, k3, k1, k2.trans hf, hn.move fun a x ha hx => ?_⟩
  obtain ⟨j1, j2, j3⟩ := hc a x ha.1 hx
  exact ⟨j1, j2, j3, ha.2⟩
theorem ConM.move {v : Value} {c : Con} (h : ConM M w v c) (hc : ∀ a u, M a.block → w.cell? a = some u → w'.cell? a = some u ∧ w'.frozen? a = w.frozen? a ∧ M' a.block) : ConM M' w' v c :=
  let ⟨vv, av, rv, e, h1, h2, h3⟩ := h; ⟨vv, av, rv, e, h1.move hc, h2.move hc, h3.move hc⟩
theorem ConsM.move {v : Value} {cs : List Con} (h : ConsM M w v cs) (hc : ∀ a u, M a.block → w.cell? a = some u → w'.cell? a = some u ∧ w'.frozen? a = w.frozen? a ∧ M' a.block)
    (hf' : ∀ b, M b → b < w.heap.size → ∀ j, w'.frozen? ⟨b, j, none⟩ = w.frozen? ⟨b, j, none⟩) : ConsM M' w' v cs := by
  obtain ⟨ao, cap, e, hl, h⟩ := h
  refine ⟨ao, cap, e, hl, fun i r hi => ?_⟩
  obtain ⟨b, o, vv, av, rv, e1, hm, ⟨c0, c1, c2, c3, c4⟩, hf, n1, n2, n3⟩ := h i r hi
  have hk : ∀ a x, but M b a.block → w.cell? a = some x → w'.cell? a = some x ∧ w'.frozen? a = w.frozen? a ∧ but M' b a.block := fun a x ha hx => by
    obtain ⟨j1, j2, j3⟩ := hc a x ha.1 hx
    exact ⟨j1, j2, j3, ha.2⟩
  exact ⟨b, o, vv, av, rv, e1, (hc ⟨b, o + i * 5, none⟩ _ hm c0).2.2, ⟨(hc _ _ hm c0).1, (hc _ _ hm c1).1, (hc _ _ hm c2).1, (hc _ _ hm c3).1, (hc _ _ hm c4).1⟩,
    fun j => (hf' b hm (World.block_lt_of_cell? w _ c0) j).trans (hf j), n1.move hk, n2.move hk, n3.move hk⟩

theorem keepGr (hg : Gr S w w') (hS : ∀ b ∈ S, ¬ M b) (hM : ∀ b, b < w.heap.size → M b → M' b) : ∀ a u, M a.block → w.cell? a = some u → w'.cell? a = some u ∧ w'.frozen? a = w.frozen? a ∧ M' a.block := fun a u hm hu => by
  have hlt := World.block_lt_of_cell? w a hu
  have hs : a.block ∉ S := fun h => hS _ h hm
  exact ⟨hg.cell hu hs, hg.frozen hlt hs, hM _ hlt hm⟩
theorem NumsM.gr' {v : Value} {xs : List Int} (h : NumsM M w v xs) (hg : Gr S w w') (hS : ∀ b ∈ S, ¬ M b) (hM : ∀ b, b < w.heap.size → M b → M' b) : NumsM M' w' v xs := h.move (keepGr hg hS hM)
theorem RowsM.gr' {v : Value} {xs : List (List Int)} (h : RowsM M w v xs) (hg : Gr S w w') (hS : ∀ b ∈ S, ¬ M b) (hM : ∀ b, b < w.heap.size → M b → M' b) : RowsM M' w' v xs := h.move (keepGr hg hS hM)
theorem ConM.gr' {v : Value} {c : Con} (h : ConM M w v c) (hg : Gr S w w') (hS : ∀ b ∈ S, ¬ M b) (hM : ∀ b, b < w.heap.size → M b → M' b) : ConM M' w' v c := h.move (keepGr hg hS hM)
theorem ConsM.gr' {v : Value} {cs : List Con} (h : ConsM M w v cs) (hg : Gr S w w') (hS : ∀ b ∈ S, ¬ M b) (hM : ∀ b, b < w.heap.size → M b → M' b) : ConsM M' w' v cs :=
  h.move (keepGr hg hS hM) fun b hb hlt j => hg.frozen hlt fun h => hS _ h hb
theorem ModM.gr' {v : Value} {m : Mod} (h : ModM M w v m) (hg : Gr S w w') (hS : ∀ b ∈ S, ¬ M b) (hM : ∀ b, b < w.heap.size → M b → M' b) : ModM M' w' v m :=
  let ⟨dv, cv, e, h1, h2⟩ := h; ⟨dv, cv, e, h1.gr' hg hS hM, h2.gr' hg hS hM⟩

theorem NumsM.nums {v : Value} {xs : List Int} (h : NumsM M w v xs) (hS : ∀ b ∈ S, ¬ M b) : Nums S w .i64 v xs :=
  let ⟨ao, cap, e, hl, h⟩ := h
  ⟨ao, cap, e, hl, fun i x hi => let ⟨b, o, e1, hm, hc, _⟩ := h i x hi; ⟨b, o, e1, fun hb => hS b hb hm, hc⟩⟩
theorem RowsM.rows {v : Value} {xs : List (List Int)} (h : RowsM M w v xs) (hS : ∀ b ∈ S, ¬ M b) : RowsV S w v xs :=
  let ⟨ao, cap, e, hl, h⟩ := h
  ⟨ao, cap, e, hl, fun i x hi => let ⟨b, o, u, e1, hm, hc, _, hn⟩ := h i x hi; ⟨b, o, u, e1, fun hb => hS b hb hm, hc, hn.nums fun k hk hm => hS k hk hm.1⟩⟩
theorem ConM.con {v : Value} {c : Con} (h : ConM M w v c) (hS : ∀ b ∈ S, ¬ M b) : ConV S w v c :=
  let ⟨vv, av, rv, e, h1, h2, h3⟩ := h; ⟨vv, av, rv, e, h1.nums hS, h2.nums hS, h3.rows hS⟩
theorem ConsM.cons {v : Value} {cs : List Con} (h : ConsM M w v cs) (hS : ∀ b ∈ S, ¬ M b) : ConsV S w v cs :=
  let ⟨ao, cap, e, hl, h⟩ := h
  ⟨ao, cap, e, hl, fun i c hi => let ⟨b, o, vv, av, rv, e1, hm, hc, _, n1, n2, n3⟩ := h i c hi
    ⟨b, o, vv, av, rv, e1, fun hb => hS b hb hm, hc, n1.nums fun k hk hm => hS k hk hm.1, n2.nums fun k hk hm => hS k hk hm.1, n3.rows fun k hk hm => hS k hk hm.1⟩⟩
theorem ModM.mod {v : Value} {m : Mod} (h : ModM M w v m) (hS : ∀ b ∈ S, ¬ M b) : ModV S w v m :=
  let ⟨dv, cv, e, h1, h2⟩ := h; ⟨dv, cv, e, h1.nums hS, h2.cons hS⟩

end

/-- Blocks made since. -/
def New (B : Nat) (w : World) (b : Nat) : Prop := B ≤ b ∧ b < w.heap.size
theorem Own.numsM {B : Nat} {w : World} {e : TypeId} {v : Value} {xs : List Int} (h : Own B w e v xs) : NumsM (New B w) w v xs := by
  rcases Nat.eq_zero_or_pos xs.length with h0 | h0
  · obtain ⟨ao, cap, e1, hl, _⟩ := h.nums (S := []) (by simp)
    exact ⟨ao, cap, e1, hl, fun i x hi => by have := (List.getElem?_eq_some_iff.1 hi).1; omega⟩
  · obtain ⟨ao, cap, e1, hl, _⟩ := h.nums (S := []) (by simp)
    obtain ⟨g, c, rfl, hB, hc, hf⟩ := h.open h0
    cases e1
    exact ⟨_, _, rfl, hl, fun i x hi => ⟨g, 0, rfl, hB, by simpa using hc i x hi, by simpa using hf i⟩⟩
theorem OwnC.numsM {B : Nat} {w : World} {e : TypeId} {v : Value} {xs : List Int} (h : OwnC B w e v xs) : NumsM (New B w) w v xs := by
  obtain ⟨ao, cap, e1, hl, _⟩ := h.nums' (S := []) (by simp)
  refine ⟨ao, cap, e1, hl, fun i x hi => ?_⟩
  obtain ⟨g, c, rfl⟩ := h.open (Nat.lt_of_le_of_lt (Nat.zero_le i) (List.getElem?_eq_some_iff.1 hi).1)
  cases e1
  obtain ⟨h1, h2⟩ := h.at hi
  exact ⟨g, 0, rfl, h.block, by simpa using h1, by simpa using h2⟩

/-! ### Numbers written over numbers -/
structure Mk (M : Nat → Prop) (w w' : World) : Prop where
  os : w'.os = w.os
  tape : w'.tape = w.tape
  output : w'.output = w.output
  size : w.heap.size ≤ w'.heap.size
  block : ∀ k, k < w.heap.size → ¬ M k → w'.heap[k]? = w.heap[k]?
  int : ∀ a x, w.cell? a = some (.int .i64 x) → ∃ x', w'.cell? a = some (.int .i64 x')
  same : ∀ a v, w.cell? a = some v → (∀ x, v ≠ .int .i64 x) → w'.cell? a = some v
  frozen : ∀ a, a.block < w.heap.size → w'.frozen? a = w.frozen? a
theorem Mk.refl (M : Nat → Prop) (w : World) : Mk M w w := ⟨rfl, rfl, rfl, Nat.le_refl _, fun _ _ _ => rfl, fun _ x h => ⟨x, h⟩, fun _ _ h _ => h, fun _ _ => rfl⟩
theorem Mk.trans {M : Nat → Prop} {a b c : World} (h : Mk M a b) (k : Mk M b c) : Mk M a c :=
  ⟨k.os.trans h.os, k.tape.trans h.tape, k.output.trans h.output, Nat.le_trans h.size k.size, fun i hi hm => (k.block i (Nat.lt_of_lt_of_le hi h.size) hm).trans (h.block i hi hm),
   fun p x hx => let ⟨x', hx'⟩ := h.int p x hx; k.int p x' hx', fun p v hv hn => k.same p v (h.same p v hv hn) hn, fun p hp => (k.frozen p (Nat.lt_of_lt_of_le hp h.size)).trans (h.frozen p hp)⟩
theorem Mk.imp {M M' : Nat → Prop} {a b : World} (h : Mk M a b) (hM : ∀ k, M k → M' k) : Mk M' a b :=
  ⟨h.os, h.tape, h.output, h.size, fun i hi hm => h.block i hi fun hk => hm (hM i hk), h.int, h.same, h.frozen⟩
theorem Mk.of_gr {M : Nat → Prop} {a b : World} (h : Gr [] a b) : Mk M a b :=
  ⟨h.os, h.tape, h.output, h.size, fun i hi _ => h.block i hi (by simp), fun p x hx => ⟨x, h.cell hx (by simp)⟩, fun p v hv _ => h.cell hv (by simp), fun p hp => h.frozen hp (by simp)⟩
theorem Mk.set {M : Nat → Prop} {a w : World} (h : Mk M a w) {b o : Nat} {x y : Int} (hb : M b) (hc : w.cell? ⟨b, o, none⟩ = some (.int .i64 x)) : Mk M a (w.setCell ⟨b, o, none⟩ (.int .i64 y)) := by
  refine h.trans ⟨rfl, rfl, rfl, by simp, fun k hk hm => Below.heap_setCell w _ _ k (fun e => hm (by rw [e]; exact hb)), fun p z hz => ?_, fun p v hv hn => ?_, fun p hp => ?_⟩
  · by_cases hp : p = ⟨b, o, none⟩
    · subst hp; exact ⟨y, World.cell?_setCell_same _ _ _ hc⟩
    · exact ⟨z, (World.cell?_setCell_other _ _ _ _ (fun e => hp e.symm)).trans hz⟩
  · by_cases hp : p = ⟨b, o, none⟩
    · subst hp; rw [hc] at hv; cases hv; exact absurd rfl (hn x)
    · exact (World.cell?_setCell_other _ _ _ _ (fun e => hp e.symm)).trans hv
  · simp
theorem Mk.grL {M : Nat → Prop} {w w' : World} (h : Mk M w w') {L : List Nat} (hM : ∀ k, M k → k ∈ L) : Gr L w w' :=
  ⟨h.os, h.tape, h.output, h.size, fun k hk hn => h.block k hk fun hm => hn (hM k hm)⟩
theorem RowsM.at {M : Nat → Prop} {w : World} {ao : Option Addr} {n cap : Nat} {rows : List (List Int)} (h : RowsM M w (.slice ao n cap) rows) {i : Nat} {r : List Int} (hi : rows[i]? = some r) :
    ∃ b o u, ao = some ⟨b, o, none⟩ ∧ M b ∧ w.cell? ⟨b, o + i, none⟩ = some u ∧ w.frozen? ⟨b, o + i, none⟩ = false ∧ NumsM (but M b) w u r := by
  obtain ⟨ao', cap', e, _, h⟩ := h
  simp only [Value.slice.injEq] at e
  obtain ⟨rfl, _, _⟩ := e
  exact h i r hi
theorem NumsM.at {M : Nat → Prop} {w : World} {ao : Option Addr} {n cap : Nat} {xs : List Int} (h : NumsM M w (.slice ao n cap) xs) {i : Nat} {r : Int} (hi : xs[i]? = some r) :
    ∃ b o, ao = some ⟨b, o, none⟩ ∧ M b ∧ w.cell? ⟨b, o + i, none⟩ = some (.int .i64 r) ∧ w.frozen? ⟨b, o + i, none⟩ = false := by
  obtain ⟨ao', cap', e, _, h⟩ := h
  simp only [Value.slice.injEq] at e
  obtain ⟨rfl, _, _⟩ := e
  exact h i r hi
theorem ConsM.at {M : Nat → Prop} {w : World} {ao : Option Addr} {n cap : Nat} {cs : List Con} (h : ConsM M w (.slice ao n cap) cs) {i : Nat} {c : Con} (hi : cs[i]? = some c) :
    ∃ b o vv av rv, ao = some ⟨b, o, none⟩ ∧ M b ∧
      (w.cell? ⟨b, o + i * 5, none⟩ = some (.int .i64 c.kind) ∧ w.cell? ⟨b, o + i * 5 + 1, none⟩ = some vv ∧ w.cell? ⟨b, o + i * 5 + 2, none⟩ = some av ∧
       w.cell? ⟨b, o + i * 5 + 3, none⟩ = some (.int .i64 c.bound) ∧ w.cell? ⟨b, o + i * 5 + 4, none⟩ = some rv) ∧
      (∀ j, w.frozen? ⟨b, j, none⟩ = false) ∧ NumsM (but M b) w vv c.vars ∧ NumsM (but M b) w av c.args ∧ RowsM (but M b) w rv c.rows := by
  obtain ⟨ao', cap', e, _, h⟩ := h
  simp only [Value.slice.injEq] at e
  obtain ⟨rfl, _, _⟩ := e
  exact h i c hi
theorem NumsM.form {M : Nat → Prop} {w : World} {v : Value} {xs : List Int} (h : NumsM M w v xs) : ∀ x, v ≠ .int .i64 x := by
  obtain ⟨ao, cap, rfl, _⟩ := h; intro x hx; cases hx
theorem RowsM.form {M : Nat → Prop} {w : World} {v : Value} {xs : List (List Int)} (h : RowsM M w v xs) : ∀ x, v ≠ .int .i64 x := by
  obtain ⟨ao, cap, rfl, _⟩ := h; intro x hx; cases hx

theorem list_choose {α β : Type} {p : Nat → β → Prop} (xs : List α) (h : ∀ i x, xs[i]? = some x → ∃ y, p i y) : ∃ ys : List β, ys.length = xs.length ∧ ∀ i y, ys[i]? = some y → p i y := by
  induction xs generalizing p with
  | nil => exact ⟨[], rfl, fun i y h => by simp at h⟩
  | cons x r ih =>
    obtain ⟨y, hy⟩ := h 0 x rfl
    obtain ⟨ys, h1, h2⟩ := ih (p := fun i => p (i + 1)) fun i x hi => h (i + 1) x (by simpa using hi)
    refine ⟨y :: ys, by simp [h1], fun i z hz => ?_⟩
    cases i with
    | zero => simp at hz; subst hz; exact hy
    | succ i => exact h2 i z (by simpa using hz)

section
variable {M M' : Nat → Prop} {w w' : World}
theorem NumsM.mk {v : Value} {xs : List Int} (h : NumsM M w v xs) (k : Mk M' w w') : ∃ xs', xs'.length = xs.length ∧ NumsM M w' v xs' := by
  obtain ⟨ao, cap, e, hl, h⟩ := h
  obtain ⟨ys, h1, h2⟩ := list_choose (β := Int) (p := fun i y => ∃ b o, ao = some ⟨b, o, none⟩ ∧ M b ∧ w'.cell? ⟨b, o + i, none⟩ = some (.int .i64 y) ∧ w'.frozen? ⟨b, o + i, none⟩ = false) xs fun i x hi => by
    obtain ⟨b, o, e1, hm, hc, hf⟩ := h i x hi
    obtain ⟨x', hx'⟩ := k.int _ _ hc
    exact ⟨x', b, o, e1, hm, hx', (k.frozen _ (World.block_lt_of_cell? w _ hc)).trans hf⟩
  exact ⟨ys, h1, ao, cap, by rw [h1]; exact e, by rw [h1]; exact hl, h2⟩
theorem RowsM.mk {v : Value} {xs : List (List Int)} (h : RowsM M w v xs) (k : Mk M' w w') : ∃ xs', xs'.map List.length = xs.map List.length ∧ RowsM M w' v xs' := by
  obtain ⟨ao, cap, e, hl, h⟩ := h
  obtain ⟨ys, h1, h2⟩ := list_choose (β := List Int) (p := fun i y => ∃ b o u, ao = some ⟨b, o, none⟩ ∧ M b ∧ w'.cell? ⟨b, o + i, none⟩ = some u ∧ w'.frozen? ⟨b, o + i, none⟩ = false ∧ NumsM (but M b) w' u y ∧ some y.length = (xs[i]?).map List.length) xs fun i x hi => by
    obtain ⟨b, o, u, e1, hm, hc, hf, hn⟩ := h i x hi
    obtain ⟨x', hx', hn'⟩ := hn.mk k
    exact ⟨x', b, o, u, e1, hm, k.same _ _ hc hn.form, (k.frozen _ (World.block_lt_of_cell? w _ hc)).trans hf, hn', by rw [hi, hx']; rfl⟩
  refine ⟨ys, List.ext_getElem? fun i => ?_, ao, cap, by rw [h1]; exact e, by rw [h1]; exact hl, fun i y hi => ?_⟩
  · rw [List.getElem?_map, List.getElem?_map]
    cases hy : ys[i]? with
    | none =>
      have := List.getElem?_eq_none_iff.1 hy
      rw [List.getElem?_eq_none (by omega)]
    | some y => obtain ⟨b, o, u, _, _, _, _, _, e2⟩ := h2 i y hy; rw [← e2]; rfl
  · obtain ⟨b, o, u, e1, hm, hc, hf, hn, _⟩ := h2 i y hi
    exact ⟨b, o, u, e1, hm, hc, hf, hn⟩
/-- Constraints of the same shape. -/
def ShC (c c' : Con) : Prop := c'.vars.length = c.vars.length ∧ c'.args.length = c.args.length ∧ c'.rows.map List.length = c.rows.map List.length
theorem ConsM.mk {v : Value} {cs : List Con} (h : ConsM M w v cs) (k : Mk M' w w') : ∃ cs', cs'.length = cs.length ∧ (∀ (i : Nat) c c', cs[i]? = some c → cs'[i]? = some c' → ShC c c') ∧ ConsM M w' v cs' := by
  obtain ⟨ao, cap, e, hl, h⟩ := h
  obtain ⟨ys, h1, h2⟩ := list_choose (β := Con) (p := fun i c' => (∃ b o vv av rv, ao = some ⟨b, o, none⟩ ∧ M b ∧
      (w'.cell? ⟨b, o + i * 5, none⟩ = some (.int .i64 c'.kind) ∧ w'.cell? ⟨b, o + i * 5 + 1, none⟩ = some vv ∧ w'.cell? ⟨b, o + i * 5 + 2, none⟩ = some av ∧
       w'.cell? ⟨b, o + i * 5 + 3, none⟩ = some (.int .i64 c'.bound) ∧ w'.cell? ⟨b, o + i * 5 + 4, none⟩ = some rv) ∧
      (∀ j, w'.frozen? ⟨b, j, none⟩ = false) ∧ NumsM (but M b) w' vv c'.vars ∧ NumsM (but M b) w' av c'.args ∧ RowsM (but M b) w' rv c'.rows) ∧ ∀ c, cs[i]? = some c → ShC c c') cs fun i c hi => by
    obtain ⟨b, o, vv, av, rv, e1, hm, ⟨c0, c1, c2, c3, c4⟩, hf, n1, n2, n3⟩ := h i c hi
    obtain ⟨k', hk'⟩ := k.int _ _ c0
    obtain ⟨b', hb'⟩ := k.int _ _ c3
    obtain ⟨vs, l1, m1⟩ := n1.mk k
    obtain ⟨ars, l2, m2⟩ := n2.mk k
    obtain ⟨rs, l3, m3⟩ := n3.mk k
    refine ⟨⟨k', vs, ars, b', rs⟩, ⟨b, o, vv, av, rv, e1, hm, ⟨hk', k.same _ _ c1 n1.form, k.same _ _ c2 n2.form, hb', k.same _ _ c4 n3.form⟩, fun j => (k.frozen ⟨b, j, none⟩ (show b < w.heap.size from World.block_lt_of_cell? w ⟨b, o + i * 5, none⟩ c0)).trans (hf j), m1, m2, m3⟩, fun c' hc' => ?_⟩
    rw [hi] at hc'; cases hc'
    exact ⟨l1, l2, l3⟩
  exact ⟨ys, h1, fun i c c' hc hc' => (h2 i c' hc').2 c hc, ao, cap, by rw [h1]; exact e, by rw [h1]; exact hl, fun i c' hi => (h2 i c' hi).1⟩
end

/-! ### Stores -/
/-! ### New rows -/
end Go.Proofs.YtmonhpoogfdpoaaGreatDoor

set_option linter.unusedVariables false
namespace Go.Proofs.YtmonhpoogfdpoaaGreatDoor
open Go.RowKit

/-- WHAT THE WALK IS TOLD OF A SLICE OF INTEGERS THAT CAME IN: it is nil; or it leads to a row of 'cap' cells, the numbers 'zs' (the first 'len' are its elements, the rest its spare room), each fitting its kind. -/
def IsRow (k : IntKind) (w : World) (a : Option Addr) (len cap : Nat) (zs : List Int) : Prop :=
  (a = none ∧ len = 0 ∧ cap = 0 ∧ zs = []) ∨
  ∃ x, a = some x ∧ len ≤ cap ∧ cap ≤ maxLen ∧ zs.length = cap ∧ (∀ i, i < zs.length → w.cell? (x.add i) = some (.int k (zs.getD i 0))) ∧ ∀ n ∈ zs, (Lit.int k n).wf = true

theorem addr_add (b o i : Nat) : (⟨b, o, none⟩ : Addr).add i = ⟨b, o + i, none⟩ := by unfold Addr.add; split <;> simp_all
theorem spot_none {w : World} {a : Addr} {v : Value} (h : w.cell? a = some v) : a.spot = none := by
  unfold World.cell? at h
  split at h
  · split at h
    · cases h
    · rename_i hs; simpa using hs
  · cases h
theorem row_open {k : IntKind} {w : World} {ao : Option Addr} {len cap : Nat} {zs : List Int} (h : IsRow k w ao len cap zs) :
    ∃ xs : List Int, len = xs.length ∧ (xs.length ≤ cap ∧ cap ≤ 9223372036854775807 ∧ (ao = none → cap = 0)) ∧ Cells [] w k ao xs ∧ ∀ x ∈ xs, (Lit.int k x).wf = true := by
  rcases h with ⟨rfl, rfl, rfl, rfl⟩ | ⟨x, rfl, hlc, hcm, hzl, hcell, hwz⟩
  · exact ⟨[], rfl, by simp, fun i x hi => by simp at hi, by simp⟩
  · refine ⟨zs.take len, by rw [List.length_take]; omega, ⟨by rw [List.length_take]; omega, by simpa [maxLen] using hcm, by simp⟩, fun i y hi => ?_, fun y hy => hwz y (List.mem_of_mem_take hy)⟩
    rw [List.getElem?_take] at hi
    split at hi
    · have hi' := (List.getElem?_eq_some_iff.1 hi).1
      have h0 := hcell 0 (by omega)
      have hx : x = ⟨x.block, x.off, none⟩ := by
        have := spot_none h0
        simp [Addr.add] at this
        cases x; simp_all
      have h1 := hcell i hi'
      rw [hx, addr_add] at h1
      refine ⟨x.block, x.off, by rw [← hx], by simp, ?_⟩
      rw [h1]; simp [hi]
    · cases hi
theorem wf_u8 {x : Int} (h : (Lit.int .u8 x).wf = true) : 0 ≤ x ∧ x ≤ 255 := by
  simpa [Lit.wf, IntKind.min, IntKind.max, IntKind.signed, IntKind.bits] using h
end Go.Proofs.YtmonhpoogfdpoaaGreatDoor

set_option linter.unusedVariables false
namespace Go.Proofs.YtmonhpoogfdpoaaGreatDoor
open Go.RowKit Go.ChangeShapes Go.WideShapes

instance : Inhabited Con := ⟨⟨0, [], [], 0, []⟩⟩
section
variable {H : Type} {enc : TypeId × Value → H} {W : World} {held : Bool}

set_option maxRecDepth 100000
end
end Go.Proofs.YtmonhpoogfdpoaaGreatDoor
