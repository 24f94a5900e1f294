/-
  Data with a home: readings in blocks that a predicate names, none of them frozen; and what a call does that writes numbers over numbers. No program is mentioned.
  How a slice of numbers that came in is read.
  How a model and a constraint that came in as arguments are read.
-/
import Derived.Test.YtihkeihnpiddoaaGreatXFP
import Derived.Lib.SmallJoins
import Derived.Test.YtihkeihnpiddoaaGreatXLib
import Derived.Test.YtihkeihnpiddoaaGreatXA
import Derived.Deep.Slices
import Derived.ChangeArms
set_option linter.unusedVariables false
namespace Go.Proofs.YtihkeihnpiddoaaGreat
open Go.RowKit

theorem RowsV.at0 {S : List Nat} {w : World} {ao : Option Addr} {n cap : Nat} {rows : List (List Int)} (h : RowsV S w (.slice ao n cap) rows) {i : Nat} {r : List Int} (hi : rows[i]? = some r) :
    ∃ b o u, ao = some ⟨b, o, none⟩ ∧ w.cell? ⟨b, o + i, none⟩ = some u ∧ Nums S w .i64 u r := by
  obtain ⟨ao', cap', e, _, hc⟩ := h
  cases e
  obtain ⟨b, o, u, e1, _, h1, h2⟩ := hc i r hi
  exact ⟨b, o, u, e1, h1, h2⟩
def NumsM (M : Nat → Prop) (w : World) (v : Value) (xs : List Int) : Prop :=
  ∃ ao cap, v = .slice ao xs.length cap ∧ (xs.length ≤ cap ∧ cap ≤ 9223372036854775807 ∧ (ao = none → cap = 0)) ∧
    ∀ i x, xs[i]? = some x → ∃ b o, ao = some ⟨b, o, none⟩ ∧ M b ∧ w.cell? ⟨b, o + i, none⟩ = some (.int .i64 x) ∧ w.frozen? ⟨b, o + i, none⟩ = false
def but (M : Nat → Prop) (b : Nat) (k : Nat) : Prop := M k ∧ k ≠ b
def RowsM (M : Nat → Prop) (w : World) (v : Value) (rows : List (List Int)) : Prop :=
  ∃ ao cap, v = .slice ao rows.length cap ∧ (rows.length ≤ cap ∧ cap ≤ 9223372036854775807 ∧ (ao = none → cap = 0)) ∧
    ∀ i r, rows[i]? = some r → ∃ b o u, ao = some ⟨b, o, none⟩ ∧ M b ∧ w.cell? ⟨b, o + i, none⟩ = some u ∧ w.frozen? ⟨b, o + i, none⟩ = false ∧ NumsM (but M b) w u r
def ConM (M : Nat → Prop) (w : World) (v : Value) (c : Con) : Prop :=
  ∃ vv av rv, v = .agg #[.int .i64 c.kind, vv, av, .int .i64 c.bound, rv] ∧ NumsM M w vv c.vars ∧ NumsM M w av c.args ∧ RowsM M w rv c.rows
def ConsM (M : Nat → Prop) (w : World) (v : Value) (cs : List Con) : Prop :=
  ∃ ao cap, v = .slice ao cs.length cap ∧ (cs.length ≤ cap ∧ cap ≤ 9223372036854775807 ∧ (ao = none → cap = 0)) ∧
    ∀ i c, cs[i]? = some c → ∃ b o vv av rv, ao = some ⟨b, o, none⟩ ∧ M b ∧
      (w.cell? ⟨b, o + i * 5, none⟩ = some (.int .i64 c.kind) ∧ w.cell? ⟨b, o + i * 5 + 1, none⟩ = some vv ∧ w.cell? ⟨b, o + i * 5 + 2, none⟩ = some av ∧
       w.cell? ⟨b, o + i * 5 + 3, none⟩ = some (.int .i64 c.bound) ∧ w.cell? ⟨b, o + i * 5 + 4, none⟩ = some rv) ∧
      (∀ j, w.frozen? ⟨b, j, none⟩ = false) ∧ NumsM (but M b) w vv c.vars ∧ NumsM (but M b) w av c.args ∧ RowsM (but M b) w rv c.rows
def ModM (M : Nat → Prop) (w : World) (v : Value) (m : Mod) : Prop :=
  ∃ dv cv, v = .agg #[dv, cv] ∧ NumsM M w dv m.doms ∧ ConsM M w cv m.cons

section
variable {M M' : Nat → Prop} {S : List Nat} {w w' : World}
theorem NumsM.move {v : Value} {xs : List Int} (h : NumsM M w v xs) (hc : ∀ a u, M a.block → w.cell? a = some u → w'.cell? a = some u ∧ w'.frozen? a = w.frozen? a ∧ M' a.block) : NumsM M' w' v xs := by
  obtain ⟨ao, cap, e, hl, h⟩ := h
  refine ⟨ao, cap, e, hl, fun i x hi => ?_⟩
  obtain ⟨b, o, e1, hm, hc1, hf⟩ := h i x hi
  obtain ⟨k1, k2, k3⟩ := hc ⟨b, o + i, none⟩ _ hm hc1
  exact ⟨b, o, e1, k3, k1, k2.trans hf⟩
theorem RowsM.move {v : Value} {rows : List (List Int)} (h : RowsM M w v rows) (hc : ∀ a u, M a.block → w.cell? a = some u → w'.cell? a = some u ∧ w'.frozen? a = w.frozen? a ∧ M' a.block) : RowsM M' w' v rows := by
  obtain ⟨ao, cap, e, hl, h⟩ := h
  refine ⟨ao, cap, e, hl, fun i r hi => ?_⟩
  obtain ⟨b, o, u, e1, hm, hc1, hf, hn⟩ := h i r hi
  obtain ⟨k1, k2, k3⟩ := hc ⟨b, o + i, none⟩ _ hm hc1
  refine ⟨b, o, u, e1, k3, k1, k2.trans hf, hn.move fun a x ha hx => ?_⟩
  obtain ⟨j1, j2, j3⟩ := hc a x ha.1 hx
  exact ⟨j1, j2, j3, ha.2⟩
theorem ConM.move {v : Value} {c : Con} (h : ConM M w v c) (hc : ∀ a u, M a.block → w.cell? a = some u → w'.cell? a = some u ∧ w'.frozen? a = w.frozen? a ∧ M' a.block) : ConM M' w' v c :=
  let ⟨vv, av, rv, e, h1, h2, h3⟩ := h; ⟨vv, av, rv, e, h1.move hc, h2.move hc, h3.move hc⟩
theorem ConsM.move {v : Value} {cs : List Con} (h : ConsM M w v cs) (hc : ∀ a u, M a.block → w.cell? a = some u → w'.cell? a = some u ∧ w'.frozen? a = w.frozen? a ∧ M' a.block)
    (hf' : ∀ b, M b → b < w.heap.size → ∀ j, w'.frozen? ⟨b, j, none⟩ = w.frozen? ⟨b, j, none⟩) : ConsM M' w' v cs := by
  obtain ⟨ao, cap, e, hl, h⟩ := h
  refine ⟨ao, cap, e, hl, fun i r hi => ?_⟩
  obtain ⟨b, o, vv, av, rv, e1, hm, ⟨c0, c1, c2, c3, c4⟩, hf, n1, n2, n3⟩ := h i r hi
  have hk : ∀ a x, but M b a.block → w.cell? a = some x → w'.cell? a = some x ∧ w'.frozen? a = w.frozen? a ∧ but M' b a.block := fun a x ha hx => by
    obtain ⟨j1, j2, j3⟩ := hc a x ha.1 hx
    exact ⟨j1, j2, j3, ha.2⟩
  exact ⟨b, o, vv, av, rv, e1, (hc ⟨b, o + i * 5, none⟩ _ hm c0).2.2, ⟨(hc _ _ hm c0).1, (hc _ _ hm c1).1, (hc _ _ hm c2).1, (hc _ _ hm c3).1, (hc _ _ hm c4).1⟩,
    fun j => (hf' b hm (World.block_lt_of_cell? w _ c0) j).trans (hf j), n1.move hk, n2.move hk, n3.move hk⟩

theorem keepGr (hg : Gr S w w') (hS : ∀ b ∈ S, ¬ M b) (hM : ∀ b, b < w.heap.size → M b → M' b) : ∀ a u, M a.block → w.cell? a = some u → w'.cell? a = some u ∧ w'.frozen? a = w.frozen? a ∧ M' a.block := fun a u hm hu => by
  have hlt := World.block_lt_of_cell? w a hu
  have hs : a.block ∉ S := fun h => hS _ h hm
  exact ⟨hg.cell hu hs, hg.frozen hlt hs, hM _ hlt hm⟩
theorem NumsM.gr' {v : Value} {xs : List Int} (h : NumsM M w v xs) (hg : Gr S w w') (hS : ∀ b ∈ S, ¬ M b) (hM : ∀ b, b < w.heap.size → M b → M' b) : NumsM M' w' v xs := h.move (keepGr hg hS hM)
theorem RowsM.gr' {v : Value} {xs : List (List Int)} (h : RowsM M w v xs) (hg : Gr S w w') (hS : ∀ b ∈ S, ¬ M b) (hM : ∀ b, b < w.heap.size → M b → M' b) : RowsM M' w' v xs := h.move (keepGr hg hS hM)
theorem ConM.gr' {v : Value} {c : Con} (h : ConM M w v c) (hg : Gr S w w') (hS : ∀ b ∈ S, ¬ M b) (hM : ∀ b, b < w.heap.size → M b → M' b) : ConM M' w' v c := h.move (keepGr hg hS hM)
theorem ConsM.gr' {v : Value} {cs : List Con} (h : ConsM M w v cs) (hg : Gr S w w') (hS : ∀ b ∈ S, ¬ M b) (hM : ∀ b, b < w.heap.size → M b → M' b) : ConsM M' w' v cs :=
  h.move (keepGr hg hS hM) fun b hb hlt j => hg.frozen hlt fun h => hS _ h hb
theorem ModM.gr' {v : Value} {m : Mod} (h : ModM M w v m) (hg : Gr S w w') (hS : ∀ b ∈ S, ¬ M b) (hM : ∀ b, b < w.heap.size → M b → M' b) : ModM M' w' v m :=
  let ⟨dv, cv, e, h1, h2⟩ := h; ⟨dv, cv, e, h1.gr' hg hS hM, h2.gr' hg hS hM⟩

theorem NumsM.nums {v : Value} {xs : List Int} (h : NumsM M w v xs) (hS : ∀ b ∈ S, ¬ M b) : Nums S w .i64 v xs :=
  let ⟨ao, cap, e, hl, h⟩ := h
  ⟨ao, cap, e, hl, fun i x hi => let ⟨b, o, e1, hm, hc, _⟩ := h i x hi; ⟨b, o, e1, fun hb => hS b hb hm, hc⟩⟩
theorem RowsM.rows {v : Value} {xs : List (List Int)} (h : RowsM M w v xs) (hS : ∀ b ∈ S, ¬ M b) : RowsV S w v xs :=
  let ⟨ao, cap, e, hl, h⟩ := h
  ⟨ao, cap, e, hl, fun i x hi => let ⟨b, o, u, e1, hm, hc, _, hn⟩ := h i x hi; ⟨b, o, u, e1, fun hb => hS b hb hm, hc, hn.nums fun k hk hm => hS k hk hm.1⟩⟩
theorem ConsM.cons {v : Value} {cs : List Con} (h : ConsM M w v cs) (hS : ∀ b ∈ S, ¬ M b) : ConsV S w v cs :=
  let ⟨ao, cap, e, hl, h⟩ := h
  ⟨ao, cap, e, hl, fun i c hi => let ⟨b, o, vv, av, rv, e1, hm, hc, _, n1, n2, n3⟩ := h i c hi
    ⟨b, o, vv, av, rv, e1, fun hb => hS b hb hm, hc, n1.nums fun k hk hm => hS k hk hm.1, n2.nums fun k hk hm => hS k hk hm.1, n3.rows fun k hk hm => hS k hk hm.1⟩⟩
theorem ModM.mod {v : Value} {m : Mod} (h : ModM M w v m) (hS : ∀ b ∈ S, ¬ M b) : ModV S w v m :=
  let ⟨dv, cv, e, h1, h2⟩ := h; ⟨dv, cv, e, h1.nums hS, h2.cons hS⟩

theorem NumsM.nil (M : Nat → Prop) (w : World) : NumsM M w (.slice none 0 0) [] := ⟨none, 0, rfl, by simp, fun i x h => by simp at h⟩
theorem RowsM.nil (M : Nat → Prop) (w : World) : RowsM M w (.slice none 0 0) [] := ⟨none, 0, rfl, by simp, fun i x h => by simp at h⟩
end

/-- Blocks made since. -/
def New (B : Nat) (w : World) (b : Nat) : Prop := B ≤ b ∧ b < w.heap.size
theorem Own.numsM {B : Nat} {w : World} {e : TypeId} {v : Value} {xs : List Int} (h : Own B w e v xs) : NumsM (New B w) w v xs := by
  rcases Nat.eq_zero_or_pos xs.length with h0 | h0
  · obtain ⟨ao, cap, e1, hl, _⟩ := h.nums (S := []) (by simp)
    exact ⟨ao, cap, e1, hl, fun i x hi => by have := (List.getElem?_eq_some_iff.1 hi).1; omega⟩
  · obtain ⟨ao, cap, e1, hl, _⟩ := h.nums (S := []) (by simp)
    obtain ⟨g, c, rfl, hB, hc, hf⟩ := h.open h0
    cases e1
    exact ⟨_, _, rfl, hl, fun i x hi => ⟨g, 0, rfl, hB, by simpa using hc i x hi, by simpa using hf i⟩⟩
theorem OwnC.numsM {B : Nat} {w : World} {e : TypeId} {v : Value} {xs : List Int} (h : OwnC B w e v xs) : NumsM (New B w) w v xs := by
  obtain ⟨ao, cap, e1, hl, _⟩ := h.nums' (S := []) (by simp)
  refine ⟨ao, cap, e1, hl, fun i x hi => ?_⟩
  obtain ⟨g, c, rfl⟩ := h.open (Nat.lt_of_le_of_lt (Nat.zero_le i) (List.getElem?_eq_some_iff.1 hi).1)
  cases e1
  obtain ⟨h1, h2⟩ := h.at hi
  exact ⟨g, 0, rfl, h.block, by simpa using h1, by simpa using h2⟩

/-! ### Numbers written over numbers -/
structure Mk (M : Nat → Prop) (w w' : World) : Prop where
  os : w'.os = w.os
  tape : w'.tape = w.tape
  output : w'.output = w.output
  size : w.heap.size ≤ w'.heap.size
  block : ∀ k, k < w.heap.size → ¬ M k → w'.heap[k]? = w.heap[k]?
  int : ∀ a x, w.cell? a = some (.int .i64 x) → ∃ x', w'.cell? a = some (.int .i64 x')
  same : ∀ a v, w.cell? a = some v → (∀ x, v ≠ .int .i64 x) → w'.cell? a = some v
  frozen : ∀ a, a.block < w.heap.size → w'.frozen? a = w.frozen? a
theorem Mk.refl (M : Nat → Prop) (w : World) : Mk M w w := ⟨rfl, rfl, rfl, Nat.le_refl _, fun _ _ _ => rfl, fun _ x h => ⟨x, h⟩, fun _ _ h _ => h, fun _ _ => rfl⟩
theorem Mk.trans {M : Nat → Prop} {a b c : World} (h : Mk M a b) (k : Mk M b c) : Mk M a c :=
  ⟨k.os.trans h.os, k.tape.trans h.tape, k.output.trans h.output, Nat.le_trans h.size k.size, fun i hi hm => (k.block i (Nat.lt_of_lt_of_le hi h.size) hm).trans (h.block i hi hm),
   fun p x hx => let ⟨x', hx'⟩ := h.int p x hx; k.int p x' hx', fun p v hv hn => k.same p v (h.same p v hv hn) hn, fun p hp => (k.frozen p (Nat.lt_of_lt_of_le hp h.size)).trans (h.frozen p hp)⟩
theorem Mk.imp {M M' : Nat → Prop} {a b : World} (h : Mk M a b) (hM : ∀ k, M k → M' k) : Mk M' a b :=
  ⟨h.os, h.tape, h.output, h.size, fun i hi hm => h.block i hi fun hk => hm (hM i hk), h.int, h.same, h.frozen⟩
theorem Mk.of_gr {M : Nat → Prop} {a b : World} (h : Gr [] a b) : Mk M a b :=
  ⟨h.os, h.tape, h.output, h.size, fun i hi _ => h.block i hi (by simp), fun p x hx => ⟨x, h.cell hx (by simp)⟩, fun p v hv _ => h.cell hv (by simp), fun p hp => h.frozen hp (by simp)⟩
theorem Mk.set {M : Nat → Prop} {a w : World} (h : Mk M a w) {b o : Nat} {x y : Int} (hb : M b) (hc : w.cell? ⟨b, o, none⟩ = some (.int .i64 x)) : Mk M a (w.setCell ⟨b, o, none⟩ (.int .i64 y)) := by
  refine h.trans ⟨rfl, rfl, rfl, by simp, fun k hk hm => Below.heap_setCell w _ _ k (fun e => hm (by rw [e]; exact hb)), fun p z hz => ?_, fun p v hv hn => ?_, fun p hp => ?_⟩
  · by_cases hp : p = ⟨b, o, none⟩
    · subst hp; exact ⟨y, World.cell?_setCell_same _ _ _ hc⟩
    · exact ⟨z, (World.cell?_setCell_other _ _ _ _ (fun e => hp e.symm)).trans hz⟩
  · by_cases hp : p = ⟨b, o, none⟩
    · subst hp; rw [hc] at hv; cases hv; exact absurd rfl (hn x)
    · exact (World.cell?_setCell_other _ _ _ _ (fun e => hp e.symm)).trans hv
  · simp
theorem Mk.grL {M : Nat → Prop} {w w' : World} (h : Mk M w w') {L : List Nat} (hM : ∀ k, M k → k ∈ L) : Gr L w w' :=
  ⟨h.os, h.tape, h.output, h.size, fun k hk hn => h.block k hk fun hm => hn (hM k hm)⟩
theorem RowsM.at {M : Nat → Prop} {w : World} {ao : Option Addr} {n cap : Nat} {rows : List (List Int)} (h : RowsM M w (.slice ao n cap) rows) {i : Nat} {r : List Int} (hi : rows[i]? = some r) :
    ∃ b o u, ao = some ⟨b, o, none⟩ ∧ M b ∧ w.cell? ⟨b, o + i, none⟩ = some u ∧ w.frozen? ⟨b, o + i, none⟩ = false ∧ NumsM (but M b) w u r := by
  obtain ⟨ao', cap', e, _, h⟩ := h
  simp only [Value.slice.injEq] at e
  obtain ⟨rfl, _, _⟩ := e
  exact h i r hi
theorem NumsM.at {M : Nat → Prop} {w : World} {ao : Option Addr} {n cap : Nat} {xs : List Int} (h : NumsM M w (.slice ao n cap) xs) {i : Nat} {r : Int} (hi : xs[i]? = some r) :
    ∃ b o, ao = some ⟨b, o, none⟩ ∧ M b ∧ w.cell? ⟨b, o + i, none⟩ = some (.int .i64 r) ∧ w.frozen? ⟨b, o + i, none⟩ = false := by
  obtain ⟨ao', cap', e, _, h⟩ := h
  simp only [Value.slice.injEq] at e
  obtain ⟨rfl, _, _⟩ := e
  exact h i r hi
theorem ConsM.at {M : Nat → Prop} {w : World} {ao : Option Addr} {n cap : Nat} {cs : List Con} (h : ConsM M w (.slice ao n cap) cs) {i : Nat} {c : Con} (hi : cs[i]? = some c) :
    ∃ b o vv av rv, ao = some ⟨b, o, none⟩ ∧ M b ∧
      (w.cell? ⟨b, o + i * 5, none⟩ = some (.int .i64 c.kind) ∧ w.cell? ⟨b, o + i * 5 + 1, none⟩ = some vv ∧ w.cell? ⟨b, o + i * 5 + 2, none⟩ = some av ∧
       w.cell? ⟨b, o + i * 5 + 3, none⟩ = some (.int .i64 c.bound) ∧ w.cell? ⟨b, o + i * 5 + 4, none⟩ = some rv) ∧
      (∀ j, w.frozen? ⟨b, j, none⟩ = false) ∧ NumsM (but M b) w vv c.vars ∧ NumsM (but M b) w av c.args ∧ RowsM (but M b) w rv c.rows := by
  obtain ⟨ao', cap', e, _, h⟩ := h
  simp only [Value.slice.injEq] at e
  obtain ⟨rfl, _, _⟩ := e
  exact h i c hi
theorem NumsM.form {M : Nat → Prop} {w : World} {v : Value} {xs : List Int} (h : NumsM M w v xs) : ∀ x, v ≠ .int .i64 x := by
  obtain ⟨ao, cap, rfl, _⟩ := h; intro x hx; cases hx
theorem RowsM.form {M : Nat → Prop} {w : World} {v : Value} {xs : List (List Int)} (h : RowsM M w v xs) : ∀ x, v ≠ .int .i64 x := by
  obtain ⟨ao, cap, rfl, _⟩ := h; intro x hx; cases hx

theorem list_choose {α β : Type} {p : Nat → β → Prop} (xs : List α) (h : ∀ i x, xs[i]? = some x → ∃ y, p i y) : ∃ ys : List β, ys.length = xs.length ∧ ∀ i y, ys[i]? = some y → p i y := by
  induction xs generalizing p with
  | nil => exact ⟨[], rfl, fun i y h => by simp at h⟩
  | cons x r ih =>
    obtain ⟨y, hy⟩ := h 0 x rfl
    obtain ⟨ys, h1, h2⟩ := ih (p := fun i => p (i + 1)) fun i x hi => h (i + 1) x (by simpa using hi)
    refine ⟨y :: ys, by simp [h1], fun i z hz => ?_⟩
    cases i with
    | zero => simp at hz; subst hz; exact hy
    | succ i => exact h2 i z (by simpa using hz)

section
variable {M M' : Nat → Prop} {w w' : World}
theorem NumsM.mk {v : Value} {xs : List Int} (h : NumsM M w v xs) (k : Mk M' w w') : ∃ xs', xs'.length = xs.length ∧ NumsM M w' v xs' := by
  obtain ⟨ao, cap, e, hl, h⟩ := h
  obtain ⟨ys, h1, h2⟩ := list_choose (β := Int) (p := fun i y => ∃ b o, ao = some ⟨b, o, none⟩ ∧ M b ∧ w'.cell? ⟨b, o + i, none⟩ = some (.int .i64 y) ∧ w'.frozen? ⟨b, o + i, none⟩ = false) xs fun i x hi => by
    obtain ⟨b, o, e1, hm, hc, hf⟩ := h i x hi
    obtain ⟨x', hx'⟩ := k.int _ _ hc
    exact ⟨x', b, o, e1, hm, hx', (k.frozen _ (World.block_lt_of_cell? w _ hc)).trans hf⟩
  exact ⟨ys, h1, ao, cap, by rw [h1]; exact e, by rw [h1]; exact hl, h2⟩
theorem RowsM.mk {v : Value} {xs : List (List Int)} (h : RowsM M w v xs) (k : Mk M' w w') : ∃ xs', xs'.map List.length = xs.map List.length ∧ RowsM M w' v xs' := by
  obtain ⟨ao, cap, e, hl, h⟩ := h
  obtain ⟨ys, h1, h2⟩ := list_choose (β := List Int) (p := fun i y => ∃ b o u, ao = some ⟨b, o, none⟩ ∧ M b ∧ w'.cell? ⟨b, o + i, none⟩ = some u ∧ w'.frozen? ⟨b, o + i, none⟩ = false ∧ NumsM (but M b) w' u y ∧ some y.length = (xs[i]?).map List.length) xs fun i x hi => by
    obtain ⟨b, o, u, e1, hm, hc, hf, hn⟩ := h i x hi
    obtain ⟨x', hx', hn'⟩ := hn.mk k
    exact ⟨x', b, o, u, e1, hm, k.same _ _ hc hn.form, (k.frozen _ (World.block_lt_of_cell? w _ hc)).trans hf, hn', by rw [hi, hx']; rfl⟩
  refine ⟨ys, List.ext_getElem? fun i => ?_, ao, cap, by rw [h1]; exact e, by rw [h1]; exact hl, fun i y hi => ?_⟩
  · rw [List.getElem?_map, List.getElem?_map]
    cases hy : ys[i]? with
    | none =>
      have := List.getElem?_eq_none_iff.1 hy
      rw [List.getElem?_eq_none (by omega)]
    | some y => obtain ⟨b, o, u, _, _, _, _, _, e2⟩ := h2 i y hy; rw [← e2]; rfl
  · obtain ⟨b, o, u, e1, hm, hc, hf, hn, _⟩ := h2 i y hi
    exact ⟨b, o, u, e1, hm, hc, hf, hn⟩
/-- Constraints of the same shape. -/
def ShC (c c' : Con) : Prop := c'.vars.length = c.vars.length ∧ c'.args.length = c.args.length ∧ c'.rows.map List.length = c.rows.map List.length
theorem ConsM.mk {v : Value} {cs : List Con} (h : ConsM M w v cs) (k : Mk M' w w') : ∃ cs', cs'.length = cs.length ∧ (∀ (i : Nat) c c', cs[i]? = some c → cs'[i]? = some c' → ShC c c') ∧ ConsM M w' v cs' := by
  obtain ⟨ao, cap, e, hl, h⟩ := h
  obtain ⟨ys, h1, h2⟩ := list_choose (β := Con) (p := fun i c' => (∃ b o vv av rv, ao = some ⟨b, o, none⟩ ∧ M b ∧
      (w'.cell? ⟨b, o + i * 5, none⟩ = some (.int .i64 c'.kind) ∧ w'.cell? ⟨b, o + i * 5 + 1, none⟩ = some vv ∧ w'.cell? ⟨b, o + i * 5 + 2, none⟩ = some av ∧
       w'.cell? ⟨b, o + i * 5 + 3, none⟩ = some (.int .i64 c'.bound) ∧ w'.cell? ⟨b, o + i * 5 + 4, none⟩ = some rv) ∧
      (∀ j, w'.frozen? ⟨b, j, none⟩ = false) ∧ NumsM (but M b) w' vv c'.vars ∧ NumsM (but M b) w' av c'.args ∧ RowsM (but M b) w' rv c'.rows) ∧ ∀ c, cs[i]? = some c → ShC c c') cs fun i c hi => by
    obtain ⟨b, o, vv, av, rv, e1, hm, ⟨c0, c1, c2, c3, c4⟩, hf, n1, n2, n3⟩ := h i c hi
    obtain ⟨k', hk'⟩ := k.int _ _ c0
    obtain ⟨b', hb'⟩ := k.int _ _ c3
    obtain ⟨vs, l1, m1⟩ := n1.mk k
    obtain ⟨ars, l2, m2⟩ := n2.mk k
    obtain ⟨rs, l3, m3⟩ := n3.mk k
    refine ⟨⟨k', vs, ars, b', rs⟩, ⟨b, o, vv, av, rv, e1, hm, ⟨hk', k.same _ _ c1 n1.form, k.same _ _ c2 n2.form, hb', k.same _ _ c4 n3.form⟩, fun j => (k.frozen ⟨b, j, none⟩ (show b < w.heap.size from World.block_lt_of_cell? w ⟨b, o + i * 5, none⟩ c0)).trans (hf j), m1, m2, m3⟩, fun c' hc' => ?_⟩
    rw [hi] at hc'; cases hc'
    exact ⟨l1, l2, l3⟩
  exact ⟨ys, h1, fun i c c' hc hc' => (h2 i c' hc').2 c hc, ao, cap, by rw [h1]; exact e, by rw [h1]; exact hl, fun i c' hi => (h2 i c' hi).1⟩
end

/-! ### Stores -/
theorem RowsM.set {M : Nat → Prop} {w : World} {b o n cap : Nat} {rows : List (List Int)} (h : RowsM M w (.slice (some ⟨b, o, none⟩) n cap) rows) {k : Nat} (hk : k < rows.length) {u : Value} {r : List Int} (hu : NumsM (but M b) w u r) :
    RowsM M (w.setCell ⟨b, o + k, none⟩ u) (.slice (some ⟨b, o, none⟩) n cap) (rows.set k r) := by
  obtain ⟨ao, cap', e, hl, h⟩ := h
  cases e
  have hoth : ∀ a x, but M b a.block → w.cell? a = some x → (w.setCell ⟨b, o + k, none⟩ u).cell? a = some x ∧ (w.setCell ⟨b, o + k, none⟩ u).frozen? a = w.frozen? a ∧ but M b a.block := fun a x ha hx =>
    ⟨(World.cell?_setCell_other _ _ _ _ (by rintro rfl; exact ha.2 rfl)).trans hx, by simp, ha⟩
  refine ⟨some ⟨b, o, none⟩, cap, by simp, by simpa using hl, fun i r' hi => ?_⟩
  by_cases hik : k = i
  · subst hik
    rw [List.getElem?_set_self hk] at hi
    cases hi
    obtain ⟨r0, hr0⟩ := get_some hk
    obtain ⟨b', o', u', e1, hm, hc, hf, hn⟩ := h k r0 hr0
    cases e1
    exact ⟨b, o, u, rfl, hm, World.cell?_setCell_same _ _ _ hc, by simpa using hf, hu.move hoth⟩
  · rw [List.getElem?_set_ne hik] at hi
    obtain ⟨b', o', u', e1, hm, hc, hf, hn⟩ := h i r' hi
    cases e1
    refine ⟨b, o, u', rfl, hm, (World.cell?_setCell_other _ _ _ _ ?_).trans hc, by simpa using hf, hn.move hoth⟩
    intro e; simp at e; try omega
theorem set5_cell (w : World) (b p : Nat) (a0 a1 a2 a3 a4 : Value) (hc : ∀ j, j < 5 → ∃ u, w.cell? ⟨b, p + j, none⟩ = some u) :
    (∀ j x, [a0, a1, a2, a3, a4][j]? = some x → (((((w.setCell ⟨b, p, none⟩ a0).setCell ⟨b, p + 1, none⟩ a1).setCell ⟨b, p + 2, none⟩ a2).setCell ⟨b, p + 3, none⟩ a3).setCell ⟨b, p + 4, none⟩ a4).cell? ⟨b, p + j, none⟩ = some x) ∧
    ∀ q : Addr, (q.block ≠ b ∨ q.off < p ∨ p + 5 ≤ q.off) → (((((w.setCell ⟨b, p, none⟩ a0).setCell ⟨b, p + 1, none⟩ a1).setCell ⟨b, p + 2, none⟩ a2).setCell ⟨b, p + 3, none⟩ a3).setCell ⟨b, p + 4, none⟩ a4).cell? q = w.cell? q := by
  have ne : ∀ i j : Nat, i ≠ j → (⟨b, p + i, none⟩ : Addr) ≠ ⟨b, p + j, none⟩ := fun i j h e => h (Nat.add_left_cancel (congrArg Addr.off e))
  obtain ⟨u0, h0⟩ := hc 0 (by omega)
  obtain ⟨u1, h1⟩ := hc 1 (by omega)
  obtain ⟨u2, h2⟩ := hc 2 (by omega)
  obtain ⟨u3, h3⟩ := hc 3 (by omega)
  obtain ⟨u4, h4⟩ := hc 4 (by omega)
  have e0 : (⟨b, p, none⟩ : Addr) = ⟨b, p + 0, none⟩ := rfl
  rw [e0]
  have oth : ∀ (W : World) (i j : Nat) (v : Value), i ≠ j → (W.setCell ⟨b, p + i, none⟩ v).cell? ⟨b, p + j, none⟩ = W.cell? ⟨b, p + j, none⟩ := fun W i j v h => World.cell?_setCell_other _ _ _ _ (ne i j h)
  constructor
  · intro j x hj
    match j, hj with
    | 0, hj => cases hj; rw [oth _ 4 0 _ (by omega), oth _ 3 0 _ (by omega), oth _ 2 0 _ (by omega), oth _ 1 0 _ (by omega)]; exact World.cell?_setCell_same _ _ _ h0
    | 1, hj => cases hj; rw [oth _ 4 1 _ (by omega), oth _ 3 1 _ (by omega), oth _ 2 1 _ (by omega)]; exact World.cell?_setCell_same _ _ _ ((oth _ 0 1 _ (by omega)).trans h1)
    | 2, hj => cases hj; rw [oth _ 4 2 _ (by omega), oth _ 3 2 _ (by omega)]; exact World.cell?_setCell_same _ _ _ (by rw [oth _ 1 2 _ (by omega), oth _ 0 2 _ (by omega)]; exact h2)
    | 3, hj => cases hj; rw [oth _ 4 3 _ (by omega)]; exact World.cell?_setCell_same _ _ _ (by rw [oth _ 2 3 _ (by omega), oth _ 1 3 _ (by omega), oth _ 0 3 _ (by omega)]; exact h3)
    | 4, hj => cases hj; exact World.cell?_setCell_same _ _ _ (by rw [oth _ 3 4 _ (by omega), oth _ 2 4 _ (by omega), oth _ 1 4 _ (by omega), oth _ 0 4 _ (by omega)]; exact h4)
    | j + 5, hj => simp at hj
  · intro q hq
    have o2 : ∀ (W : World) (i : Nat) (v : Value), i < 5 → (W.setCell ⟨b, p + i, none⟩ v).cell? q = W.cell? q := fun W i v hi => World.cell?_setCell_other _ _ _ _ (by
      rintro rfl
      rcases hq with h | h | h
      · exact h rfl
      · simp at h; omega
      · simp at h; omega)
    rw [o2 _ 4 _ (by omega), o2 _ 3 _ (by omega), o2 _ 2 _ (by omega), o2 _ 1 _ (by omega), o2 _ 0 _ (by omega)]
theorem ConsM.set5 {M : Nat → Prop} {w : World} {b n cap : Nat} {cs : List Con} (h : ConsM M w (.slice (some ⟨b, 0, none⟩) n cap) cs) {k : Nat} (hk : k < cs.length) {c : Con} {vv av rv : Value}
    (nv : NumsM (but M b) w vv c.vars) (na : NumsM (but M b) w av c.args) (nr : RowsM (but M b) w rv c.rows) :
    ConsM M (((((w.setCell ⟨b, k * 5, none⟩ (.int .i64 c.kind)).setCell ⟨b, k * 5 + 1, none⟩ vv).setCell ⟨b, k * 5 + 2, none⟩ av).setCell ⟨b, k * 5 + 3, none⟩ (.int .i64 c.bound)).setCell ⟨b, k * 5 + 4, none⟩ rv) (.slice (some ⟨b, 0, none⟩) n cap) (cs.set k c) := by
  obtain ⟨ao, cap', e, hl, h⟩ := h
  cases e
  obtain ⟨c0, hc0⟩ := get_some hk
  obtain ⟨b', o', vv0, av0, rv0, e1, hm0, ⟨k0, k1, k2, k3, k4⟩, hf0, _⟩ := h k c0 hc0
  cases e1
  simp only [Nat.zero_add] at k0 k1 k2 k3 k4
  obtain ⟨s1, s2⟩ := set5_cell w b (k * 5) (.int .i64 c.kind) vv av (.int .i64 c.bound) rv (fun j hj => by
    match j, hj with
    | 0, _ => exact ⟨_, k0⟩
    | 1, _ => exact ⟨_, k1⟩
    | 2, _ => exact ⟨_, k2⟩
    | 3, _ => exact ⟨_, k3⟩
    | 4, _ => exact ⟨_, k4⟩
    | j + 5, hj => omega)
  obtain ⟨W, hW⟩ : ∃ W, W = ((((w.setCell ⟨b, k * 5, none⟩ (.int .i64 c.kind)).setCell ⟨b, k * 5 + 1, none⟩ vv).setCell ⟨b, k * 5 + 2, none⟩ av).setCell ⟨b, k * 5 + 3, none⟩ (.int .i64 c.bound)).setCell ⟨b, k * 5 + 4, none⟩ rv := ⟨_, rfl⟩
  have hfr : ∀ a, W.frozen? a = w.frozen? a := fun a => by rw [hW]; simp
  rw [← hW] at s1 s2 ⊢
  have hoth : ∀ a x, but M b a.block → w.cell? a = some x → W.cell? a = some x ∧ W.frozen? a = w.frozen? a ∧ but M b a.block := fun a x ha hx => ⟨(s2 a (.inl ha.2)).trans hx, hfr a, ha⟩
  refine ⟨some ⟨b, 0, none⟩, cap, by simp, by simpa using hl, fun i c' hi => ?_⟩
  by_cases hik : k = i
  · subst hik
    rw [List.getElem?_set_self hk] at hi
    cases hi
    refine ⟨b, 0, vv, av, rv, rfl, hm0, ⟨?_, ?_, ?_, ?_, ?_⟩, fun j => (hfr _).trans (hf0 j), nv.move hoth, na.move hoth, nr.move hoth⟩
    · simpa using s1 0 _ rfl
    · simpa using s1 1 _ rfl
    · simpa using s1 2 _ rfl
    · simpa using s1 3 _ rfl
    · simpa using s1 4 _ rfl
  · rw [List.getElem?_set_ne hik] at hi
    obtain ⟨b', o', vv', av', rv', e1, hm, ⟨j0, j1, j2, j3, j4⟩, hf, n1, n2, n3⟩ := h i c' hi
    cases e1
    refine ⟨b, 0, vv', av', rv', rfl, hm, ⟨(s2 _ ?_).trans j0, (s2 _ ?_).trans j1, (s2 _ ?_).trans j2, (s2 _ ?_).trans j3, (s2 _ ?_).trans j4⟩, fun j => (hfr _).trans (hf j), n1.move hoth, n2.move hoth, n3.move hoth⟩ <;> (right; dsimp only; omega)

/-! ### New rows -/
theorem rowsM_made {w : World} {B g n : Nat} {e : TypeId} (h : w.ownsRow B e 1 (.slice (some ⟨g, 0, none⟩) n n) n (madeCells #[.slice none 0 0] (n * 1)).toList) (hn : n ≤ 1000000000) : RowsM (New B w) w (.slice (some ⟨g, 0, none⟩) n n) (List.replicate n []) := by
  rcases h.2 with ⟨e1, _⟩ | ⟨g', cap, cur, e1, hB, hg, h6, h7, h8, h9⟩
  · cases e1
  · cases e1
    refine ⟨_, _, by rw [List.length_replicate], by rw [List.length_replicate]; exact ⟨Nat.le_refl _, by omega, by simp⟩, fun i r hi => ?_⟩
    have hil : i < n := by have := (List.getElem?_eq_some_iff.1 hi).1; simpa using this
    rw [List.getElem?_replicate, if_pos hil] at hi
    cases hi
    refine ⟨g, 0, .slice none 0 0, rfl, ⟨hB, lt_of_block hg⟩, ?_, by simp [World.frozen?, hg], NumsM.nil _ _⟩
    have h3 := congrArg (fun l => l[i]?) h9
    simp only [Nat.mul_one, toList_madeCells_one, List.getElem?_take, hil, if_true, List.getElem?_replicate] at h3
    simp only [World.cell?, hg]; simpa using h3
theorem consM_made {w : World} {B g n : Nat} {e : TypeId} (h : w.ownsRow B e 5 (.slice (some ⟨g, 0, none⟩) n n) n (madeCells #[.int .i64 0, .slice none 0 0, .slice none 0 0, .int .i64 0, .slice none 0 0] (n * 5)).toList) (hn : n ≤ 1000000000) :
    ConsM (New B w) w (.slice (some ⟨g, 0, none⟩) n n) (List.replicate n ⟨0, [], [], 0, []⟩) := by
  rcases h.2 with ⟨e1, _⟩ | ⟨g', cap, cur, e1, hB, hg, h6, h7, h8, h9⟩
  · cases e1
  · cases e1
    refine ⟨_, _, by rw [List.length_replicate], by rw [List.length_replicate]; exact ⟨Nat.le_refl _, by omega, by simp⟩, fun i r hi => ?_⟩
    have hil : i < n := by have := (List.getElem?_eq_some_iff.1 hi).1; simpa using this
    rw [List.getElem?_replicate, if_pos hil] at hi
    cases hi
    have hcell : ∀ j, j < 5 → w.cell? ⟨g, 0 + i * 5 + j, none⟩ = [Value.int .i64 0, .slice none 0 0, .slice none 0 0, .int .i64 0, .slice none 0 0][j]? := by
      intro j hj
      have h3 := congrArg (fun l => l[i * 5 + j]?) h9
      simp only [List.getElem?_take, show i * 5 + j < n * 5 by omega, if_true, madeCells, Array.toList_map, List.getElem?_map, Array.toList_range, List.getElem?_range] at h3
      simp only [World.cell?, hg, Nat.zero_add]
      have hm : (i * 5 + j) % 5 = j := by omega
      have e2 : cur[i * 5 + j]? = (cur.toList)[i * 5 + j]? := by simp
      simp only [Option.isSome_none, Bool.false_eq_true, if_false]
      rw [e2, h3]
      match j, hj with
      | 0, _ => simp
      | 1, _ => simp [hm]
      | 2, _ => simp [hm]
      | 3, _ => simp [hm]
      | 4, _ => simp [hm]
      | j + 5, hj => omega
    exact ⟨g, 0, .slice none 0 0, .slice none 0 0, .slice none 0 0, rfl, ⟨hB, lt_of_block hg⟩, ⟨hcell 0 (by omega), hcell 1 (by omega), hcell 2 (by omega), hcell 3 (by omega), hcell 4 (by omega)⟩, fun j => by simp [World.frozen?, hg], NumsM.nil _ _, NumsM.nil _ _, RowsM.nil _ _⟩
end Go.Proofs.YtihkeihnpiddoaaGreat

set_option linter.unusedVariables false
namespace Go.Proofs.YtihkeihnpiddoaaGreat
open Go.RowKit

/-- WHAT THE WALK IS TOLD OF A SLICE OF INTEGERS THAT CAME IN: it is nil; or it leads to a row of 'cap' cells, the numbers 'zs' (the first 'len' are its elements, the rest its spare room), each fitting its kind. -/
def IsRow (k : IntKind) (w : World) (a : Option Addr) (len cap : Nat) (zs : List Int) : Prop :=
  (a = none ∧ len = 0 ∧ cap = 0 ∧ zs = []) ∨
  ∃ x, a = some x ∧ len ≤ cap ∧ cap ≤ maxLen ∧ zs.length = cap ∧ (∀ i, i < zs.length → w.cell? (x.add i) = some (.int k (zs.getD i 0))) ∧ ∀ n ∈ zs, (Lit.int k n).wf = true

theorem addr_add (b o i : Nat) : (⟨b, o, none⟩ : Addr).add i = ⟨b, o + i, none⟩ := by unfold Addr.add; split <;> simp_all
theorem spot_none {w : World} {a : Addr} {v : Value} (h : w.cell? a = some v) : a.spot = none := by
  unfold World.cell? at h
  split at h
  · split at h
    · cases h
    · rename_i hs; simpa using hs
  · cases h
theorem row_open {k : IntKind} {w : World} {ao : Option Addr} {len cap : Nat} {zs : List Int} (h : IsRow k w ao len cap zs) :
    ∃ xs : List Int, len = xs.length ∧ (xs.length ≤ cap ∧ cap ≤ 9223372036854775807 ∧ (ao = none → cap = 0)) ∧ Cells [] w k ao xs ∧ ∀ x ∈ xs, (Lit.int k x).wf = true := by
  rcases h with ⟨rfl, rfl, rfl, rfl⟩ | ⟨x, rfl, hlc, hcm, hzl, hcell, hwz⟩
  · exact ⟨[], rfl, by simp, fun i x hi => by simp at hi, by simp⟩
  · refine ⟨zs.take len, by rw [List.length_take]; omega, ⟨by rw [List.length_take]; omega, by simpa [maxLen] using hcm, by simp⟩, fun i y hi => ?_, fun y hy => hwz y (List.mem_of_mem_take hy)⟩
    rw [List.getElem?_take] at hi
    split at hi
    · have hi' := (List.getElem?_eq_some_iff.1 hi).1
      have h0 := hcell 0 (by omega)
      have hx : x = ⟨x.block, x.off, none⟩ := by
        have := spot_none h0
        simp [Addr.add] at this
        cases x; simp_all
      have h1 := hcell i hi'
      rw [hx, addr_add] at h1
      refine ⟨x.block, x.off, by rw [← hx], by simp, ?_⟩
      rw [h1]; simp [hi]
    · cases hi
end Go.Proofs.YtihkeihnpiddoaaGreat

set_option linter.unusedVariables false
namespace Go.Proofs.YtihkeihnpiddoaaGreat
open Go.RowKit Go.ChangeShapes Go.WideShapes

theorem list5 {α : Type} {l : List α} (h : l.length = 5) : ∃ a b c d e, l = [a, b, c, d, e] := by
  match l, h with
  | [a, b, c, d, e], _ => exact ⟨a, b, c, d, e, rfl⟩
instance : Inhabited Con := ⟨⟨0, [], [], 0, []⟩⟩
theorem addr_plain {a : Addr} (h : a.spot = none) : a = ⟨a.block, a.off, none⟩ := by cases a; simp_all
section
variable {H : Type} {enc : TypeId × Value → H} {W : World} {held : Bool}

theorem open_nums {fuel : Nat} {u : Value} {x : DataW H × List MemPlace} (h : DataW.trod enc Tryz.prog W 0 (fun _ => true) held fuel 23 [u] = some x) : ∃ xs, Nums [] W .i64 u xs := by
  rcases open_ints Tryz.underlying23 Tryz.underlying3 (by kernel_rfl) h with ⟨hcs, _⟩ | ⟨a, l, c, zs, hcs, _, hl, hm, hz, _, hcell, hwz⟩
  · cases hcs
    exact ⟨[], none, 0, rfl, by simp, fun i x hi => by simp at hi⟩
  · cases hcs
    obtain ⟨xs, rfl, hb, hc, _⟩ := row_open (k := .i64) (w := W) (ao := some a) (len := l) (cap := c) (zs := zs) (.inr ⟨_, rfl, hl, hm, by simpa using hz, hcell, hwz⟩)
    exact ⟨xs, some a, c, rfl, hb, hc⟩

theorem open_rows {fuel : Nat} {u : Value} {x : DataW H × List MemPlace} (h : DataW.trod enc Tryz.prog W 0 (fun _ => true) held fuel 27 [u] = some x) : ∃ rows, RowsV [] W u rows := by
  rcases Go.Deep.open_slice1 Tryz.underlying27 (by kernel_rfl) h with ⟨hcs, _⟩ | ⟨a, len, cap, m, n, V, D, Pl, hcs, _, hl, hm, hmm, _, hx⟩
  · cases hcs
    exact ⟨[], none, 0, rfl, by simp, fun i x hi => by simp at hi⟩
  · cases hcs
    simp only [if_true] at hmm
    have hmm' := hmm.symm
    subst hmm'
    obtain ⟨f, hf⟩ := Go.Deep.choose_lt (n := len) (p := fun i r => Nums [] W .i64 (V i) r) (fun i hi => open_nums (hx i (by omega)).2)
    refine ⟨(List.range len).map f, some a, cap, by simp, ⟨by simpa using hl, by simpa [maxLen] using hm, by simp⟩, fun i r hi => ?_⟩
    have hil : i < len := by have := (List.getElem?_eq_some_iff.1 hi).1; simpa using this
    have hr : r = f i := by
      rw [List.getElem?_map, List.getElem?_range hil] at hi
      simpa using hi.symm
    subst hr
    have h1 := (hx i (by omega)).1
    have h0 := spot_none (hx 0 (by omega)).1
    simp [Addr.add] at h0
    rw [addr_plain h0, addr_add] at h1
    exact ⟨a.block, a.off, V i, by rw [← addr_plain h0], by simp, h1, hf i hil⟩

theorem cells5 : Tryz.prog.cellsOf 166 = 5 := by kernel_rfl

set_option maxRecDepth 100000
def ConL (W : World) (cs : List Value) (c : Con) : Prop := ∃ vv av rv, cs = [.int .i64 c.kind, vv, av, .int .i64 c.bound, rv] ∧ Nums [] W .i64 vv c.vars ∧ Nums [] W .i64 av c.args ∧ RowsV [] W rv c.rows
theorem open_con {fuel : Nat} {cs : List Value} {x : DataW H × List MemPlace} (h : DataW.trod enc Tryz.prog W 0 (fun _ => true) held fuel 166 cs = some x) : ∃ c, ConL W cs c := by
  obtain ⟨xs, n, _, _, hl, hlen, hf⟩ := DataW.trod_struct Tryz.underlying166 h
  rw [cells5] at hl
  obtain ⟨c0, c1, c2, c3, c4, rfl⟩ := list5 hl
  obtain ⟨x0, x1, x2, x3, x4, rfl⟩ := list5 (hlen.trans rfl)
  have f0 := hf 0 _ rfl
  have f1 := hf 1 _ rfl
  have f2 := hf 2 _ rfl
  have f3 := hf 3 _ rfl
  have f4 := hf 4 _ rfl
  simp only [List.getElem?_cons_zero, List.getElem?_cons_succ] at f0 f1 f2 f3 f4
  obtain ⟨k, hk, _, _⟩ := DataW.trod_int Tryz.underlying3 f0
  obtain ⟨b, hb, _, _⟩ := DataW.trod_int Tryz.underlying3 f3
  cases hk; cases hb
  obtain ⟨vs, hv⟩ := open_nums f1
  obtain ⟨ars, ha⟩ := open_nums f2
  obtain ⟨rs, hr⟩ := open_rows f4
  exact ⟨⟨k, vs, ars, b, rs⟩, c1, c2, c4, rfl, hv, ha, hr⟩

theorem open_conss {fuel : Nat} {u : Value} {x : DataW H × List MemPlace} (h : DataW.trod enc Tryz.prog W 0 (fun _ => true) held fuel 57 [u] = some x) : ∃ cs, ConsV [] W u cs := by
  rcases Go.Deep.open_slice Tryz.underlying57 h with ⟨hcs, _⟩ | ⟨a, len, cap, m, n, D, Pl, hcs, _, hl, hm, hmm, _, hx⟩
  · cases hcs
    exact ⟨[], none, 0, rfl, by simp, fun i x hi => by simp at hi⟩
  · cases hcs
    simp only [if_true] at hmm
    have hmm' := hmm.symm
    subst hmm'
    obtain ⟨f, hf⟩ := Go.Deep.choose_lt (n := len) (p := fun i (y : List Value × Con) => W.cells? 0 (a.add (i * 5)) 5 = some y.1 ∧ ConL W y.1 y.2) (fun i hi => by
      obtain ⟨cs', h1, h2⟩ := hx i (by omega)
      rw [cells5] at h1
      obtain ⟨c, hc⟩ := open_con h2
      exact ⟨(cs', c), h1, hc⟩)
    refine ⟨(List.range len).map fun i => (f i).2, some a, cap, by simp, ⟨by simpa using hl, by simpa [maxLen] using hm, by simp⟩, fun i r hi => ?_⟩
    have hil : i < len := by have := (List.getElem?_eq_some_iff.1 hi).1; simpa using this
    have hr : r = (f i).2 := by
      rw [List.getElem?_map, List.getElem?_range hil] at hi
      simpa using hi.symm
    subst hr
    obtain ⟨hc, vv, av, rv, e, n1, n2, n3⟩ := hf i hil
    obtain ⟨_, _, hcell⟩ := World.cells?_some hc
    rw [e] at hcell
    have hs : a.spot = none := by
      obtain ⟨hc', vv', av', rv', e', _⟩ := hf 0 (by omega)
      obtain ⟨_, _, hcell'⟩ := World.cells?_some hc'
      rw [e'] at hcell'
      have := spot_none ((hcell' 0 (by omega)).trans rfl)
      simpa [Addr.add] using this
    have ha := addr_plain hs
    rw [ha] at hcell
    have each : ∀ j, j < 5 → W.cell? ⟨a.block, a.off + i * 5 + j, none⟩ = [Value.int .i64 (f i).2.kind, vv, av, .int .i64 (f i).2.bound, rv][j]? := fun j hj => by
      have := hcell j hj
      rwa [addr_add, addr_add] at this
    exact ⟨a.block, a.off, vv, av, rv, by rw [← ha], by simp, ⟨by simpa using each 0 (by omega), each 1 (by omega), each 2 (by omega), each 3 (by omega), each 4 (by omega)⟩, n1, n2, n3⟩

end
end Go.Proofs.YtihkeihnpiddoaaGreat
