/-
  Filtering and propagation, in plain mathematics.
  More on filtering and propagation, in plain mathematics.
  Solutions, in plain mathematics: all lists of values of the domains that satisfy the constraints, the least ones first.
  More small lemmas on readings. No program is mentioned.
  Readings of constraints with their slices laid open. No program is mentioned.
  Lists of the call's own whose elements lead to further memory: rows of numbers, constraints. No program is mentioned.
  Appends inside a region that draws its order. No program is mentioned.
  An element of an owned list replaced. No program is mentioned.
-/
import Derived.Test.YtmonhpoogfdpoaaGreatDoorPLib
import Derived.Test.YtmonhpoogfdpoaaGreatDoorPHJ
import Derived.StillTailTactics
import Derived.Deep.OwnRows
import Derived.Deep.AppendLies
import Derived.Deep.RegionLaw
set_option linter.unusedVariables false
namespace Go.Proofs.YtmonhpoogfdpoaaGreatDoor

/-- The numbers of a list, as integers. -/
def ints (D : List Nat) : List Int := D.map fun n : Nat => (n : Int)
theorem ints_get (D : List Nat) (i : Nat) : (ints D)[i]? = (D[i]?).map fun n : Nat => (n : Int) := by simp [ints]
/-- What a valid constraint is, for n variables. -/
structure VC (c : Con) (n : Nat) : Prop where
  n4 : 1 ≤ n ∧ n ≤ 4
  k : 1 ≤ c.vars.length ∧ c.vars.length ≤ n
  rng : ∀ v ∈ c.vars, 0 ≤ v ∧ v < n
  nd : c.vars.Nodup
  fits : fitsB c = true
theorem validCon_iff {c : Con} {n : Nat} : validCon c n = true ↔ VC c n := by
  unfold validCon validConS distinctB
  simp only [Bool.and_eq_true, inB_iff, allB_iff, decide_eq_true_eq]
  constructor
  · rintro ⟨h1, ⟨⟨h2, h3⟩, h4⟩, h5⟩
    exact ⟨by omega, by omega, fun v hv => by have := h3 v hv; omega, h4, h5⟩
  · rintro ⟨h1, h2, h3, h4, h5⟩
    exact ⟨by omega, ⟨⟨by omega, fun v hv => by have := h3 v hv; omega⟩, h4⟩, h5⟩

/-! ### Propagation -/
end Go.Proofs.YtmonhpoogfdpoaaGreatDoor

namespace Go.Proofs.YtmonhpoogfdpoaaGreatDoor
end Go.Proofs.YtmonhpoogfdpoaaGreatDoor

namespace Go.Proofs.YtmonhpoogfdpoaaGreatDoor

/-- The order of lists. -/
def lexB : List Int → List Int → Bool
  | a :: r, b :: s => if a = b then lexB r s else decide (a < b)
  | _, _ => false
end Go.Proofs.YtmonhpoogfdpoaaGreatDoor

namespace Go.Proofs.YtmonhpoogfdpoaaGreatDoor
open Go.RowKit

theorem CCells.at {S : List Nat} {w : World} {ao : Option Addr} {cs : List Con} (h : CCells S w ao cs) {k : Nat} {c : Con} (hi : cs[k]? = some c) :
    ∃ b o vv av rv, ao = some ⟨b, o, none⟩ ∧ b ∉ S ∧ (w.cell? ⟨b, o + k * 5, none⟩ = some (.int .i64 c.kind) ∧ w.cell? ⟨b, o + k * 5 + 1, none⟩ = some vv ∧ w.cell? ⟨b, o + k * 5 + 2, none⟩ = some av ∧
     w.cell? ⟨b, o + k * 5 + 3, none⟩ = some (.int .i64 c.bound) ∧ w.cell? ⟨b, o + k * 5 + 4, none⟩ = some rv) ∧ ConV S w (.agg #[.int .i64 c.kind, vv, av, .int .i64 c.bound, rv]) c := by
  obtain ⟨b, o, vv, av, rv, e, hs, hc, h1, h2, h3⟩ := h k c hi
  exact ⟨b, o, vv, av, rv, e, hs, hc, vv, av, rv, rfl, h1, h2, h3⟩
theorem Nums.cells {S : List Nat} {w : World} {k : IntKind} {ao : Option Addr} {n cap : Nat} {xs : List Int} (h : Nums S w k (.slice ao n cap) xs) : Cells S w k ao xs := by
  obtain ⟨ao', cap', e, _, hc⟩ := h
  cases e; exact hc
theorem Nums.at {S : List Nat} {w : World} {k : IntKind} {ao : Option Addr} {n cap : Nat} {xs : List Int} (h : Nums S w k (.slice ao n cap) xs) {i : Nat} {x : Int} (hi : xs[i]? = some x) :
    ∃ b o, ao = some ⟨b, o, none⟩ ∧ b ∉ S ∧ w.cell? ⟨b, o + i, none⟩ = some (.int k x) := h.cells i x hi
theorem Nums.len {S : List Nat} {w : World} {k : IntKind} {ao : Option Addr} {n cap : Nat} {xs : List Int} (h : Nums S w k (.slice ao n cap) xs) : n = xs.length ∧ n ≤ cap ∧ cap ≤ 9223372036854775807 ∧ (ao = none → cap = 0) := by
  obtain ⟨ao', cap', e, h1, _⟩ := h
  cases e; exact ⟨rfl, h1⟩
/-- What an owned list of one cell or more is, when its slice is known. -/
theorem Own.at {B : Nat} {w : World} {e : TypeId} {g n cap : Nat} {xs : List Int} (h : Own B w e (.slice (some ⟨g, 0, none⟩) n cap) xs) {i : Nat} {x : Int} (hi : xs[i]? = some x) :
    w.cell? ⟨g, i, none⟩ = some (.int .i64 x) ∧ w.frozen? ⟨g, i, none⟩ = false := by
  obtain ⟨g', c', e1, _, h1, h2⟩ := h.open (Nat.lt_of_le_of_lt (Nat.zero_le i) (List.getElem?_eq_some_iff.1 hi).1)
  simp only [Value.slice.injEq, Option.some.injEq, Addr.mk.injEq] at e1
  obtain ⟨⟨rfl, _⟩, _⟩ := e1
  exact ⟨h1 i x hi, h2 i⟩
theorem OwnC.at {B : Nat} {w : World} {e : TypeId} {g n cap : Nat} {xs : List Int} (h : OwnC B w e (.slice (some ⟨g, 0, none⟩) n cap) xs) {i : Nat} {x : Int} (hi : xs[i]? = some x) :
    w.cell? ⟨g, i, none⟩ = some (.int .i64 x) ∧ w.frozen? ⟨g, i, none⟩ = false := by
  have hil := (List.getElem?_eq_some_iff.1 hi).1
  rcases h with ⟨h1, _⟩ | ⟨g', cap', cur, e1, h2, h3, h4, h5, h6, h7⟩
  · cases h1
  · cases e1
    have e2 := congrArg (fun t => t[i]?) h7
    simp only [List.getElem?_take, hil, if_true, List.getElem?_map, hi] at e2
    have e3 : cur[i]? = some (.int .i64 x) := by simpa using e2
    exact ⟨by simp [World.cell?, h3, e3], by simp [World.frozen?, h3]⟩
theorem OwnC.block {B : Nat} {w : World} {e : TypeId} {g n cap : Nat} {xs : List Int} (h : OwnC B w e (.slice (some ⟨g, 0, none⟩) n cap) xs) : B ≤ g ∧ g < w.heap.size := by
  rcases h with ⟨h1, _⟩ | ⟨g', cap', cur, e1, h2, h3, _⟩
  · cases h1
  · cases e1; exact ⟨h2, lt_of_block h3⟩
theorem OwnC.open {B : Nat} {w : World} {e : TypeId} {v : Value} {xs : List Int} (h : OwnC B w e v xs) (h0 : 0 < xs.length) : ∃ g cap, v = .slice (some ⟨g, 0, none⟩) xs.length cap := by
  rcases h with ⟨_, rfl⟩ | ⟨g', cap', cur, e1, _⟩
  · simp at h0
  · exact ⟨_, _, e1⟩
/-- Blocks that the invariant does not speak of may change. -/
theorem Own.keep {B : Nat} {T : List Nat} {w w' : World} {e : TypeId} {g n cap : Nat} {xs : List Int} (h : Own B w e (.slice (some ⟨g, 0, none⟩) n cap) xs) (hg : Gr T w w') (hT : g ∉ T) : Own B w' e (.slice (some ⟨g, 0, none⟩) n cap) xs := by
  refine ⟨h.1, ?_⟩
  rcases h.2 with ⟨h1, _⟩ | ⟨g', cap', cur, e1, hb, hgg, rest⟩
  · cases h1
  · cases e1
    exact .inr ⟨g, cap, cur, rfl, hb, hg.obj hgg hT, rest⟩
end Go.Proofs.YtmonhpoogfdpoaaGreatDoor

namespace Go.Proofs.YtmonhpoogfdpoaaGreatDoor
open Go.RowKit

theorem ConV.slices {S : List Nat} {w : World} {v : Value} {c : Con} (h : ConV S w v c) :
    ∃ vo vc ao ac ro rc, v = .agg #[.int .i64 c.kind, .slice vo c.vars.length vc, .slice ao c.args.length ac, .int .i64 c.bound, .slice ro c.rows.length rc] := by
  obtain ⟨vv, av, rv, rfl, ⟨vo, vc, rfl, _⟩, ⟨ao, ac, rfl, _⟩, ⟨ro, rc, rfl, _⟩⟩ := h
  exact ⟨_, _, _, _, _, _, rfl⟩
theorem CCells.at2 {S : List Nat} {w : World} {ao : Option Addr} {cs : List Con} (h : CCells S w ao cs) {k : Nat} {c : Con} (hi : cs[k]? = some c) :
    ∃ b o vo vc xo xc ro rc, ao = some ⟨b, o, none⟩ ∧ b ∉ S ∧ (w.cell? ⟨b, o + k * 5, none⟩ = some (.int .i64 c.kind) ∧ w.cell? ⟨b, o + k * 5 + 1, none⟩ = some (.slice vo c.vars.length vc) ∧ w.cell? ⟨b, o + k * 5 + 2, none⟩ = some (.slice xo c.args.length xc) ∧
     w.cell? ⟨b, o + k * 5 + 3, none⟩ = some (.int .i64 c.bound) ∧ w.cell? ⟨b, o + k * 5 + 4, none⟩ = some (.slice ro c.rows.length rc)) ∧ ConV S w (.agg #[.int .i64 c.kind, .slice vo c.vars.length vc, .slice xo c.args.length xc, .int .i64 c.bound, .slice ro c.rows.length rc]) c := by
  obtain ⟨b, o, vv, av, rv, e, hs, hc, hcon⟩ := h.at hi
  obtain ⟨vo, vc, xo, xc, ro, rc, e2⟩ := hcon.slices
  simp only [Value.agg.injEq] at e2
  have e3 := congrArg (fun a => a[1]?) e2
  have e4 := congrArg (fun a => a[2]?) e2
  have e5 := congrArg (fun a => a[4]?) e2
  simp only [List.getElem?_toArray, List.getElem?_cons_succ, List.getElem?_cons_zero, Option.some.injEq] at e3 e4 e5
  subst e3 e4 e5
  exact ⟨b, o, vo, vc, xo, xc, ro, rc, e, hs, hc, hcon⟩
end Go.Proofs.YtmonhpoogfdpoaaGreatDoor

namespace Go.Proofs.YtmonhpoogfdpoaaGreatDoor
open Go.RowKit

/-- An element's reading: it abides growth that spares its blocks. -/
structure ElOk {α : Type} (el : List Nat → World → List Value → α → Prop) : Prop where
  gr : ∀ {S w w' cs x}, el S w cs x → Gr S w w' → el S w' cs x
  sub : ∀ {S S' w cs x}, el S w cs x → (∀ b, b < w.heap.size → b ∈ S' → b ∈ S) → el S' w cs x

/-- A list in a block of its own, from block B on; its elements lie in blocks from B on, none of them the list's. -/
def OwnG {α : Type} (size : Nat) (el : List Nat → World → List Value → α → Prop) (B : Nat) (w : World) (e : TypeId) (v : Value) (xs : List α) : Prop :=
  ∃ css : List (List Value), css.length = xs.length ∧ (∀ cs ∈ css, cs.length = size ∧ ∀ u ∈ cs, u.oneCell' = true) ∧ w.ownsRow B e size v xs.length css.flatten ∧
    ∀ (i : Nat) cs x, css[i]? = some cs → xs[i]? = some x → ∀ S : List Nat, (∀ b ∈ S, b < B ∨ w.heap.size ≤ b ∨ v.ownBlock = some b) → el S w cs x

theorem ownsRow_ownBlock {w : World} {B e size n : Nat} {v : Value} {xs : List Value} (h : w.ownsRow B e size v n xs) {b : Nat} (hb : v.ownBlock = some b) : B ≤ b ∧ b < w.heap.size := by
  rcases h.2 with ⟨rfl, _⟩ | ⟨g, cap, cur, rfl, h1, h2, _⟩
  · cases hb
  · simp [Value.ownBlock] at hb; subst hb; exact ⟨h1, lt_of_block h2⟩

theorem OwnG.nil {α : Type} {size : Nat} {el : List Nat → World → List Value → α → Prop} (B : Nat) (w : World) (e : TypeId) : OwnG size el B w e (.slice none 0 0) [] :=
  ⟨[], rfl, by simp, World.ownsRow_nil _ _ _ _, by intro i cs x h; simp at h⟩
theorem OwnG.gr {α : Type} {size : Nat} {el : List Nat → World → List Value → α → Prop} (ok : ElOk el) {S : List Nat} {B : Nat} {w w' : World} {e : TypeId} {v : Value} {xs : List α} (h : OwnG size el B w e v xs) (hg : Gr S w w') (hS : ∀ b ∈ S, b < B) : OwnG size el B w' e v xs := by
  obtain ⟨css, h1, h2, h3, h4⟩ := h
  refine ⟨css, h1, h2, hg.ownsRow h3 hS, fun i cs x hi hx S0 hS0 => ?_⟩
  have := h4 i cs x hi hx (S ++ S0) (by
    intro b hb
    rcases List.mem_append.1 hb with hb | hb
    · exact .inl (hS b hb)
    · rcases hS0 b hb with h | h | h
      · exact .inl h
      · exact .inr (.inl (Nat.le_trans hg.size h))
      · exact .inr (.inr h))
  exact ok.sub (ok.gr this (hg.sub (fun k _ hk => by simp [hk]))) (fun b _ hb => by simp [hb])
theorem OwnG.slice {α : Type} {size : Nat} {el : List Nat → World → List Value → α → Prop} {B : Nat} {w : World} {e : TypeId} {v : Value} {xs : List α} (h : OwnG size el B w e v xs) : ∃ ao cap, v = .slice ao xs.length cap ∧ xs.length ≤ cap ∧ cap ≤ 9223372036854775807 ∧ (ao = none → cap = 0) := by
  obtain ⟨css, h1, h2, h3, h4⟩ := h
  rcases h3.2 with ⟨e1, h5⟩ | ⟨g, cap, cur, e1, _, _, h6, h7, _⟩
  · exact ⟨none, 0, by rw [e1, h5], by omega, by omega, fun _ => rfl⟩
  · exact ⟨_, _, e1, h6, by simp only [maxLen] at h7; omega, by simp⟩
theorem flatten_get {css : List (List Value)} {size : Nat} (h : ∀ cs ∈ css, cs.length = size) {i : Nat} {cs : List Value} (hi : css[i]? = some cs) {j : Nat} (hj : j < size) : css.flatten[i * size + j]? = cs[j]? := by
  induction css generalizing i with
  | nil => simp at hi
  | cons c r ih =>
    have hc := h c (by simp)
    cases i with
    | zero =>
      simp at hi; subst hi
      rw [List.flatten_cons, Nat.zero_mul, Nat.zero_add, List.getElem?_append_left (by omega)]
    | succ i =>
      rw [List.flatten_cons, List.getElem?_append_right (by rw [hc, Nat.succ_mul]; omega), hc]
      have e : (i + 1) * size + j - size = i * size + j := by rw [Nat.succ_mul]; omega
      rw [e]
      exact ih (fun x hx => h x (by simp [hx])) (by simpa using hi)
/-- An element's cells, where they lie. -/
theorem OwnG.cell {α : Type} {size : Nat} {el : List Nat → World → List Value → α → Prop} {B : Nat} {w : World} {e : TypeId} {v : Value} {xs : List α} (h : OwnG size el B w e v xs) {i : Nat} {x : α} (hi : xs[i]? = some x) :
    ∃ g cap cs, v = .slice (some ⟨g, 0, none⟩) xs.length cap ∧ B ≤ g ∧ g < w.heap.size ∧ cs.length = size ∧ (∀ j u, cs[j]? = some u → w.cell? ⟨g, 0 + (i * size + j), none⟩ = some u) ∧ (∀ j, w.frozen? ⟨g, j, none⟩ = false) ∧
      ∀ S : List Nat, (∀ b ∈ S, b < B ∨ w.heap.size ≤ b ∨ b = g) → el S w cs x := by
  obtain ⟨css, h1, h2, h3, h4⟩ := h
  have hil := (List.getElem?_eq_some_iff.1 hi).1
  obtain ⟨cs, hcs⟩ := get_some (xs := css) (k := i) (by omega)
  have hlen := (h2 cs (List.mem_of_getElem? hcs)).1
  rcases h3.2 with ⟨e1, h5⟩ | ⟨g, cap, cur, e1, hb, hg, h6, h7, h8, h9⟩
  · omega
  · refine ⟨g, cap, cs, e1, hb, lt_of_block hg, hlen, fun j u hj => ?_, fun j => by simp [World.frozen?, hg], fun S hS => h4 i cs x hcs hi S fun b hb => ?_⟩
    · have hjl := (List.getElem?_eq_some_iff.1 hj).1
      have e2 := flatten_get (fun c hc => (h2 c hc).1) hcs (j := j) (by omega)
      rw [← h9, hj, List.getElem?_take] at e2
      split at e2
      · rw [Nat.zero_add]; simp only [World.cell?, hg]; simpa using e2
      · cases e2
    · rcases hS b hb with h | h | h
      · exact .inl h
      · exact .inr (.inl h)
      · exact .inr (.inr (by rw [e1, h]; rfl))

theorem wp_appG {α : Type} {P : Program} {w : World} {ops : Array Oper} {rest : List Oper} {o : Oper} {a : Act} {Q : Exit → Act → World → Prop} (hgd : o.guard = none) (s x : Operand) (t : TypeId)
    (ho : o.op = .call { callee := .builtin .append, args := #[s, x], argTypes := #[t, t] }) (size : Nat) (el : List Nat → World → List Value → α → Prop) (ok : ElOk el) (B : Nat) (e : TypeId) (z : Value) (bytes : Nat)
    (hinfo : (P.info? e).map (fun i => (i.zero, i.size, i.bytes)) = some (some z, size, bytes)) (hzs : z.cells.size = size) (hsz : 0 < size) (hby : bytes ≤ 100)
    (ht : P.underlying t = some (.slice e)) (v : Value) (xs : List α) (hs : a.eval s = v) (hown : OwnG size el B w e v xs) (g c : Nat) (y : α) (cs : List Value) (hx : a.eval x = .slice (some ⟨g, 0, none⟩) 1 c)
    (hl : cs.length = size) (h1 : ∀ u ∈ cs, u.oneCell' = true) (hn : ∀ j u, cs[j]? = some u → w.cell? ⟨g, j, none⟩ = some u) (hel : ∀ S : List Nat, (∀ b ∈ S, b < B ∨ w.heap.size ≤ b ∨ v.ownBlock = some b) → el S w cs y)
    (hlen : xs.length ≤ 1000000) (hB : B ≤ w.heap.size)
    (h : ∀ v' w', OwnG size el B w' e v' (xs ++ [y]) → Gr v.ownBlock.toList w w' → wpList P ops Q rest (a.put o.dst v') w') : wpList P ops Q (o :: rest) a w := by
  obtain ⟨css, k1, k2, k3, k4⟩ := hown
  obtain ⟨i0, hi, hz0, hz1, hz2⟩ := info_parts hinfo
  have hbb : (xs.length + 1) * bytes ≤ (xs.length + 1) * 100 := Nat.mul_le_mul_left _ hby
  refine wpList_append_lies w hgd s x t ho B e i0 z size bytes ht hi hz0 hz1 hz2 hzs hsz v xs.length css.flatten hs k3 ⟨g, 0, none⟩ 1 c cs hx (by rw [hl]; simp) ?_ h1 (by omega) (by simp only [maxLen]; omega) (by omega) hB w.heap.size rfl ?_
  · intro j u hj
    have : (⟨g, 0, none⟩ : Addr).add j = ⟨g, j, none⟩ := by unfold Addr.add; split <;> simp_all
    rw [this]; exact hn j u hj
  · intro g' cap' w' hown' hgrow hwhere hlt
    have hgr : Gr v.ownBlock.toList w w' := ⟨hgrow.os, hgrow.tape, hgrow.output, hgrow.size, fun k hk hs => hgrow.block k hk (fun e => hs (by rw [← e]; simp))⟩
    refine h _ _ ⟨css ++ [cs], by simp [k1], ?_, ?_, ?_⟩ hgr
    · intro c hc
      rcases List.mem_append.1 hc with hc | hc
      · exact k2 c hc
      · simp at hc; subst hc; exact ⟨hl, h1⟩
    · rw [List.flatten_append]; simpa using hown'
    · have hcond : ∀ S : List Nat, (∀ b ∈ S, b < B ∨ w'.heap.size ≤ b ∨ (Value.slice (some ⟨g', 0, none⟩) (xs.length + 1) cap').ownBlock = some b) → ∀ b ∈ v.ownBlock.toList ++ S, b < B ∨ w.heap.size ≤ b ∨ v.ownBlock = some b := by
        intro S hS b hb
        rcases List.mem_append.1 hb with hb | hb
        · exact .inr (.inr (by simpa using hb))
        · rcases hS b hb with h | h | h
          · exact .inl h
          · exact .inr (.inl (Nat.le_trans hgr.size h))
          · simp [Value.ownBlock] at h
            subst h
            rcases hwhere with h | h
            · exact .inr (.inr h)
            · exact .inr (.inl (by omega))
      intro i c' x' hc hx' S hS
      have fin : ∀ c'' x'', el (v.ownBlock.toList ++ S) w c'' x'' → el S w' c'' x'' := fun c'' x'' h0 =>
        ok.sub (ok.gr h0 (hgr.sub (fun k _ hk => by simp at hk ⊢; exact .inl hk))) (fun b _ hb => by simp [hb])
      by_cases hlt : i < xs.length
      · rw [List.getElem?_append_left (by omega)] at hc
        rw [List.getElem?_append_left hlt] at hx'
        exact fin _ _ (k4 i c' x' hc hx' _ (hcond S hS))
      · have hi' : i = xs.length := by
          have := (List.getElem?_eq_some_iff.1 hx').1
          simp at this; omega
        subst hi'
        rw [List.getElem?_append_right (by omega), k1, Nat.sub_self] at hc
        rw [List.getElem?_append_right (by omega), Nat.sub_self] at hx'
        simp at hc hx'
        subst hc hx'
        exact fin _ _ (hel _ (hcond S hS))

/-! ### Rows of numbers -/
def elRow (S : List Nat) (w : World) (cs : List Value) (r : List Int) : Prop := ∃ u, cs = [u] ∧ Nums S w .i64 u r
theorem elRow_ok : ElOk elRow := ⟨fun ⟨u, e, h⟩ hg => ⟨u, e, h.gr hg⟩, fun ⟨u, e, h⟩ hs => ⟨u, e, h.sub hs⟩⟩
theorem OwnG.rows {B : Nat} {w : World} {e : TypeId} {v : Value} {rows : List (List Int)} (h : OwnG 1 elRow B w e v rows) {S : List Nat} (hS : ∀ b ∈ S, b < B ∨ w.heap.size ≤ b) : RowsV S w v rows := by
  obtain ⟨ao, cap, rfl, h1, h2, h3⟩ := h.slice
  refine ⟨ao, cap, rfl, ⟨h1, h2, h3⟩, fun i r hi => ?_⟩
  obtain ⟨g, cap', cs, e1, hb, hlt, hl, hc, hf, hel⟩ := h.cell hi
  cases e1
  obtain ⟨u, rfl, hn⟩ := hel S (fun b hb => (hS b hb).imp id .inl)
  refine ⟨g, 0, u, rfl, fun hm => by rcases hS g hm with h | h <;> omega, ?_, hn⟩
  have := hc 0 u rfl
  simpa using this

/-! ### Constraints -/
def elCon (S : List Nat) (w : World) (cs : List Value) (c : Con) : Prop :=
  ∃ vo vc xo xc ro rc, cs = [.int .i64 c.kind, .slice vo c.vars.length vc, .slice xo c.args.length xc, .int .i64 c.bound, .slice ro c.rows.length rc] ∧
    ConV S w (.agg #[.int .i64 c.kind, .slice vo c.vars.length vc, .slice xo c.args.length xc, .int .i64 c.bound, .slice ro c.rows.length rc]) c
theorem elCon_ok : ElOk elCon :=
  ⟨fun ⟨a1, a2, a3, a4, a5, a6, e, h⟩ hg => ⟨a1, a2, a3, a4, a5, a6, e, h.gr hg⟩, fun ⟨a1, a2, a3, a4, a5, a6, e, h⟩ hs => ⟨a1, a2, a3, a4, a5, a6, e, h.sub hs⟩⟩
theorem OwnG.cons {B : Nat} {w : World} {e : TypeId} {v : Value} {cs : List Con} (h : OwnG 5 elCon B w e v cs) {S : List Nat} (hS : ∀ b ∈ S, b < B ∨ w.heap.size ≤ b) : ConsV S w v cs := by
  obtain ⟨ao, cap, rfl, h1, h2, h3⟩ := h.slice
  refine ⟨ao, cap, rfl, ⟨h1, h2, h3⟩, fun i c hi => ?_⟩
  obtain ⟨g, cap', us, e1, hb, hlt, hl, hc, hf, hel⟩ := h.cell hi
  cases e1
  obtain ⟨vo, vc, xo, xc, ro, rc, rfl, hcon⟩ := hel S (fun b hb => (hS b hb).imp id .inl)
  obtain ⟨vv, av, rv, e2, n1, n2, n3⟩ := hcon
  simp only [Value.agg.injEq] at e2
  have e3 := congrArg (fun a => a[1]?) e2
  have e4 := congrArg (fun a => a[2]?) e2
  have e5 := congrArg (fun a => a[4]?) e2
  simp only [List.getElem?_toArray, List.getElem?_cons_succ, List.getElem?_cons_zero, Option.some.injEq] at e3 e4 e5
  subst e3 e4 e5
  refine ⟨g, 0, _, _, _, rfl, fun hm => by rcases hS g hm with h | h <;> omega, ⟨?_, ?_, ?_, ?_, ?_⟩, n1, n2, n3⟩
  · have := hc 0 _ rfl; simpa using this
  · have := hc 1 _ rfl; simpa [Nat.add_assoc] using this
  · have := hc 2 _ rfl; simpa [Nat.add_assoc] using this
  · have := hc 3 _ rfl; simpa [Nat.add_assoc] using this
  · have := hc 4 _ rfl; simpa [Nat.add_assoc] using this
end Go.Proofs.YtmonhpoogfdpoaaGreatDoor

namespace Go.Proofs.YtmonhpoogfdpoaaGreatDoor
open Go.RowKit

theorem step_app1 {P : Program} {w : World} {ops : Array Oper} {o : Oper} {a : Act} {K : Act → World → Prop} {Q : Exit → Act → World → Prop} {E : Prop} (hgd : o.guard = none) (s x : Operand) (t : TypeId)
    (ho : o.op = .call { callee := .builtin .append, args := #[s, x], argTypes := #[t, t] }) (B : Nat) (e : TypeId) (hinfo : (P.info? e).map (fun i => (i.zero, i.size, i.bytes)) = some (some (.int .i64 0), 1, 8))
    (ht : P.underlying t = some (.slice e)) (v : Value) (xs : List Int) (hs : a.eval s = v) (hown : Own B w e v xs) (g c : Nat) (n : Int) (hx : a.eval x = .slice (some ⟨g, 0, none⟩) 1 c) (hn : w.cell? ⟨g, 0, none⟩ = some (.int .i64 n))
    (hlen : xs.length ≤ 1000000000000) (hB : B ≤ w.heap.size)
    (h : ∀ g' c' w', Own B w' e (.slice (some ⟨g', 0, none⟩) (xs.length + 1) c') (xs ++ [n]) → Below B w w' → K (a.put o.dst (.slice (some ⟨g', 0, none⟩) (xs.length + 1) c')) w') : if Region.wanted o (yielded ops a.tmps) = true then Oper.wp P o a w K Q else E := by
  obtain ⟨i0, hi, hz0, hz1, hz2⟩ := info_parts hinfo
  refine step_append_lies w hgd s x t ho B e i0 (.int .i64 0) 1 8 ht hi hz0 hz1 hz2 rfl (by decide) v xs.length _ hs hown ⟨g, 0, none⟩ 1 c [.int .i64 n] hx rfl ?_ (by simp [Value.oneCell']) (by omega) (by simp only [maxLen]; omega) (by omega) hB w.heap.size rfl ?_
  · intro j u hj
    match j, hj with
    | 0, hj => simp at hj; subst hj; simpa [Addr.add] using hn
    | j + 1, hj => simp at hj
  · intro g' cap' w' hown' hgrow hwh hlt
    exact h g' cap' w' (by simpa [Own] using hown') ((Below.refl _ _).grown hgrow hB fun k hk => (World.ownsRow.lt hown k hk).1)

theorem step_appG {α : Type} {P : Program} {w : World} {ops : Array Oper} {o : Oper} {a : Act} {K : Act → World → Prop} {Q : Exit → Act → World → Prop} {E : Prop} (hgd : o.guard = none) (s x : Operand) (t : TypeId)
    (ho : o.op = .call { callee := .builtin .append, args := #[s, x], argTypes := #[t, t] }) (size : Nat) (el : List Nat → World → List Value → α → Prop) (ok : ElOk el) (B : Nat) (e : TypeId) (z : Value) (bytes : Nat)
    (hinfo : (P.info? e).map (fun i => (i.zero, i.size, i.bytes)) = some (some z, size, bytes)) (hzs : z.cells.size = size) (hsz : 0 < size) (hby : bytes ≤ 100)
    (ht : P.underlying t = some (.slice e)) (v : Value) (xs : List α) (hs : a.eval s = v) (hown : OwnG size el B w e v xs) (g c : Nat) (y : α) (cs : List Value) (hx : a.eval x = .slice (some ⟨g, 0, none⟩) 1 c)
    (hl : cs.length = size) (h1 : ∀ u ∈ cs, u.oneCell' = true) (hn : ∀ j u, cs[j]? = some u → w.cell? ⟨g, j, none⟩ = some u) (hel : ∀ S : List Nat, (∀ b ∈ S, b < B ∨ w.heap.size ≤ b ∨ v.ownBlock = some b) → el S w cs y)
    (hlen : xs.length ≤ 1000000) (hB : B ≤ w.heap.size)
    (h : ∀ g' c' w', OwnG size el B w' e (.slice (some ⟨g', 0, none⟩) (xs.length + 1) c') (xs ++ [y]) → Gr v.ownBlock.toList w w' → K (a.put o.dst (.slice (some ⟨g', 0, none⟩) (xs.length + 1) c')) w') : if Region.wanted o (yielded ops a.tmps) = true then Oper.wp P o a w K Q else E := by
  obtain ⟨css, k1, k2, k3, k4⟩ := hown
  obtain ⟨i0, hi, hz0, hz1, hz2⟩ := info_parts hinfo
  have hbb : (xs.length + 1) * bytes ≤ (xs.length + 1) * 100 := Nat.mul_le_mul_left _ hby
  refine step_append_lies w hgd s x t ho B e i0 z size bytes ht hi hz0 hz1 hz2 hzs hsz v xs.length css.flatten hs k3 ⟨g, 0, none⟩ 1 c cs hx (by rw [hl]; simp) ?_ h1 (by omega) (by simp only [maxLen]; omega) (by omega) hB w.heap.size rfl ?_
  · intro j u hj
    have : (⟨g, 0, none⟩ : Addr).add j = ⟨g, j, none⟩ := by unfold Addr.add; split <;> simp_all
    rw [this]; exact hn j u hj
  · intro g' cap' w' hown' hgrow hwhere hlt
    have hgr : Gr v.ownBlock.toList w w' := ⟨hgrow.os, hgrow.tape, hgrow.output, hgrow.size, fun k hk hs => hgrow.block k hk (fun e => hs (by rw [← e]; simp))⟩
    refine h _ _ _ ⟨css ++ [cs], by simp [k1], ?_, ?_, ?_⟩ hgr
    · intro c hc
      rcases List.mem_append.1 hc with hc | hc
      · exact k2 c hc
      · simp at hc; subst hc; exact ⟨hl, h1⟩
    · rw [List.flatten_append]; simpa using hown'
    · have hcond : ∀ S : List Nat, (∀ b ∈ S, b < B ∨ w'.heap.size ≤ b ∨ (Value.slice (some ⟨g', 0, none⟩) (xs.length + 1) cap').ownBlock = some b) → ∀ b ∈ v.ownBlock.toList ++ S, b < B ∨ w.heap.size ≤ b ∨ v.ownBlock = some b := by
        intro S hS b hb
        rcases List.mem_append.1 hb with hb | hb
        · exact .inr (.inr (by simpa using hb))
        · rcases hS b hb with h | h | h
          · exact .inl h
          · exact .inr (.inl (Nat.le_trans hgr.size h))
          · simp [Value.ownBlock] at h
            subst h
            rcases hwhere with h | h
            · exact .inr (.inr h)
            · exact .inr (.inl (by omega))
      intro i c' x' hc hx' S hS
      have fin : ∀ c'' x'', el (v.ownBlock.toList ++ S) w c'' x'' → el S w' c'' x'' := fun c'' x'' h0 =>
        ok.sub (ok.gr h0 (hgr.sub (fun k _ hk => by simp at hk ⊢; exact .inl hk))) (fun b _ hb => by simp [hb])
      by_cases hlt : i < xs.length
      · rw [List.getElem?_append_left (by omega)] at hc
        rw [List.getElem?_append_left hlt] at hx'
        exact fin _ _ (k4 i c' x' hc hx' _ (hcond S hS))
      · have hi' : i = xs.length := by
          have := (List.getElem?_eq_some_iff.1 hx').1
          simp at this; omega
        subst hi'
        rw [List.getElem?_append_right (by omega), k1, Nat.sub_self] at hc
        rw [List.getElem?_append_right (by omega), Nat.sub_self] at hx'
        simp at hc hx'
        subst hc hx'
        exact fin _ _ (hel _ (hcond S hS))

end Go.Proofs.YtmonhpoogfdpoaaGreatDoor

namespace Go.Proofs.YtmonhpoogfdpoaaGreatDoor
open Go.RowKit

theorem flatten_length' {css : List (List Value)} {size : Nat} (h : ∀ cs ∈ css, cs.length = size) : css.flatten.length = css.length * size := by
  induction css with
  | nil => simp
  | cons c r ih =>
    rw [List.flatten_cons, List.length_append, h c (by simp), ih (fun x hx => h x (by simp [hx])), List.length_cons, Nat.succ_mul]; omega
theorem flatten_get' {css : List (List Value)} {size : Nat} (hs : 0 < size) (h : ∀ cs ∈ css, cs.length = size) (p : Nat) : css.flatten[p]? = (css[p / size]?).bind fun c => c[p % size]? := by
  have hp : p / size * size + p % size = p := Nat.div_add_mod' p size
  have hm : p % size < size := Nat.mod_lt _ hs
  cases hc : css[p / size]? with
  | none =>
    have hle := List.getElem?_eq_none_iff.1 hc
    have : css.length * size ≤ p / size * size := Nat.mul_le_mul_right _ hle
    simp only [Option.bind_none]
    exact List.getElem?_eq_none (by rw [flatten_length' h]; omega)
  | some c =>
    have := flatten_get h hc hm
    rw [hp] at this
    simpa using this
theorem block_cells {w : World} {g : Nat} {cur cur' : Array Value} {e : TypeId} (h : w.heap[g]? = some (.cells cur e (0, 0))) (i : Nat) (v : Value) : (w.setCell ⟨g, i, none⟩ v).heap[g]? = some (.cells (cur.setIfInBounds i v) e (0, 0)) := by
  simp [World.setCell, Array.getElem?_modify, h]
theorem set5_get (cur : Array Value) (o p : Nat) (a b c d f : Value) (hp : p < cur.size) :
    (((((cur.setIfInBounds o a).setIfInBounds (o + 1) b).setIfInBounds (o + 2) c).setIfInBounds (o + 3) d).setIfInBounds (o + 4) f)[p]? = if o ≤ p ∧ p < o + 5 then [a, b, c, d, f][p - o]? else cur[p]? := by
  simp only [Array.getElem?_setIfInBounds, Array.size_setIfInBounds]
  by_cases h : o ≤ p ∧ p < o + 5
  · rw [if_pos h]
    have : p = o ∨ p = o + 1 ∨ p = o + 2 ∨ p = o + 3 ∨ p = o + 4 := by omega
    rcases this with rfl | rfl | rfl | rfl | rfl <;> simp <;> omega
  · rw [if_neg h]
    have h0 : ¬ o = p := by omega
    have h1 : ¬ o + 1 = p := by omega
    have h2 : ¬ o + 2 = p := by omega
    have h3 : ¬ o + 3 = p := by omega
    have h4 : ¬ o + 4 = p := by omega
    simp only [h0, h1, h2, h3, h4, if_false]
theorem OwnG.set5 {α : Type} {el : List Nat → World → List Value → α → Prop} (ok : ElOk el) {B : Nat} {w : World} {e : TypeId} {g n cap : Nat} {xs : List α} (h : OwnG 5 el B w e (.slice (some ⟨g, 0, none⟩) n cap) xs) {i : Nat} (hi : i < xs.length)
    (a b c d f : Value) (h1 : ∀ u ∈ [a, b, c, d, f], u.oneCell' = true) (y : α)
    (hel : ∀ S : List Nat, (∀ k ∈ S, k < B ∨ w.heap.size ≤ k ∨ k = g) → el S (((((w.setCell ⟨g, i * 5, none⟩ a).setCell ⟨g, i * 5 + 1, none⟩ b).setCell ⟨g, i * 5 + 2, none⟩ c).setCell ⟨g, i * 5 + 3, none⟩ d).setCell ⟨g, i * 5 + 4, none⟩ f) [a, b, c, d, f] y) :
    OwnG 5 el B (((((w.setCell ⟨g, i * 5, none⟩ a).setCell ⟨g, i * 5 + 1, none⟩ b).setCell ⟨g, i * 5 + 2, none⟩ c).setCell ⟨g, i * 5 + 3, none⟩ d).setCell ⟨g, i * 5 + 4, none⟩ f) e (.slice (some ⟨g, 0, none⟩) n cap) (xs.set i y) := by
  have hgr : Gr [g] w (((((w.setCell ⟨g, i * 5, none⟩ a).setCell ⟨g, i * 5 + 1, none⟩ b).setCell ⟨g, i * 5 + 2, none⟩ c).setCell ⟨g, i * 5 + 3, none⟩ d).setCell ⟨g, i * 5 + 4, none⟩ f) :=
    (((((Gr.refl [g] w).setCell _ _ (.inl (by simp))).setCell _ _ (.inl (by simp))).setCell _ _ (.inl (by simp))).setCell _ _ (.inl (by simp))).setCell _ _ (.inl (by simp))
  have hsz : (((((w.setCell ⟨g, i * 5, none⟩ a).setCell ⟨g, i * 5 + 1, none⟩ b).setCell ⟨g, i * 5 + 2, none⟩ c).setCell ⟨g, i * 5 + 3, none⟩ d).setCell ⟨g, i * 5 + 4, none⟩ f).heap.size = w.heap.size := by simp [World.setCell]
  obtain ⟨css, k1, k2, k3, k4⟩ := h
  rcases k3.2 with ⟨e1, h5⟩ | ⟨g', cap', cur, e1, hB, hg, h6, h7, h8, h9⟩
  · cases e1
  · cases e1
    have hcl : css.length = xs.length := k1
    have hall : ∀ cs ∈ css, cs.length = 5 := fun cs hc => (k2 cs hc).1
    have hset : ∀ cs ∈ css.set i [a, b, c, d, f], cs.length = 5 ∧ ∀ u ∈ cs, u.oneCell' = true := by
      intro cs hc
      rcases List.mem_or_eq_of_mem_set hc with h | rfl
      · exact k2 cs h
      · exact ⟨rfl, h1⟩
    refine ⟨css.set i [a, b, c, d, f], by simp [hcl], hset, ⟨?_, .inr ⟨g, cap, _, by simp, hB, block_cells (cur' := cur) (block_cells (cur' := cur) (block_cells (cur' := cur) (block_cells (cur' := cur) (block_cells (cur' := cur) hg _ _) _ _) _ _) _ _) _ _, by simpa using h6, h7, by simpa using h8, ?_⟩⟩, ?_⟩
    · rw [flatten_length' fun cs hc => (hset cs hc).1]
      simp [hcl]
    · refine List.ext_getElem? fun p => ?_
      rw [flatten_get' (by omega) (fun cs hc => (hset cs hc).1)]
      have hold := congrArg (fun l => l[p]?) h9
      simp only [flatten_get' (show 0 < 5 by omega) hall, List.getElem?_take, Array.getElem?_toList] at hold
      simp only [List.length_set, List.getElem?_take, Array.getElem?_toList]
      have hdm : p / 5 * 5 + p % 5 = p := Nat.div_add_mod' p 5
      have hm5 : p % 5 < 5 := Nat.mod_lt _ (by omega)
      by_cases hp : p < xs.length * 5
      · rw [if_pos hp] at hold ⊢
        have hps : p < cur.size := by rw [h8]; have : xs.length * 5 ≤ cap * 5 := Nat.mul_le_mul_right _ h6; omega
        rw [set5_get _ _ _ _ _ _ _ _ hps]
        by_cases hpi : p / 5 = i
        · have hr : i * 5 ≤ p ∧ p < i * 5 + 5 := by omega
          rw [if_pos hr, hpi, List.getElem?_set_self (by omega)]
          have : p - i * 5 = p % 5 := by omega
          rw [this]; rfl
        · rw [if_neg (by omega), List.getElem?_set_ne (by omega), hold]
      · rw [if_neg hp]
        have : (css.set i [a, b, c, d, f])[p / 5]? = none := List.getElem?_eq_none (by rw [List.length_set]; omega)
        rw [this]; rfl
    · intro j cs x hj hx S hS
      by_cases hji : i = j
      · subst hji
        rw [List.getElem?_set_self (by omega)] at hj hx
        cases hj; cases hx
        exact hel S fun k hk => by
          rcases hS k hk with h | h | h
          · exact .inl h
          · exact .inr (.inl (by rw [hsz] at h; exact h))
          · exact .inr (.inr (by simp [Value.ownBlock] at h; exact h.symm))
      · rw [List.getElem?_set_ne hji] at hj hx
        have := k4 j cs x hj hx (g :: S) (by
          intro k hk
          rcases List.mem_cons.1 hk with h | h
          · exact .inr (.inr (by rw [h]; rfl))
          · rcases hS k h with h | h | h
            · exact .inl h
            · exact .inr (.inl (by rw [hsz] at h; exact h))
            · exact .inr (.inr (by simpa [Value.ownBlock] using h)))
        exact ok.sub (ok.gr this (hgr.sub (fun k _ hk => by simp at hk ⊢; exact .inl hk))) (fun b _ hb => by simp [hb])
end Go.Proofs.YtmonhpoogfdpoaaGreatDoor
