/-
  Walks of deep copies: a constraint's, a model's; the program's and the reference's.
  Walks of the reference's deep copies: a constraint's, a model's. Walk of the reference's deep copy of a model.
-/
import Derived.Test.YtmonhpoogfdpoaaGreatDoorPEE
import Derived.Test.YtmonhpoogfdpoaaGreatDoorPM1
import Derived.Deep.RegionHeld3
import Derived.Deep.RegionLaw
import Derived.Test.YtmonhpoogfdpoaaGreatDoorPSkEH
import Derived.Test.YtmonhpoogfdpoaaGreatDoorPG8
import Derived.Deep.RegionHeldLaw
import Derived.Deep.CutRange
import Derived.Test.YtmonhpoogfdpoaaGreatDoorPEG
set_option linter.unusedVariables false
namespace Go.Proofs.YtmonhpoogfdpoaaGreatDoor
open Go.RowKit

/-! ### Lists whose elements lead to memory of the list's own -/
def elRowM (S : List Nat) (w : World) (cs : List Value) (r : List Int) : Prop := ∃ u, cs = [u] ∧ NumsM (fun b => b ∉ S) w u r
theorem elRowM_ok : ElOk elRowM :=
  ⟨fun ⟨u, e, h⟩ hg => ⟨u, e, h.gr' hg (fun b hb h => h hb) (fun b _ h => h)⟩,
   fun ⟨u, e, h⟩ hs => ⟨u, e, h.move fun a v hM hc => ⟨hc, rfl, fun hm => hM (hs _ (World.block_lt_of_cell? _ a hc) hm)⟩⟩⟩
def elConM (S : List Nat) (w : World) (cs : List Value) (c : Con) : Prop :=
  ∃ vo vc xo xc ro rc, cs = [.int .i64 c.kind, .slice vo c.vars.length vc, .slice xo c.args.length xc, .int .i64 c.bound, .slice ro c.rows.length rc] ∧
    ConM (fun b => b ∉ S) w (.agg #[.int .i64 c.kind, .slice vo c.vars.length vc, .slice xo c.args.length xc, .int .i64 c.bound, .slice ro c.rows.length rc]) c
theorem elConM_ok : ElOk elConM :=
  ⟨fun ⟨a1, a2, a3, a4, a5, a6, e, h⟩ hg => ⟨a1, a2, a3, a4, a5, a6, e, h.gr' hg (fun b hb h => h hb) (fun b _ h => h)⟩,
   fun ⟨a1, a2, a3, a4, a5, a6, e, h⟩ hs => ⟨a1, a2, a3, a4, a5, a6, e, h.move fun a v hM hc => ⟨hc, rfl, fun hm => hM (hs _ (World.block_lt_of_cell? _ a hc) hm)⟩⟩⟩
theorem not_in_low {B g b : Nat} (h : b ∉ List.range B ++ [g]) : B ≤ b ∧ b ≠ g := by
  simp only [List.mem_append, List.mem_range, List.mem_singleton, not_or] at h
  omega
theorem OwnG.rowsM {B : Nat} {w : World} {e : TypeId} {v : Value} {rows : List (List Int)} (h : OwnG 1 elRowM B w e v rows) : RowsM (New B w) w v rows := by
  obtain ⟨ao, cap, rfl, h1, h2, h3⟩ := h.slice
  refine ⟨ao, cap, rfl, ⟨h1, h2, h3⟩, fun i r hi => ?_⟩
  obtain ⟨g, cap', cs, e1, hb, hlt, hl, hc, hf, hel⟩ := h.cell hi
  cases e1
  obtain ⟨u, rfl, hn⟩ := hel (List.range B ++ [g]) (fun b hb => by
    rcases List.mem_append.1 hb with h | h
    · exact .inl (List.mem_range.1 h)
    · exact .inr (.inr (by simpa using h)))
  refine ⟨g, 0, u, rfl, ⟨hb, hlt⟩, by have := hc 0 u rfl; simpa using this, by simpa using hf i, hn.move fun a v hM hcell => ⟨hcell, rfl, ⟨⟨(not_in_low hM).1, World.block_lt_of_cell? _ a hcell⟩, (not_in_low hM).2⟩⟩⟩
theorem OwnG.consM {B : Nat} {w : World} {e : TypeId} {v : Value} {cs : List Con} (h : OwnG 5 elConM B w e v cs) : ConsM (New B w) w v cs := by
  obtain ⟨ao, cap, rfl, h1, h2, h3⟩ := h.slice
  refine ⟨ao, cap, rfl, ⟨h1, h2, h3⟩, fun i c hi => ?_⟩
  obtain ⟨g, cap', cs', e1, hb, hlt, hl, hc, hf, hel⟩ := h.cell hi
  cases e1
  obtain ⟨vo, vc, xo, xc, ro, rc, rfl, hn⟩ := hel (List.range B ++ [g]) (fun b hb => by
    rcases List.mem_append.1 hb with h | h
    · exact .inl (List.mem_range.1 h)
    · exact .inr (.inr (by simpa using h)))
  obtain ⟨vv, av, rv, e2, n1, n2, n3⟩ := hn
  simp only [Value.agg.injEq] at e2
  have e3 := congrArg (fun a => a[1]?) e2
  have e4 := congrArg (fun a => a[2]?) e2
  have e5 := congrArg (fun a => a[4]?) e2
  simp only [List.getElem?_toArray, List.getElem?_cons_succ, List.getElem?_cons_zero, Option.some.injEq] at e3 e4 e5
  subst e3 e4 e5
  have hm : ∀ a v, (fun b => b ∉ List.range B ++ [g]) a.block → w.cell? a = some v → w.cell? a = some v ∧ w.frozen? a = w.frozen? a ∧ but (New B w) g a.block :=
    fun a v hM hcell => ⟨hcell, rfl, ⟨⟨(not_in_low hM).1, World.block_lt_of_cell? _ a hcell⟩, (not_in_low hM).2⟩⟩
  have c0 := hc 0 _ rfl
  have c1 := hc 1 _ rfl
  have c2 := hc 2 _ rfl
  have c3 := hc 3 _ rfl
  have c4 := hc 4 _ rfl
  simp only [Nat.zero_add, Nat.add_zero] at c0 c1 c2 c3 c4
  refine ⟨g, 0, _, _, _, rfl, ⟨hb, hlt⟩, ⟨?_, ?_, ?_, ?_, ?_⟩, hf, n1.move hm, n2.move hm, n3.move hm⟩ <;> (first | simpa using c0 | simpa [Nat.add_assoc] using c1 | simpa [Nat.add_assoc] using c2 | simpa [Nat.add_assoc] using c3 | simpa [Nat.add_assoc] using c4)

/-- 'make([]T, 0, n)', of whatever elements. -/
theorem wp_mk0G {α : Type} {P : Program} {w : World} {ops : Array Oper} {rest : List Oper} {o : Oper} {a : Act} {Q : Exit → Act → World → Prop} (hgd : o.guard = none) (l c : Operand) (t : TypeId)
    (ho : o.op = Op.makeSlice t l c) (size : Nat) (el : List Nat → World → List Value → α → Prop) (B : Nat) (e : TypeId) (z : Value) (bytes : Nat) (hinfo : (P.info? e).map (fun i => (i.zero, i.size, i.bytes)) = some (some z, size, bytes)) (hby : bytes ≤ 100)
    (ht : P.underlying t = some (.slice e)) (n : Nat) (hl : a.eval l = .int .i64 0) (hc : a.eval c = .int .i64 (n : Int)) (hn : n ≤ 1000000000) (hB : B ≤ w.heap.size)
    (h : ∀ w', OwnG size el B w' e (.slice (some ⟨w.heap.size, 0, none⟩) 0 n) ([] : List α) → Gr [] w w' → wpList P ops Q rest (a.put o.dst (.slice (some ⟨w.heap.size, 0, none⟩) 0 n)) w') : wpList P ops Q (o :: rest) a w := by
  obtain ⟨i0, hi, hz0, hz1, hz2⟩ := info_parts hinfo
  have hbb : bytes * n ≤ 100 * n := Nat.mul_le_mul_right _ hby
  refine wpList_make_own w hgd l c t ho B e i0 z size ht hi hz0 hz1 .i64 .i64 n n hl hc rfl (by rw [hz2]; omega) (by simp only [maxLen]; omega) hB ?_
  intro w' hown hg
  exact h w' ⟨[], rfl, by simp, by simpa using hown, by simp⟩ ((Gr.refl _ _).grown hg (by simp))

/-- 'append(out, x)' on a list of the call's own, a longer one. -/
theorem wp_appH {α : Type} {P : Program} {w : World} {ops : Array Oper} {rest : List Oper} {o : Oper} {a : Act} {Q : Exit → Act → World → Prop} (hgd : o.guard = none) (s x : Operand) (t : TypeId)
    (ho : o.op = .call { callee := .builtin .append, args := #[s, x], argTypes := #[t, t] }) (size : Nat) (el : List Nat → World → List Value → α → Prop) (ok : ElOk el) (B : Nat) (e : TypeId) (z : Value) (bytes : Nat)
    (hinfo : (P.info? e).map (fun i => (i.zero, i.size, i.bytes)) = some (some z, size, bytes)) (hzs : z.cells.size = size) (hsz : 0 < size) (hby : bytes ≤ 100)
    (ht : P.underlying t = some (.slice e)) (v : Value) (xs : List α) (hs : a.eval s = v) (hown : OwnG size el B w e v xs) (g c : Nat) (y : α) (cs : List Value) (hx : a.eval x = .slice (some ⟨g, 0, none⟩) 1 c)
    (hl : cs.length = size) (h1 : ∀ u ∈ cs, u.oneCell' = true) (hn : ∀ j u, cs[j]? = some u → w.cell? ⟨g, j, none⟩ = some u) (hel : ∀ S : List Nat, (∀ b ∈ S, b < B ∨ w.heap.size ≤ b ∨ v.ownBlock = some b) → el S w cs y)
    (hlen : xs.length ≤ 10000000) (hB : B ≤ w.heap.size)
    (h : ∀ v' w', OwnG size el B w' e v' (xs ++ [y]) → Gr v.ownBlock.toList w w' → wpList P ops Q rest (a.put o.dst v') w') : wpList P ops Q (o :: rest) a w := by
  obtain ⟨css, k1, k2, k3, k4⟩ := hown
  obtain ⟨i0, hi, hz0, hz1, hz2⟩ := info_parts hinfo
  have hbb : (xs.length + 1) * bytes ≤ (xs.length + 1) * 100 := Nat.mul_le_mul_left _ hby
  refine wpList_append_lies w hgd s x t ho B e i0 z size bytes ht hi hz0 hz1 hz2 hzs hsz v xs.length css.flatten hs k3 ⟨g, 0, none⟩ 1 c cs hx (by rw [hl]; simp) ?_ h1 (by omega) (by simp only [maxLen]; omega) (by omega) hB w.heap.size rfl ?_
  · intro j u hj
    have : (⟨g, 0, none⟩ : Addr).add j = ⟨g, j, none⟩ := by unfold Addr.add; split <;> simp_all
    rw [this]; exact hn j u hj
  · intro g' cap' w' hown' hgrow hwhere hlt
    have hgr : Gr v.ownBlock.toList w w' := ⟨hgrow.os, hgrow.tape, hgrow.output, hgrow.size, fun k hk hs => hgrow.block k hk (fun e => hs (by rw [← e]; simp))⟩
    refine h _ _ ⟨css ++ [cs], by simp [k1], ?_, ?_, ?_⟩ hgr
    · intro c hc
      rcases List.mem_append.1 hc with hc | hc
      · exact k2 c hc
      · simp at hc; subst hc; exact ⟨hl, h1⟩
    · rw [List.flatten_append]; simpa using hown'
    · have hcond : ∀ S : List Nat, (∀ b ∈ S, b < B ∨ w'.heap.size ≤ b ∨ (Value.slice (some ⟨g', 0, none⟩) (xs.length + 1) cap').ownBlock = some b) → ∀ b ∈ v.ownBlock.toList ++ S, b < B ∨ w.heap.size ≤ b ∨ v.ownBlock = some b := by
        intro S hS b hb
        rcases List.mem_append.1 hb with hb | hb
        · exact .inr (.inr (by simpa using hb))
        · rcases hS b hb with h | h | h
          · exact .inl h
          · exact .inr (.inl (Nat.le_trans hgr.size h))
          · simp [Value.ownBlock] at h
            subst h
            rcases hwhere with h | h
            · exact .inr (.inr h)
            · exact .inr (.inl (by omega))
      intro i c' x' hc hx' S hS
      have fin : ∀ c'' x'', el (v.ownBlock.toList ++ S) w c'' x'' → el S w' c'' x'' := fun c'' x'' h0 =>
        ok.sub (ok.gr h0 (hgr.sub (fun k _ hk => by simp at hk ⊢; exact .inl hk))) (fun b _ hb => by simp [hb])
      by_cases hlt : i < xs.length
      · rw [List.getElem?_append_left (by omega)] at hc
        rw [List.getElem?_append_left hlt] at hx'
        exact fin _ _ (k4 i c' x' hc hx' _ (hcond S hS))
      · have hi' : i = xs.length := by
          have := (List.getElem?_eq_some_iff.1 hx').1
          simp at this; omega
        subst hi'
        rw [List.getElem?_append_right (by omega), k1, Nat.sub_self] at hc
        rw [List.getElem?_append_right (by omega), Nat.sub_self] at hx'
        simp at hc hx'
        subst hc hx'
        exact fin _ _ (hel _ (hcond S hS))

theorem step_appH {α : Type} {P : Program} {w : World} {ops : Array Oper} {o : Oper} {a : Act} {K : Act → World → Prop} {Q : Exit → Act → World → Prop} {E : Prop} (hgd : o.guard = none) (s x : Operand) (t : TypeId)
    (ho : o.op = .call { callee := .builtin .append, args := #[s, x], argTypes := #[t, t] }) (size : Nat) (el : List Nat → World → List Value → α → Prop) (ok : ElOk el) (B : Nat) (e : TypeId) (z : Value) (bytes : Nat)
    (hinfo : (P.info? e).map (fun i => (i.zero, i.size, i.bytes)) = some (some z, size, bytes)) (hzs : z.cells.size = size) (hsz : 0 < size) (hby : bytes ≤ 100)
    (ht : P.underlying t = some (.slice e)) (v : Value) (xs : List α) (hs : a.eval s = v) (hown : OwnG size el B w e v xs) (g c : Nat) (y : α) (cs : List Value) (hx : a.eval x = .slice (some ⟨g, 0, none⟩) 1 c)
    (hl : cs.length = size) (h1 : ∀ u ∈ cs, u.oneCell' = true) (hn : ∀ j u, cs[j]? = some u → w.cell? ⟨g, j, none⟩ = some u) (hel : ∀ S : List Nat, (∀ b ∈ S, b < B ∨ w.heap.size ≤ b ∨ v.ownBlock = some b) → el S w cs y)
    (hlen : xs.length ≤ 10000000) (hB : B ≤ w.heap.size)
    (h : ∀ g' c' w', OwnG size el B w' e (.slice (some ⟨g', 0, none⟩) (xs.length + 1) c') (xs ++ [y]) → Gr v.ownBlock.toList w w' → K (a.put o.dst (.slice (some ⟨g', 0, none⟩) (xs.length + 1) c')) w') : if Region.wanted o (yielded ops a.tmps) = true then Oper.wp P o a w K Q else E := by
  obtain ⟨css, k1, k2, k3, k4⟩ := hown
  obtain ⟨i0, hi, hz0, hz1, hz2⟩ := info_parts hinfo
  have hbb : (xs.length + 1) * bytes ≤ (xs.length + 1) * 100 := Nat.mul_le_mul_left _ hby
  refine step_append_lies w hgd s x t ho B e i0 z size bytes ht hi hz0 hz1 hz2 hzs hsz v xs.length css.flatten hs k3 ⟨g, 0, none⟩ 1 c cs hx (by rw [hl]; simp) ?_ h1 (by omega) (by simp only [maxLen]; omega) (by omega) hB w.heap.size rfl ?_
  · intro j u hj
    have : (⟨g, 0, none⟩ : Addr).add j = ⟨g, j, none⟩ := by unfold Addr.add; split <;> simp_all
    rw [this]; exact hn j u hj
  · intro g' cap' w' hown' hgrow hwhere hlt
    have hgr : Gr v.ownBlock.toList w w' := ⟨hgrow.os, hgrow.tape, hgrow.output, hgrow.size, fun k hk hs => hgrow.block k hk (fun e => hs (by rw [← e]; simp))⟩
    refine h _ _ _ ⟨css ++ [cs], by simp [k1], ?_, ?_, ?_⟩ hgr
    · intro c hc
      rcases List.mem_append.1 hc with hc | hc
      · exact k2 c hc
      · simp at hc; subst hc; exact ⟨hl, h1⟩
    · rw [List.flatten_append]; simpa using hown'
    · have hcond : ∀ S : List Nat, (∀ b ∈ S, b < B ∨ w'.heap.size ≤ b ∨ (Value.slice (some ⟨g', 0, none⟩) (xs.length + 1) cap').ownBlock = some b) → ∀ b ∈ v.ownBlock.toList ++ S, b < B ∨ w.heap.size ≤ b ∨ v.ownBlock = some b := by
        intro S hS b hb
        rcases List.mem_append.1 hb with hb | hb
        · exact .inr (.inr (by simpa using hb))
        · rcases hS b hb with h | h | h
          · exact .inl h
          · exact .inr (.inl (Nat.le_trans hgr.size h))
          · simp [Value.ownBlock] at h
            subst h
            rcases hwhere with h | h
            · exact .inr (.inr h)
            · exact .inr (.inl (by omega))
      intro i c' x' hc hx' S hS
      have fin : ∀ c'' x'', el (v.ownBlock.toList ++ S) w c'' x'' → el S w' c'' x'' := fun c'' x'' h0 =>
        ok.sub (ok.gr h0 (hgr.sub (fun k _ hk => by simp at hk ⊢; exact .inl hk))) (fun b _ hb => by simp [hb])
      by_cases hlt : i < xs.length
      · rw [List.getElem?_append_left (by omega)] at hc
        rw [List.getElem?_append_left hlt] at hx'
        exact fin _ _ (k4 i c' x' hc hx' _ (hcond S hS))
      · have hi' : i = xs.length := by
          have := (List.getElem?_eq_some_iff.1 hx').1
          simp at this; omega
        subst hi'
        rw [List.getElem?_append_right (by omega), k1, Nat.sub_self] at hc
        rw [List.getElem?_append_right (by omega), Nat.sub_self] at hx'
        simp at hc hx'
        subst hc hx'
        exact fin _ _ (hel _ (hcond S hS))

theorem OwnG.own {α : Type} {size : Nat} {el : List Nat → World → List Value → α → Prop} {B : Nat} {w : World} {e : TypeId} {v : Value} {xs : List α} (h : OwnG size el B w e v xs) {b : Nat} (hb : v.ownBlock = some b) : B ≤ b ∧ b < w.heap.size := by
  obtain ⟨css, _, _, h3, _⟩ := h
  exact ownsRow_ownBlock h3 hb
theorem heap2 (w : World) (a b : Obj) : ((w.alloc a).alloc b).heap[w.heap.size]? = some a ∧ ((w.alloc a).alloc b).heap[w.heap.size + 1]? = some b := by
  refine ⟨((Gr.refl [] (w.alloc a)).alloc b).obj (heap_alloc_new _ _) (by simp), ?_⟩
  have := heap_alloc_new (w.alloc a) b
  rwa [World.size_alloc] at this

end Go.Proofs.YtmonhpoogfdpoaaGreatDoor

set_option linter.unusedVariables false
set_option linter.unusedSimpArgs false
namespace Go.Proofs.YtmonhpoogfdpoaaGreatDoor
open Go.RowKit

theorem sets5 {w : World} {bk : Nat} {t : TypeId} (z0 z1 z2 z3 z4 x0 x1 x2 x3 x4 : Value) (h : w.heap[bk]? = some (.cells #[z0, z1, z2, z3, z4] t (0, 0))) :
    (((((w.setCell ⟨bk, 0, none⟩ x0).setCell ⟨bk, 1, none⟩ x1).setCell ⟨bk, 2, none⟩ x2).setCell ⟨bk, 3, none⟩ x3).setCell ⟨bk, 4, none⟩ x4).heap[bk]? = some (.cells #[x0, x1, x2, x3, x4] t (0, 0)) := by
  have := block_cells (cur' := #[]) (block_cells (cur' := #[]) (block_cells (cur' := #[]) (block_cells (cur' := #[]) (block_cells (cur' := #[]) h 0 x0) 1 x1) 2 x2) 3 x3) 4 x4
  simpa using this
theorem setsG {w : World} (bk : Nat) (x0 x1 x2 x3 x4 : Value) :
    Gr [bk] w (((((w.setCell ⟨bk, 0, none⟩ x0).setCell ⟨bk, 1, none⟩ x1).setCell ⟨bk, 2, none⟩ x2).setCell ⟨bk, 3, none⟩ x3).setCell ⟨bk, 4, none⟩ x4) :=
  (((((Gr.refl _ _).setCell _ _ (.inl (by simp))).setCell _ _ (.inl (by simp))).setCell _ _ (.inl (by simp))).setCell _ _ (.inl (by simp))).setCell _ _ (.inl (by simp))
theorem NumsM.to {v : Value} {xs : List Int} {B B0 : Nat} {w1 w2 : World} {S : List Nat} {bk : Nat} (h : NumsM (New B w1) w1 v xs) (hg : Gr S w1 w2) (hS : ∀ b ∈ S, b = bk) (hbk : bk < B ∨ w1.heap.size ≤ bk) (hB : B0 ≤ B) :
    NumsM (fun b => New B0 w2 b ∧ b ≠ bk) w2 v xs :=
  h.gr' hg (fun b hb hm => by have := hS b hb; have h1 := hm.1; have h2 := hm.2; omega)
    (fun b hlt hm => ⟨⟨Nat.le_trans hB hm.1, Nat.lt_of_lt_of_le hm.2 hg.size⟩, by have h1 := hm.1; have h2 := hm.2; omega⟩)


end Go.Proofs.YtmonhpoogfdpoaaGreatDoor

set_option linter.unusedVariables false
set_option linter.unusedSimpArgs false
namespace Go.Proofs.YtmonhpoogfdpoaaGreatDoor
open Go.RowKit

theorem set2 {w : World} {bk : Nat} {t : TypeId} (z0 z1 x0 x1 : Value) (h : w.heap[bk]? = some (.cells #[z0, z1] t (0, 0))) :
    ((w.setCell ⟨bk, 0, none⟩ x0).setCell ⟨bk, 1, none⟩ x1).heap[bk]? = some (.cells #[x0, x1] t (0, 0)) ∧ Gr [bk] w ((w.setCell ⟨bk, 0, none⟩ x0).setCell ⟨bk, 1, none⟩ x1) := by
  refine ⟨?_, ((Gr.refl _ _).setCell _ _ (.inl (by simp))).setCell _ _ (.inl (by simp))⟩
  have := block_cells (cur' := #[]) (block_cells (cur' := #[]) h 0 x0) 1 x1
  simpa using this


end Go.Proofs.YtmonhpoogfdpoaaGreatDoor
