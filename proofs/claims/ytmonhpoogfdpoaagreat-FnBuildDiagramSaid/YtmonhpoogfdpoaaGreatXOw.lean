/-
  Lists of the call's own, by their bare cells; lists of lists of rows. No program is mentioned.
-/
import Derived.Test.YtmonhpoogfdpoaaGreatXFP
set_option linter.unusedVariables false
set_option linter.unusedSimpArgs false
namespace Go.Proofs.YtmonhpoogfdpoaaGreat
open Go.RowKit

/-- A list in a block of its own, from block B on; its elements are the cells css. -/
def OwnV (size B : Nat) (w : World) (e : TypeId) (v : Value) (css : List (List Value)) : Prop :=
  (∀ cs ∈ css, cs.length = size ∧ ∀ u ∈ cs, u.oneCell' = true) ∧ w.ownsRow B e size v css.length css.flatten
theorem OwnV.keep {size B : Nat} {w w' : World} {e : TypeId} {v : Value} {css : List (List Value)} {T : List Nat} (h : OwnV size B w e v css) (hg : Gr T w w') (hT : ∀ g, v.ownBlock = some g → g ∉ T) : OwnV size B w' e v css := by
  obtain ⟨h1, h2, h3⟩ := h
  refine ⟨h1, h2, ?_⟩
  rcases h3 with h3 | ⟨g, cap, cur, rfl, hb, hgg, rest⟩
  · exact .inl h3
  · exact .inr ⟨g, cap, cur, rfl, hb, hg.obj hgg (hT g rfl), rest⟩
theorem OwnV.own {size B : Nat} {w : World} {e : TypeId} {v : Value} {css : List (List Value)} (h : OwnV size B w e v css) {b : Nat} (hb : v.ownBlock = some b) : B ≤ b ∧ b < w.heap.size := ownsRow_ownBlock h.2 hb
theorem OwnV.gr {size B : Nat} {w w' : World} {e : TypeId} {v : Value} {css : List (List Value)} (h : OwnV size B w e v css) (hg : Gr [] w w') : OwnV size B w' e v css := h.keep hg (by simp)
theorem OwnV.form {size B : Nat} {w : World} {e : TypeId} {v : Value} {css : List (List Value)} (h : OwnV size B w e v css) : ∃ ao cap, v = .slice ao css.length cap ∧ (css.length ≤ cap ∧ cap ≤ 9223372036854775807 ∧ (ao = none → cap = 0)) := by
  rcases h.2.2 with ⟨e1, h5⟩ | ⟨g, cap, cur, e1, _, _, h6, h7, _⟩
  · exact ⟨none, 0, by rw [e1, h5], by omega, by omega, fun _ => rfl⟩
  · exact ⟨_, _, e1, h6, by simp only [maxLen] at h7; omega, by simp⟩
theorem OwnV.at {size B : Nat} {w : World} {e : TypeId} {v : Value} {css : List (List Value)} (h : OwnV size B w e v css) {i : Nat} {cs : List Value} (hi : css[i]? = some cs) :
    ∃ g cap, v = .slice (some ⟨g, 0, none⟩) css.length cap ∧ (B ≤ g ∧ g < w.heap.size) ∧ (∀ j u, cs[j]? = some u → w.cell? ⟨g, i * size + j, none⟩ = some u) ∧ (∀ j, w.frozen? ⟨g, j, none⟩ = false) := by
  obtain ⟨h1, h2, h3⟩ := h
  have hil := (List.getElem?_eq_some_iff.1 hi).1
  have hlen := (h1 cs (List.mem_of_getElem? hi)).1
  rcases h3 with ⟨e1, h5⟩ | ⟨g, cap, cur, e1, hb, hg, h6, h7, h8, h9⟩
  · omega
  · subst e1
    refine ⟨g, cap, rfl, ⟨hb, lt_of_block hg⟩, fun j u hj => ?_, fun j => by simp [World.frozen?, hg]⟩
    have hjl := (List.getElem?_eq_some_iff.1 hj).1
    have e2 := flatten_get (fun c hc => (h1 c hc).1) hi (j := j) (by omega)
    rw [← h9, hj, List.getElem?_take] at e2
    split at e2
    · simp only [World.cell?, hg]; simpa using e2
    · cases e2
theorem OwnV.nil (size B : Nat) (w : World) (e : TypeId) : OwnV size B w e (.slice none 0 0) [] := ⟨by simp, World.ownsRow_nil _ _ _ _⟩
theorem OwnV.empty {size B : Nat} (w : World) (e : TypeId) (hB : B ≤ w.heap.size) : OwnV size B (w.alloc (.cells #[] e)) e (.slice (some ⟨w.heap.size, 0, none⟩) 0 0) [] :=
  ⟨by simp, World.ownsRow_made w #[] 0 hB (by simp [maxLen]) (by simp)⟩
theorem wp_appV {P : Program} {w : World} {ops : Array Oper} {rest : List Oper} {o : Oper} {a : Act} {Q : Exit → Act → World → Prop} (hgd : o.guard = none) (s x : Operand) (t : TypeId)
    (ho : o.op = .call { callee := .builtin .append, args := #[s, x], argTypes := #[t, t] }) (size : Nat) (B : Nat) (e : TypeId) (z : Value) (bytes : Nat)
    (hinfo : (P.info? e).map (fun i => (i.zero, i.size, i.bytes)) = some (some z, size, bytes)) (hzs : z.cells.size = size) (hsz : 0 < size) (hby : bytes ≤ 100)
    (ht : P.underlying t = some (.slice e)) (v : Value) (css : List (List Value)) (hs : a.eval s = v) (hown : OwnV size B w e v css) (g c : Nat) (cs : List Value) (hx : a.eval x = .slice (some ⟨g, 0, none⟩) 1 c)
    (hl : cs.length = size) (h1 : ∀ u ∈ cs, u.oneCell' = true) (hn : ∀ j u, cs[j]? = some u → w.cell? ⟨g, j, none⟩ = some u)
    (hlen : css.length ≤ 10000000) (hB : B ≤ w.heap.size)
    (h : ∀ g' c' w', OwnV size B w' e (.slice (some ⟨g', 0, none⟩) (css.length + 1) c') (css ++ [cs]) → Gr v.ownBlock.toList w w' → (v.ownBlock = some g' ∨ w.heap.size ≤ g') → g' < w'.heap.size → wpList P ops Q rest (a.put o.dst (.slice (some ⟨g', 0, none⟩) (css.length + 1) c')) w') : wpList P ops Q (o :: rest) a w := by
  obtain ⟨k2, k3⟩ := hown
  obtain ⟨i0, hi, hz0, hz1, hz2⟩ := info_parts hinfo
  have hbb : (css.length + 1) * bytes ≤ (css.length + 1) * 100 := Nat.mul_le_mul_left _ hby
  refine wpList_append_lies w hgd s x t ho B e i0 z size bytes ht hi hz0 hz1 hz2 hzs hsz v css.length css.flatten hs k3 ⟨g, 0, none⟩ 1 c cs hx (by rw [hl]; simp) ?_ h1 (by omega) (by simp only [maxLen]; omega) (by omega) hB w.heap.size rfl ?_
  · intro j u hj
    have : (⟨g, 0, none⟩ : Addr).add j = ⟨g, j, none⟩ := by unfold Addr.add; split <;> simp_all
    rw [this]; exact hn j u hj
  · intro g' cap' w' hown' hgrow hwhere hlt
    have hgr : Gr v.ownBlock.toList w w' := ⟨hgrow.os, hgrow.tape, hgrow.output, hgrow.size, fun k hk hs => hgrow.block k hk (fun e => hs (by rw [← e]; simp))⟩
    refine h _ _ _ ⟨?_, ?_⟩ hgr (hwhere.imp id (fun e => by omega)) hlt
    · intro c hc
      rcases List.mem_append.1 hc with hc | hc
      · exact k2 c hc
      · simp at hc; subst hc; exact ⟨hl, h1⟩
    · rw [List.flatten_append, List.length_append]; simpa using hown'
theorem step_appV {P : Program} {w : World} {ops : Array Oper} {o : Oper} {a : Act} {K : Act → World → Prop} {Q : Exit → Act → World → Prop} {E : Prop} (hgd : o.guard = none) (s x : Operand) (t : TypeId)
    (ho : o.op = .call { callee := .builtin .append, args := #[s, x], argTypes := #[t, t] }) (size : Nat) (B : Nat) (e : TypeId) (z : Value) (bytes : Nat)
    (hinfo : (P.info? e).map (fun i => (i.zero, i.size, i.bytes)) = some (some z, size, bytes)) (hzs : z.cells.size = size) (hsz : 0 < size) (hby : bytes ≤ 100)
    (ht : P.underlying t = some (.slice e)) (v : Value) (css : List (List Value)) (hs : a.eval s = v) (hown : OwnV size B w e v css) (g c : Nat) (cs : List Value) (hx : a.eval x = .slice (some ⟨g, 0, none⟩) 1 c)
    (hl : cs.length = size) (h1 : ∀ u ∈ cs, u.oneCell' = true) (hn : ∀ j u, cs[j]? = some u → w.cell? ⟨g, j, none⟩ = some u)
    (hlen : css.length ≤ 10000000) (hB : B ≤ w.heap.size)
    (h : ∀ g' c' w', OwnV size B w' e (.slice (some ⟨g', 0, none⟩) (css.length + 1) c') (css ++ [cs]) → Gr v.ownBlock.toList w w' → (v.ownBlock = some g' ∨ w.heap.size ≤ g') → g' < w'.heap.size → K (a.put o.dst (.slice (some ⟨g', 0, none⟩) (css.length + 1) c')) w') : if Region.wanted o (yielded ops a.tmps) = true then Oper.wp P o a w K Q else E := by
  obtain ⟨k2, k3⟩ := hown
  obtain ⟨i0, hi, hz0, hz1, hz2⟩ := info_parts hinfo
  have hbb : (css.length + 1) * bytes ≤ (css.length + 1) * 100 := Nat.mul_le_mul_left _ hby
  refine step_append_lies w hgd s x t ho B e i0 z size bytes ht hi hz0 hz1 hz2 hzs hsz v css.length css.flatten hs k3 ⟨g, 0, none⟩ 1 c cs hx (by rw [hl]; simp) ?_ h1 (by omega) (by simp only [maxLen]; omega) (by omega) hB w.heap.size rfl ?_
  · intro j u hj
    have : (⟨g, 0, none⟩ : Addr).add j = ⟨g, j, none⟩ := by unfold Addr.add; split <;> simp_all
    rw [this]; exact hn j u hj
  · intro g' cap' w' hown' hgrow hwhere hlt
    have hgr : Gr v.ownBlock.toList w w' := ⟨hgrow.os, hgrow.tape, hgrow.output, hgrow.size, fun k hk hs => hgrow.block k hk (fun e => hs (by rw [← e]; simp))⟩
    refine h _ _ _ ⟨?_, ?_⟩ hgr (hwhere.imp id (fun e => by omega)) hlt
    · intro c hc
      rcases List.mem_append.1 hc with hc | hc
      · exact k2 c hc
      · simp at hc; subst hc; exact ⟨hl, h1⟩
    · rw [List.flatten_append, List.length_append]; simpa using hown'
/-- 'append' of a number, and where the new list lies. -/
theorem wp_appNL {P : Program} {w : World} {ops : Array Oper} {rest : List Oper} {o : Oper} {a : Act} {Q : Exit → Act → World → Prop} (hgd : o.guard = none) (s x : Operand) (t : TypeId)
    (ho : o.op = .call { callee := .builtin .append, args := #[s, x], argTypes := #[t, t] }) (B : Nat) (e : TypeId) (hinfo : (P.info? e).map (fun i => (i.zero, i.size, i.bytes)) = some (some (.int .i64 0), 1, 8))
    (ht : P.underlying t = some (.slice e)) (v : Value) (xs : List Int) (hs : a.eval s = v) (hown : Own B w e v xs) (g c : Nat) (n : Int) (hx : a.eval x = .slice (some ⟨g, 0, none⟩) 1 c) (hn : w.cell? ⟨g, 0, none⟩ = some (.int .i64 n))
    (hlen : xs.length ≤ 1000000000) (hB : B ≤ w.heap.size)
    (h : ∀ g' c' w', Own B w' e (.slice (some ⟨g', 0, none⟩) (xs.length + 1) c') (xs ++ [n]) → Gr v.ownBlock.toList w w' → (v.ownBlock = some g' ∨ w.heap.size ≤ g') → g' < w'.heap.size → wpList P ops Q rest (a.put o.dst (.slice (some ⟨g', 0, none⟩) (xs.length + 1) c')) w') : wpList P ops Q (o :: rest) a w := by
  obtain ⟨i0, hi, hz0, hz1, hz2⟩ := info_parts hinfo
  refine wpList_append_lies w hgd s x t ho B e i0 (.int .i64 0) 1 8 ht hi hz0 hz1 hz2 rfl (by decide) v xs.length _ hs hown ⟨g, 0, none⟩ 1 c [Value.int .i64 n] hx rfl ?_ (by simp [Value.oneCell']) (by omega) (by simp only [maxLen]; omega) (by omega) hB w.heap.size rfl ?_
  · intro j u hj
    match j, hj with
    | 0, hj => simp at hj; subst hj; simpa [Addr.add] using hn
    | j + 1, hj => simp at hj
  · intro g' cap' w' hown' hgrow hwhere hlt
    exact h _ _ _ (by simpa [Own] using hown') ⟨hgrow.os, hgrow.tape, hgrow.output, hgrow.size, fun k hk hs => hgrow.block k hk (fun e => hs (by rw [← e]; simp))⟩ (hwhere.imp id (fun e => by omega)) hlt
theorem Own.keepB {B : Nat} {T : List Nat} {w w' : World} {e : TypeId} {v : Value} {xs : List Int} (h : Own B w e v xs) (hg : Gr T w w') (hT : ∀ g, v.ownBlock = some g → g ∉ T) : Own B w' e v xs := by
  refine ⟨h.1, ?_⟩
  rcases h.2 with h1 | ⟨g, cap, cur, e1, hb, hgg, rest⟩
  · exact .inl h1
  · exact .inr ⟨g, cap, cur, e1, hb, hg.obj hgg (hT g (by rw [e1]; rfl)), rest⟩
theorem Own.ownB {B : Nat} {w : World} {e : TypeId} {v : Value} {xs : List Int} (h : Own B w e v xs) {b : Nat} (hb : v.ownBlock = some b) : B ≤ b ∧ b < w.heap.size := ownsRow_ownBlock h hb
theorem Own.form2 {B : Nat} {w : World} {e : TypeId} {v : Value} {xs : List Int} (h : Own B w e v xs) : ∃ ao cap, v = .slice ao xs.length cap ∧ xs.length ≤ cap ∧ cap ≤ 9223372036854775807 := by
  obtain ⟨ao, cap, e, ⟨h1, h2, _⟩, _⟩ := h.nums (S := []) (by simp)
  exact ⟨ao, cap, e, h1, h2⟩
theorem Own.numsB {S : List Nat} {B : Nat} {w : World} {e : TypeId} {v : Value} {xs : List Int} (h : Own B w e v xs) (hS : ∀ b, v.ownBlock = some b → b ∉ S) : Nums S w .i64 v xs := by
  obtain ⟨ao, cap, e1, hl, hc⟩ := h.nums (S := []) (by simp)
  subst e1
  refine ⟨ao, cap, rfl, hl, fun i x hi => ?_⟩
  obtain ⟨b, o, rfl, _, hcell⟩ := hc i x hi
  obtain ⟨g, c, e2, _⟩ := h.open (Nat.lt_of_le_of_lt (Nat.zero_le i) (List.getElem?_eq_some_iff.1 hi).1)
  simp only [Value.slice.injEq, Option.some.injEq, Addr.mk.injEq, true_and] at e2
  obtain ⟨⟨rfl, rfl, _⟩, _⟩ := e2
  exact ⟨b, 0, rfl, hS b rfl, hcell⟩
/-- 'make([]T, 0, n)'. -/
theorem wp_mkV0 {P : Program} {w : World} {ops : Array Oper} {rest : List Oper} {o : Oper} {a : Act} {Q : Exit → Act → World → Prop} (hgd : o.guard = none) (l c : Operand) (t : TypeId)
    (ho : o.op = Op.makeSlice t l c) (size B : Nat) (e : TypeId) (z : Value) (bytes : Nat) (hinfo : (P.info? e).map (fun i => (i.zero, i.size, i.bytes)) = some (some z, size, bytes)) (hby : bytes ≤ 100)
    (ht : P.underlying t = some (.slice e)) (n : Nat) (hl : a.eval l = .int .i64 0) (hc : a.eval c = .int .i64 (n : Int)) (hn : n ≤ 1000000000) (hB : B ≤ w.heap.size)
    (h : ∀ w', OwnV size B w' e (.slice (some ⟨w.heap.size, 0, none⟩) 0 n) [] → Gr [] w w' → wpList P ops Q rest (a.put o.dst (.slice (some ⟨w.heap.size, 0, none⟩) 0 n)) w') : wpList P ops Q (o :: rest) a w := by
  obtain ⟨i0, hi, hz0, hz1, hz2⟩ := info_parts hinfo
  have hbn : bytes * n ≤ 100 * n := Nat.mul_le_mul_right _ hby
  refine wpList_make_own w hgd l c t ho B e i0 z size ht hi hz0 hz1 .i64 .i64 n n hl hc rfl (by rw [hz2]; omega) (by simp only [maxLen]; omega) hB ?_
  intro w' hown hg
  exact h w' ⟨by simp, hown⟩ ((Gr.refl _ _).grown hg (by simp))

/-! ### Readings -/
theorem Nums.mv {L T L' : List Nat} {w w' : World} {k : IntKind} {v : Value} {xs : List Int} (h : Nums L w k v xs) (hg : Gr T w w') (hT : ∀ t ∈ T, t ∈ L ∨ w.heap.size ≤ t) (hL : ∀ b ∈ L', b ∈ L ∨ w.heap.size ≤ b) : Nums L' w' k v xs :=
  ((h.sub (S' := L' ++ T) (fun b hb hm => by
    rcases List.mem_append.1 hm with hm | hm
    · exact (hL b hm).resolve_right (by omega)
    · exact (hT b hm).resolve_right (by omega))).gr (hg.sub (fun k _ hk => by simp [hk]))).sub (fun b _ hm => by simp [hm])
theorem RowsV.mv {L T L' : List Nat} {w w' : World} {v : Value} {xs : List (List Int)} (h : RowsV L w v xs) (hg : Gr T w w') (hT : ∀ t ∈ T, t ∈ L ∨ w.heap.size ≤ t) (hL : ∀ b ∈ L', b ∈ L ∨ w.heap.size ≤ b) : RowsV L' w' v xs :=
  ((h.sub (S' := L' ++ T) (fun b hb hm => by
    rcases List.mem_append.1 hm with hm | hm
    · exact (hL b hm).resolve_right (by omega)
    · exact (hT b hm).resolve_right (by omega))).gr (hg.sub (fun k _ hk => by simp [hk]))).sub (fun b _ hm => by simp [hm])
/-- A slice of slices of slices of numbers. -/
def DCells (S : List Nat) (w : World) (ao : Option Addr) (d : List (List (List Int))) : Prop :=
  ∀ i r, d[i]? = some r → ∃ b o v, ao = some ⟨b, o, none⟩ ∧ b ∉ S ∧ w.cell? ⟨b, o + i, none⟩ = some v ∧ RowsV S w v r
def DgV (S : List Nat) (w : World) (v : Value) (d : List (List (List Int))) : Prop :=
  ∃ ao cap, v = .slice ao d.length cap ∧ (d.length ≤ cap ∧ cap ≤ 9223372036854775807 ∧ (ao = none → cap = 0)) ∧ DCells S w ao d
theorem DCells.gr {S : List Nat} {w w' : World} {ao : Option Addr} {d : List (List (List Int))} (h : DCells S w ao d) (hg : Gr S w w') : DCells S w' ao d :=
  fun i r hi => let ⟨b, o, v, e, hs, hc, hn⟩ := h i r hi; ⟨b, o, v, e, hs, hg.cell hc hs, hn.gr hg⟩
theorem DgV.gr {S : List Nat} {w w' : World} {v : Value} {d : List (List (List Int))} (h : DgV S w v d) (hg : Gr S w w') : DgV S w' v d :=
  let ⟨ao, cap, e, hl, hc⟩ := h; ⟨ao, cap, e, hl, hc.gr hg⟩
theorem DgV.sub {S S' : List Nat} {w : World} {v : Value} {d : List (List (List Int))} (h : DgV S w v d) (hs : ∀ b, b < w.heap.size → b ∈ S' → b ∈ S) : DgV S' w v d :=
  let ⟨ao, cap, e, hl, hc⟩ := h
  ⟨ao, cap, e, hl, fun i r hi => let ⟨b, o, u, e, hn, hc, hv⟩ := hc i r hi; ⟨b, o, u, e, fun hm => hn (hs b (World.block_lt_of_cell? w _ hc) hm), hc, hv.sub hs⟩⟩
theorem DgV.mv {L T L' : List Nat} {w w' : World} {v : Value} {xs : List (List (List Int))} (h : DgV L w v xs) (hg : Gr T w w') (hT : ∀ t ∈ T, t ∈ L ∨ w.heap.size ≤ t) (hL : ∀ b ∈ L', b ∈ L ∨ w.heap.size ≤ b) : DgV L' w' v xs :=
  ((h.sub (S' := L' ++ T) (fun b hb hm => by
    rcases List.mem_append.1 hm with hm | hm
    · exact (hL b hm).resolve_right (by omega)
    · exact (hT b hm).resolve_right (by omega))).gr (hg.sub (fun k _ hk => by simp [hk]))).sub (fun b _ hm => by simp [hm])
theorem RowsV.at3 {S : List Nat} {w : World} {ao : Option Addr} {n cap : Nat} {xs : List (List Int)} (h : RowsV S w (.slice ao n cap) xs) {i : Nat} {r : List Int} (hi : xs[i]? = some r) :
    ∃ b o uo uc, ao = some ⟨b, o, none⟩ ∧ b ∉ S ∧ w.cell? ⟨b, o + i, none⟩ = some (.slice uo r.length uc) ∧ (r.length ≤ uc ∧ uc ≤ 9223372036854775807) ∧ Nums S w .i64 (.slice uo r.length uc) r := by
  obtain ⟨ao', cap', e, -, hc⟩ := h
  cases e
  obtain ⟨b, o, v, e1, hs, hcell, hn⟩ := hc i r hi
  obtain ⟨uo, uc, rfl, ⟨k1, k2, -⟩, -⟩ := id hn
  exact ⟨b, o, uo, uc, e1, hs, hcell, ⟨k1, k2⟩, hn⟩
theorem DgV.at3 {S : List Nat} {w : World} {ao : Option Addr} {n cap : Nat} {xs : List (List (List Int))} (h : DgV S w (.slice ao n cap) xs) {i : Nat} {r : List (List Int)} (hi : xs[i]? = some r) :
    ∃ b o uo uc, ao = some ⟨b, o, none⟩ ∧ b ∉ S ∧ w.cell? ⟨b, o + i, none⟩ = some (.slice uo r.length uc) ∧ (r.length ≤ uc ∧ uc ≤ 9223372036854775807) ∧ RowsV S w (.slice uo r.length uc) r := by
  obtain ⟨ao', cap', e, -, hc⟩ := h
  cases e
  obtain ⟨b, o, v, e1, hs, hcell, hn⟩ := hc i r hi
  obtain ⟨uo, uc, rfl, ⟨k1, k2, -⟩, -⟩ := id hn
  exact ⟨b, o, uo, uc, e1, hs, hcell, ⟨k1, k2⟩, hn⟩
/-- A list of the call's own, read as rows. -/
theorem OwnV.rows {S : List Nat} {B : Nat} {w : World} {e : TypeId} {v : Value} {us : List Value} {rows : List (List Int)} (h : OwnV 1 B w e v (us.map fun u => [u])) (hl : us.length = rows.length) (hS : ∀ b, v.ownBlock = some b → b ∉ S)
    (hr : ∀ (i : Nat) u r, us[i]? = some u → rows[i]? = some r → Nums S w .i64 u r) : RowsV S w v rows := by
  obtain ⟨ao, cap, rfl, hc⟩ := h.form
  rw [List.length_map, hl] at hc ⊢
  refine ⟨ao, cap, rfl, hc, fun i r hi => ?_⟩
  obtain ⟨u, hu⟩ : ∃ u, us[i]? = some u := get_some (by rw [hl]; exact (List.getElem?_eq_some_iff.1 hi).1)
  obtain ⟨g, cap', e1, hg, hcell, -⟩ := h.at (i := i) (cs := [u]) (by rw [List.getElem?_map, hu]; rfl)
  rw [List.length_map, hl] at e1
  cases e1
  exact ⟨g, 0, u, rfl, hS g rfl, by simpa using hcell 0 u rfl, hr i u r hu hi⟩
theorem OwnV.dg {S : List Nat} {B : Nat} {w : World} {e : TypeId} {v : Value} {us : List Value} {d : List (List (List Int))} (h : OwnV 1 B w e v (us.map fun u => [u])) (hl : us.length = d.length) (hS : ∀ b, v.ownBlock = some b → b ∉ S)
    (hr : ∀ (i : Nat) u r, us[i]? = some u → d[i]? = some r → RowsV S w u r) : DgV S w v d := by
  obtain ⟨ao, cap, rfl, hc⟩ := h.form
  rw [List.length_map, hl] at hc ⊢
  refine ⟨ao, cap, rfl, hc, fun i r hi => ?_⟩
  obtain ⟨u, hu⟩ : ∃ u, us[i]? = some u := get_some (by rw [hl]; exact (List.getElem?_eq_some_iff.1 hi).1)
  obtain ⟨g, cap', e1, hg, hcell, -⟩ := h.at (i := i) (cs := [u]) (by rw [List.getElem?_map, hu]; rfl)
  rw [List.length_map, hl] at e1
  cases e1
  exact ⟨g, 0, u, rfl, hS g rfl, by simpa using hcell 0 u rfl, hr i u r hu hi⟩
theorem cells_sto {w : World} {b : Nat} {cs : Array Value} {t : TypeId} (h : w.heap[b]? = some (.cells cs t (0, 0))) (i : Nat) (v : Value) : (w.setCell ⟨b, i, none⟩ v).heap[b]? = some (.cells (cs.setIfInBounds i v) t (0, 0)) := by
  simp [World.setCell, Array.getElem?_modify, h]
theorem get_snoc {α β : Type} {R : α → β → Prop} {us : List α} {xs : List β} (hl : us.length = xs.length) (h : ∀ (i : Nat) u x, us[i]? = some u → xs[i]? = some x → R u x) {u : α} {x : β} (hu : R u x) :
    ∀ (i : Nat) u' x', (us ++ [u])[i]? = some u' → (xs ++ [x])[i]? = some x' → R u' x' := by
  intro i u' x' h1 h2
  by_cases hi : i < us.length
  · rw [List.getElem?_append_left hi] at h1
    rw [List.getElem?_append_left (by omega)] at h2
    exact h i u' x' h1 h2
  · rw [List.getElem?_append_right (by omega)] at h1
    rw [List.getElem?_append_right (by omega), ← hl] at h2
    have hi' : i - us.length = 0 := by
      have := (List.getElem?_eq_some_iff.1 h1).1
      simp at this; omega
    rw [hi'] at h1 h2
    simp at h1 h2
    rw [← h1, ← h2]; exact hu
end Go.Proofs.YtmonhpoogfdpoaaGreat
