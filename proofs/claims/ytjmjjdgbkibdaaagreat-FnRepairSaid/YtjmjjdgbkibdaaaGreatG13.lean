/-
  Lists whose elements lead to memory, beside blocks that neither the list nor its elements touch.
  Walks of the generators hardModel, DrawSolve, DrawCountSolutions.
  Walk of the generator hardModel.
  Walks of the generators DrawSolve and DrawCountSolutions.
  Walks of the generators of models: smallModel, evenModel.
  Walks of the generators of the laws of symmetry.
-/
import Derived.Test.YtjmjjdgbkibdaaaGreatFP
import Derived.Test.YtjmjjdgbkibdaaaGreatG8
set_option linter.unusedVariables false
namespace Go.Proofs.YtjmjjdgbkibdaaaGreat
open Go.RowKit

/-- As OwnG; what its elements lead to lies in none of the blocks X. -/
def OwnGX {α : Type} (X : Nat → Prop) (size : Nat) (el : List Nat → World → List Value → α → Prop) (B : Nat) (w : World) (e : TypeId) (v : Value) (xs : List α) : Prop :=
  ∃ css : List (List Value), css.length = xs.length ∧ (∀ cs ∈ css, cs.length = size ∧ ∀ u ∈ cs, u.oneCell' = true) ∧ w.ownsRow B e size v xs.length css.flatten ∧ (∀ b, v.ownBlock = some b → ¬ X b) ∧
    ∀ (i : Nat) cs x, css[i]? = some cs → xs[i]? = some x → ∀ S : List Nat, (∀ b ∈ S, X b ∨ w.heap.size ≤ b ∨ v.ownBlock = some b) → el S w cs x
theorem OwnGX.ofG {α : Type} {X : Nat → Prop} {size : Nat} {el : List Nat → World → List Value → α → Prop} {B : Nat} {w : World} {e : TypeId} {v : Value} {xs : List α} (h : OwnG size el B w e v xs) (hX : ∀ b, X b → b < B ∨ w.heap.size ≤ b) : OwnGX X size el B w e v xs := by
  obtain ⟨css, h1, h2, h3, h4⟩ := h
  refine ⟨css, h1, h2, h3, fun b hb hXb => ?_, fun i cs x hi hx S hS => h4 i cs x hi hx S fun b hb => ?_⟩
  · have := ownsRow_ownBlock h3 hb
    have := hX b hXb
    omega
  · rcases hS b hb with h | h
    · rcases hX b h with h | h
      · exact .inl h
      · exact .inr (.inl h)
    · exact .inr h
theorem OwnGX.g {α : Type} {X : Nat → Prop} {size : Nat} {el : List Nat → World → List Value → α → Prop} {B : Nat} {w : World} {e : TypeId} {v : Value} {xs : List α} (h : OwnGX X size el B w e v xs) (hX : ∀ b, b < B → X b) : OwnG size el B w e v xs := by
  obtain ⟨css, h1, h2, h3, _, h4⟩ := h
  exact ⟨css, h1, h2, h3, fun i cs x hi hx S hS => h4 i cs x hi hx S fun b hb => (hS b hb).imp (hX b) id⟩
theorem OwnGX.gr {α : Type} {X : Nat → Prop} {size : Nat} {el : List Nat → World → List Value → α → Prop} (ok : ElOk el) {S : List Nat} {B : Nat} {w w' : World} {e : TypeId} {v : Value} {xs : List α} (h : OwnGX X size el B w e v xs) (hg : Gr S w w') (hS : ∀ b ∈ S, X b) : OwnGX X size el B w' e v xs := by
  obtain ⟨css, h1, h2, h3, h5, h4⟩ := h
  refine ⟨css, h1, h2, ?_, h5, fun i cs x hi hx S0 hS0 => ?_⟩
  · refine ⟨h3.1, ?_⟩
    rcases h3.2 with h | ⟨g, cap, cur, e1, hb, hgg, rest⟩
    · exact .inl h
    · exact .inr ⟨g, cap, cur, e1, hb, hg.obj hgg (fun hm => h5 g (by rw [e1]; rfl) (hS g hm)), rest⟩
  · have := h4 i cs x hi hx (S ++ S0) (by
      intro b hb
      rcases List.mem_append.1 hb with hb | hb
      · exact .inl (hS b hb)
      · rcases hS0 b hb with h | h | h
        · exact .inl h
        · exact .inr (.inl (Nat.le_trans hg.size h))
        · exact .inr (.inr h))
    exact ok.sub (ok.gr this (hg.sub (fun k _ hk => by simp [hk]))) (fun b _ hb => by simp [hb])
theorem OwnGX.slice {α : Type} {X : Nat → Prop} {size : Nat} {el : List Nat → World → List Value → α → Prop} {B : Nat} {w : World} {e : TypeId} {v : Value} {xs : List α} (h : OwnGX X size el B w e v xs) : ∃ ao cap, v = .slice ao xs.length cap ∧ xs.length ≤ cap ∧ cap ≤ 9223372036854775807 := by
  obtain ⟨css, h1, h2, h3, h4⟩ := h
  rcases h3.2 with ⟨e1, h5⟩ | ⟨g, cap, cur, e1, _, _, h6, h7, _⟩
  · exact ⟨none, 0, by rw [e1, h5], by omega, by omega⟩
  · exact ⟨_, _, e1, h6, by simp only [maxLen] at h7; omega⟩
theorem OwnGX.own {α : Type} {X : Nat → Prop} {size : Nat} {el : List Nat → World → List Value → α → Prop} {B : Nat} {w : World} {e : TypeId} {v : Value} {xs : List α} (h : OwnGX X size el B w e v xs) {b : Nat} (hb : v.ownBlock = some b) : ¬ X b ∧ B ≤ b ∧ b < w.heap.size :=
  let ⟨_, _, _, h3, h5, _⟩ := h; ⟨h5 b hb, ownsRow_ownBlock h3 hb⟩

/-- An append in a region that draws, and where the new list lies. -/
theorem step_appGX {α : Type} {P : Program} {w : World} {ops : Array Oper} {o : Oper} {a : Act} {K : Act → World → Prop} {Q : Exit → Act → World → Prop} {E : Prop} (hgd : o.guard = none) (s x : Operand) (t : TypeId)
    (ho : o.op = .call { callee := .builtin .append, args := #[s, x], argTypes := #[t, t] }) (size : Nat) (el : List Nat → World → List Value → α → Prop) (ok : ElOk el) (B : Nat) (e : TypeId) (z : Value) (bytes : Nat)
    (hinfo : (P.info? e).map (fun i => (i.zero, i.size, i.bytes)) = some (some z, size, bytes)) (hzs : z.cells.size = size) (hsz : 0 < size) (hby : bytes ≤ 100)
    (ht : P.underlying t = some (.slice e)) (v : Value) (xs : List α) (hs : a.eval s = v) (X : Nat → Prop) (hX : ∀ b, X b → b < w.heap.size) (hown : OwnGX X size el B w e v xs) (g c : Nat) (y : α) (cs : List Value) (hx : a.eval x = .slice (some ⟨g, 0, none⟩) 1 c)
    (hl : cs.length = size) (h1 : ∀ u ∈ cs, u.oneCell' = true) (hn : ∀ j u, cs[j]? = some u → w.cell? ⟨g, j, none⟩ = some u) (hel : ∀ S : List Nat, (∀ b ∈ S, X b ∨ w.heap.size ≤ b ∨ v.ownBlock = some b) → el S w cs y)
    (hlen : xs.length ≤ 10000000) (hB : B ≤ w.heap.size)
    (h : ∀ g' c' w', OwnGX X size el B w' e (.slice (some ⟨g', 0, none⟩) (xs.length + 1) c') (xs ++ [y]) → Gr v.ownBlock.toList w w' → (v.ownBlock = some g' ∨ w.heap.size ≤ g') → g' < w'.heap.size → K (a.put o.dst (.slice (some ⟨g', 0, none⟩) (xs.length + 1) c')) w') : if Region.wanted o (yielded ops a.tmps) = true then Oper.wp P o a w K Q else E := by
  obtain ⟨css, k1, k2, k3, k5, k4⟩ := hown
  obtain ⟨i0, hi, hz0, hz1, hz2⟩ := info_parts hinfo
  have hbb : (xs.length + 1) * bytes ≤ (xs.length + 1) * 100 := Nat.mul_le_mul_left _ hby
  refine step_append_lies w hgd s x t ho B e i0 z size bytes ht hi hz0 hz1 hz2 hzs hsz v xs.length css.flatten hs k3 ⟨g, 0, none⟩ 1 c cs hx (by rw [hl]; simp) ?_ h1 (by omega) (by simp only [maxLen]; omega) (by omega) hB w.heap.size rfl ?_
  · intro j u hj
    have : (⟨g, 0, none⟩ : Addr).add j = ⟨g, j, none⟩ := by unfold Addr.add; split <;> simp_all
    rw [this]; exact hn j u hj
  · intro g' cap' w' hown' hgrow hwhere hlt
    have hgr : Gr v.ownBlock.toList w w' := ⟨hgrow.os, hgrow.tape, hgrow.output, hgrow.size, fun k hk hs => hgrow.block k hk (fun e => hs (by rw [← e]; simp))⟩
    refine h _ _ _ ⟨css ++ [cs], by simp [k1], ?_, ?_, ?_, ?_⟩ hgr (hwhere.imp id (fun e => by omega)) hlt
    · intro c hc
      rcases List.mem_append.1 hc with hc | hc
      · exact k2 c hc
      · simp at hc; subst hc; exact ⟨hl, h1⟩
    · rw [List.flatten_append]; simpa using hown'
    · intro b hb hXb
      simp [Value.ownBlock] at hb; subst hb
      rcases hwhere with h | h
      · exact k5 _ h hXb
      · have := hX _ hXb; omega
    · have hcond : ∀ S : List Nat, (∀ b ∈ S, X b ∨ w'.heap.size ≤ b ∨ (Value.slice (some ⟨g', 0, none⟩) (xs.length + 1) cap').ownBlock = some b) → ∀ b ∈ v.ownBlock.toList ++ S, X b ∨ w.heap.size ≤ b ∨ v.ownBlock = some b := by
        intro S hS b hb
        rcases List.mem_append.1 hb with hb | hb
        · exact .inr (.inr (by simpa using hb))
        · rcases hS b hb with h | h | h
          · exact .inl h
          · exact .inr (.inl (Nat.le_trans hgr.size h))
          · simp [Value.ownBlock] at h
            subst h
            rcases hwhere with h | h
            · exact .inr (.inr h)
            · exact .inr (.inl (by omega))
      intro i c' x' hc hx' S hS
      have fin : ∀ c'' x'', el (v.ownBlock.toList ++ S) w c'' x'' → el S w' c'' x'' := fun c'' x'' h0 =>
        ok.sub (ok.gr h0 (hgr.sub (fun k _ hk => by simp at hk ⊢; exact .inl hk))) (fun b _ hb => by simp [hb])
      by_cases hlt : i < xs.length
      · rw [List.getElem?_append_left (by omega)] at hc
        rw [List.getElem?_append_left hlt] at hx'
        exact fin _ _ (k4 i c' x' hc hx' _ (hcond S hS))
      · have hi' : i = xs.length := by
          have := (List.getElem?_eq_some_iff.1 hx').1
          simp at this; omega
        subst hi'
        rw [List.getElem?_append_right (by omega), k1, Nat.sub_self] at hc
        rw [List.getElem?_append_right (by omega), Nat.sub_self] at hx'
        simp at hc hx'
        subst hc hx'
        exact fin _ _ (hel _ (hcond S hS))

end Go.Proofs.YtjmjjdgbkibdaaaGreat

set_option linter.unusedVariables false
namespace Go.Proofs.YtjmjjdgbkibdaaaGreat
open Go.RowKit

theorem allIndices_c (n : Nat) (hn : n ≤ 100) (w : World) :
    Calls Tryz.prog 180 #[.int .i64 n] w fun e w' => ∃ v xs, e = .returned v ∧ OwnC w.heap.size w' 3 v xs ∧ xs.length = n ∧ Gr [] w w' := by
  go_enter Tryz.func180, Tryz.ntmps180
  go_wp2_with fail
  go_loopw [3, 4] (fun v i wr => ∃ (k : Nat) (xs : List Int), k ≤ n ∧ i = .int .i64 k ∧ Own w.heap.size wr 3 v xs ∧ xs.length = k ∧ Gr [] w wr) (fun _ i _ => n - (intOf i).toNat)
  case atStart => exact ⟨0, [], by omega, rfl, Own.empty _ _ (Nat.le_refl _), rfl, (Gr.refl _ _).alloc _⟩
  case round =>
    obtain ⟨k, xs, hk, rfl, hown, hxl, hg⟩ := hrel
    have Hxl := hid hxl; have Hown := hid hown
    have hsz := hg.size
    clear hxl hown
    by_cases hlt : k < n
    · go_wp2_with (at_builtin; refine wp_app1 rfl _ _ 22 rfl w.heap.size 3 infoInt Tryz.underlying22 _ xs rfl (Hown.out.alloc _) _ 1 k rfl (cell_new _ _ _) (by have := Hxl.out; omega) (by simp <;> omega) ?_; intro v' w4 hown4 hb4)
      exact ⟨⟨k + 1, xs ++ [(k : Int)], by omega, by go_num, hown4, by rw [List.length_append, Hxl.out]; rfl, (hg.alloc _).low hb4 (Nat.le_refl _)⟩, by simp [intOf]; omega⟩
    · have hown := Hown.out
      go_wp2_with fail
      go_ret
      exact ⟨_, xs, rfl, hown.c, by rw [Hxl.out]; omega, hg⟩
end Go.Proofs.YtjmjjdgbkibdaaaGreat

set_option linter.unusedVariables false
namespace Go.Proofs.YtjmjjdgbkibdaaaGreat
open Go.RowKit

/-- What a generator of models leaves, with up to eight constraints. -/
def ModPostH (Pr : Con → Prop) (B R : Nat) (bs : List Int) (q : Nat) (w : World) (e : Ending) (w' : World) : Prop :=
  ∃ (m : Mod) (M : Nat) (ao : Option Addr) (ac : Nat) (co : Option Addr) (cc : Nat), e = .returned (.agg #[.slice ao m.doms.length ac, .slice co m.cons.length cc]) ∧
    Own B w' 3 (.slice ao m.doms.length ac) m.doms ∧ (∀ b, (Value.slice ao m.doms.length ac).ownBlock = some b → b < M) ∧ (B ≤ M ∧ M ≤ w'.heap.size) ∧
    OwnG 5 elCon M w' 55 (.slice co m.cons.length cc) m.cons ∧ (1 ≤ m.doms.length ∧ m.doms.length ≤ 4) ∧ m.cons.length ≤ 8 ∧ (∀ c ∈ m.cons, Pr c) ∧ Rd w' R bs q ∧ Gr [R] w w'
theorem ModPost.h {Pr : Con → Prop} {B R : Nat} {bs : List Int} {q : Nat} {w : World} {e : Ending} {w' : World} (h : ModPost Pr B R bs q w e w') : ModPostH Pr B R bs q w e w' := by
  obtain ⟨m, M, ao, ac, co, cc, h1, h2, h3, h4, h5, h6, h7, h8⟩ := h
  exact ⟨m, M, ao, ac, co, cc, h1, h2, h3, h4, h5, h6, by omega, h8⟩

end Go.Proofs.YtjmjjdgbkibdaaaGreat

set_option linter.unusedVariables false
namespace Go.Proofs.YtjmjjdgbkibdaaaGreat
open Go.RowKit

/-- A model in memory of the call's own. -/
def DrawPostF (w : World) (e : Ending) (w' : World) : Prop := ∃ (m : Mod) (mv : Value), e = .returned mv ∧ (∀ S : List Nat, (∀ b ∈ S, b < w.heap.size) → ModV S w' mv m) ∧ m.Small ∧ Gr [] w w'
theorem mod_small8 {m : Mod} (h1 : m.doms.length ≤ 4) (h2 : m.cons.length ≤ 8) (h3 : ∀ c ∈ m.cons, c.Small) : m.Small := ⟨by omega, by omega, fun c hc => h3 c hc⟩
theorem ModV.two {S : List Nat} {w : World} {v : Value} {m : Mod} (h : ModV S w v m) : ∃ a n b c k d, v = .agg #[.slice a n b, .slice c k d] := by
  obtain ⟨dv, cv, rfl, ⟨ao, ac, rfl, _⟩, ⟨co, cc, rfl, _⟩⟩ := h
  exact ⟨_, _, _, _, _, _, rfl⟩
end Go.Proofs.YtjmjjdgbkibdaaaGreat

set_option linter.unusedVariables false
set_option linter.unusedSimpArgs false
namespace Go.Proofs.YtjmjjdgbkibdaaaGreat
open Go.RowKit

/-- One constraint in a block of its own. -/
theorem oneCon {w : World} {t : TypeId} {xs : List Int} {vo : Option Addr} {vc B : Nat} (hB : B ≤ w.heap.size) (h : OwnC B w 3 (.slice vo xs.length vc) xs) :
    OwnG 5 elCon B (w.alloc (.cells #[.int .i64 3, .slice vo xs.length vc, .slice none 0 0, .int .i64 0, .slice none 0 0] t)) t (.slice (some ⟨w.heap.size, 0, none⟩) 1 1) [⟨3, xs, [], 0, []⟩] := by
  refine ⟨[[.int .i64 3, .slice vo xs.length vc, .slice none 0 0, .int .i64 0, .slice none 0 0]], rfl, by simp [Value.oneCell'], ⟨by simp, .inr ⟨w.heap.size, 1, _, rfl, hB, heap_alloc_new _ _, by simp, by simp [maxLen], by simp, by simp⟩⟩, ?_⟩
  intro i cs x hi hx S hS
  match i, hi, hx with
  | 0, hi, hx =>
    simp at hi hx
    subst hi hx
    have hg : Gr [] w (w.alloc (.cells #[.int .i64 3, .slice vo xs.length vc, .slice none 0 0, .int .i64 0, .slice none 0 0] t)) := (Gr.refl _ _).alloc _
    refine ⟨vo, vc, none, 0, none, 0, rfl, _, _, _, rfl, (h.nums' (S := S) (fun b hb => ?_)).gr hg.any, ⟨none, 0, rfl, by simp, fun i r h => by simp at h⟩, ⟨none, 0, rfl, by simp, fun i r h => by simp at h⟩⟩
    rcases hS b hb with h | h | h
    · exact .inl h
    · exact .inr (by simp at h; omega)
    · exact .inr (by simp [Value.ownBlock] at h; omega)
  | i + 1, hi, hx => simp at hi


set_option maxRecDepth 100000 in
set_option maxHeartbeats 4000000 in
theorem smallModel_c (R : Nat) (bs : List Int) (q : Nat) (w : World) (hr : Rd w R bs q) (hq : q ≤ 1000000) :
    Calls Tryz.prog 115 #[.pointer (some ⟨R, 0, none⟩)] w (ModPost SmallV w.heap.size R bs (q + 2000) w) := by
  have hRw := hr.lt
  have hg0 : Gr [] w (w.alloc (.cells #[.slice none 0 0, .slice none 0 0] 31)) := (Gr.refl _ _).alloc _
  have hr0 : (w.alloc (.cells #[.slice none 0 0, .slice none 0 0] 31)).heap[w.heap.size]? = some (.cells #[.slice none 0 0, .slice none 0 0] 31 (0, 0)) := heap_alloc_new _ _
  have Hg0 := hid hg0; have Hr0 := hid hr0; have Hr := hid hr
  clear hg0 hr0 hr
  go_enter Tryz.func115, Tryz.ntmps115
  go_wp2_with fail
  have hcall := anyModel_c R bs q _ (Hr.out.gr Hg0.out) (by omega)
  (with_reducible refine hcall.mono ?_)
  clear hcall
  rintro e w1 ⟨m, M, ao, dc, co, cc, rfl, hown, hdM, ⟨hM1, hM2⟩, hcs, ⟨hd1, hd4⟩, hc4, htv, hrd1, hg1⟩
  obtain ⟨gd, dc', e1, ⟨hgd1, hgd2⟩, _, _⟩ := hown.open (by omega)
  obtain ⟨rfl, rfl⟩ : ao = some ⟨gd, 0, none⟩ ∧ dc = dc' := by simpa using e1
  have hgdM : gd < M := hdM gd rfl
  have HdM := hid hdM
  clear e1 hdM
  simp only [World.size_alloc] at hgd1 hM1 hown
  have hrb1 := hg1.obj Hr0.out (by simp <;> omega)
  have hg01 := Hg0.out.any.trans hg1
  have ha2 : Gr [] w1 (w1.alloc (.cells #[.slice (some ⟨gd, 0, none⟩) m.doms.length dc, .slice co m.cons.length cc] 31)) := (Gr.refl _ _).alloc _
  have hb2 : (w1.alloc (.cells #[.slice (some ⟨gd, 0, none⟩) m.doms.length dc, .slice co m.cons.length cc] 31)).heap[w1.heap.size]? = some (.cells #[.slice (some ⟨gd, 0, none⟩) m.doms.length dc, .slice co m.cons.length cc] 31 (0, 0)) := heap_alloc_new _ _
  have Hown := hid hown; have Hcs := hid hcs; have Htv := hid htv; have Hrd1 := hid hrd1; have Hrb1 := hid hrb1; have Hg01 := hid hg01; have Ha2 := hid ha2; have Hb2 := hid hb2
  have hs1 := lt_of_block hrb1
  clear hown hcs htv hrd1 hrb1 hg01 ha2 hb2 hg1 Hg0 Hr0 Hr
  go_wp2_with fail
  generalize hW2 : w1.alloc (.cells #[.slice (some ⟨gd, 0, none⟩) m.doms.length dc, .slice co m.cons.length cc] 31) = w2 at *
  clear hW2
  have Hown2 := hid (Hown.out.gr Ha2.out (by simp)); have Hcs2 := hid (Hcs.out.gr elCon_ok Ha2.out (by simp)); have Hrd2 := hid (Hrd1.out.gr Ha2.out); have Hrb2 := hid (Ha2.out.obj Hrb1.out (by simp))
  have HG2 : Hid (Gr [R] w w2) := hid (Hg01.out.trans Ha2.out.any)
  have hs2 := Ha2.out.size
  clear Hown Hcs Hrd1 Hrb1 Hg01 Ha2
  go_loopw [4] (fun i wr => ∃ (k : Nat) (ds : List Int), i = .int .i64 k ∧ k ≤ m.doms.length ∧ ds.length = m.doms.length ∧ Own (w.heap.size + 1) wr 3 (.slice (some ⟨gd, 0, none⟩) m.doms.length dc) ds ∧ Gr [gd] w2 wr) (fun i _ => m.doms.length - (intOf i).toNat)
  case atStart => exact ⟨0, m.doms, rfl, Nat.zero_le _, rfl, Hown2.out, Gr.refl _ _⟩
  case round =>
    obtain ⟨k, ds, rfl, hk, hdl, hown, hg⟩ := hrel
    have hbr := hg.obj Hb2.out (by simp; omega)
    have flr := fld hbr
    have Hown' := hid hown; have Hg := hid hg
    have Hdl := hid hdl
    clear hown hg hbr
    by_cases hlt : k < m.doms.length
    · obtain ⟨d, hd⟩ := get_some (xs := ds) (k := k) (by omega)
      obtain ⟨hc1, hc2⟩ := Hown'.out.at hd
      clear hd hdl
      go_wp2_with fail
      have hcall := validDomain_c d wr
      (with_reducible refine hcall.mono ?_)
      clear hcall
      rintro e w4 ⟨rfl, rfl⟩
      cases hval : inB 0 63 d
      · go_wp2_with fail
        exact ⟨⟨k + 1, ds, by go_num, by omega, Hdl.out, Hown'.out, Hg.out⟩, by simp [intOf]; omega⟩
      · go_wp2_with fail
        go_region_law (first | (go_simp; go_at_call 172; refine (DomainRange_c 0 3 _).mono ?_; rintro e w6 ⟨⟨d6, rfl, hd60, hd63⟩, rfl⟩))
        all_goals
          go_wp2_with fail
          exact ⟨⟨k + 1, ds.set k _, by go_num, by omega, by rw [List.length_set]; exact Hdl.out, (Hown'.out.drew).set k _ (by have := Hdl.out; omega), (Hg.out.drew).setCell _ _ (.inl (by simp))⟩, by simp [intOf]; omega⟩
    · go_wp2_with ((with_reducible show wpList _ _ _ (⟨none, Op.store _ (Operand.tmp 2) (Operand.tmp 31), _, _, _, none⟩ :: _) _ _); refine wp_storeT 31 2 31 w.heap.size #[.slice (some ⟨gd, 0, none⟩) m.doms.length dc, .slice co m.cons.length cc] 31 #[.slice none 0 0, .slice none 0 0] (Hg.out.obj Hrb2.out (by simp; omega)) ⟨sizeM, rfl, rfl, rfl, one2 _ _ _ _ _ _⟩ ?_; intro wE hbE hgE)
      have flE := fld hbE
      refine bodyPost_ret (v := .agg #[.slice (some ⟨gd, 0, none⟩) m.doms.length dc, .slice co m.cons.length cc]) ?_ rfl ?_
      · simp [results, Tryz.results115, go_sem, flE]
      · have hsE := hgE.size
        have hsL := Hg.out.size
        have hcE := OwnG.gr elCon_ok (OwnG.gr elCon_ok Hcs2.out Hg.out (by simp; omega)) hgE (by simp <;> omega)
        have hdE := Own.gr Hown'.out hgE (by simp <;> omega)
        rw [← Hdl.out] at hdE HdM ⊢
        refine ⟨⟨ds, m.cons⟩, M, _, _, _, _, rfl, hdE.le (by omega), HdM.out, ⟨by omega, by omega⟩, hcE, ⟨by simpa [Hdl.out] using hd1, by simpa [Hdl.out] using hd4⟩, hc4, Htv.out, ((Hrd2.out.grS Hg.out (by simp; omega)).grS hgE (by simp <;> omega)), ?_⟩
        exact (HG2.out.step Hg.out (fun i hi => .inr (by simp at hi; omega))).step hgE (fun i hi => .inr (by simp at hi; omega))


set_option maxRecDepth 100000 in
set_option maxHeartbeats 4000000 in
theorem evenModel_c (R : Nat) (bs : List Int) (q : Nat) (w : World) (hr : Rd w R bs q) (hq : q ≤ 1000000) :
    Calls Tryz.prog 130 #[.pointer (some ⟨R, 0, none⟩)] w (ModPost SmallV w.heap.size R bs (q + 2002) w) := by
  have hRw := hr.lt
  have hg0 : Gr [] w (w.alloc (.cells #[.slice none 0 0, .slice none 0 0] 31)) := (Gr.refl _ _).alloc _
  have hr0 : (w.alloc (.cells #[.slice none 0 0, .slice none 0 0] 31)).heap[w.heap.size]? = some (.cells #[.slice none 0 0, .slice none 0 0] 31 (0, 0)) := heap_alloc_new _ _
  have Hg0 := hid hg0; have Hr0 := hid hr0; have Hr := hid hr
  clear hg0 hr0 hr
  go_enter Tryz.func130, Tryz.ntmps130
  go_wp2_with fail
  have hcall := smallModel_c R bs q _ (Hr.out.gr Hg0.out) (by omega)
  (with_reducible refine hcall.mono ?_)
  clear hcall
  rintro e w1 ⟨m, M, ao, dc, co, cc, rfl, hown, hdM, ⟨hM1, hM2⟩, hcs, ⟨hd1, hd4⟩, hc4, htv, hrd1, hg1⟩
  obtain ⟨gd, dc', e1, ⟨hgd1, hgd2⟩, _, _⟩ := hown.open (by omega)
  obtain ⟨rfl, rfl⟩ : ao = some ⟨gd, 0, none⟩ ∧ dc = dc' := by simpa using e1
  have hgdM : gd < M := hdM gd rfl
  have HdM := hid hdM
  clear e1 hdM
  simp only [World.size_alloc] at hgd1 hM1 hown
  have hrb1 := hg1.obj Hr0.out (by simp <;> omega)
  have hg01 := Hg0.out.any.trans hg1
  have ha2 : Gr [] w1 (w1.alloc (.cells #[.slice (some ⟨gd, 0, none⟩) m.doms.length dc, .slice co m.cons.length cc] 31)) := (Gr.refl _ _).alloc _
  have hb2 : (w1.alloc (.cells #[.slice (some ⟨gd, 0, none⟩) m.doms.length dc, .slice co m.cons.length cc] 31)).heap[w1.heap.size]? = some (.cells #[.slice (some ⟨gd, 0, none⟩) m.doms.length dc, .slice co m.cons.length cc] 31 (0, 0)) := heap_alloc_new _ _
  have Hown := hid hown; have Hcs := hid hcs; have Htv := hid htv; have Hrd1 := hid hrd1; have Hrb1 := hid hrb1; have Hg01 := hid hg01; have Ha2 := hid ha2; have Hb2 := hid hb2
  have hs1 := lt_of_block hrb1
  clear hown hcs htv hrd1 hrb1 hg01 ha2 hb2 hg1 Hg0 Hr0 Hr
  go_wp2_with fail
  generalize hW2 : w1.alloc (.cells #[.slice (some ⟨gd, 0, none⟩) m.doms.length dc, .slice co m.cons.length cc] 31) = w2 at *
  clear hW2
  have Hown2 := hid (Hown.out.gr Ha2.out (by simp)); have Hcs2 := hid (Hcs.out.gr elCon_ok Ha2.out (by simp)); have Hrd2 := hid (Hrd1.out.gr Ha2.out); have Hrb2 := hid (Ha2.out.obj Hrb1.out (by simp))
  have HG2 : Hid (Gr [R] w w2) := hid (Hg01.out.trans Ha2.out.any)
  have hs2 := Ha2.out.size
  clear Hown Hcs Hrd1 Hrb1 Hg01 Ha2
  have hcall := pick_c R bs (q + 2000) 2 _ Hrd2.out (by omega) (by omega)
  (with_reducible refine hcall.mono ?_)
  clear hcall
  rintro e w3 ⟨⟨r3, rfl, hr30, hr3n⟩, hrd3, hg3⟩
  have HG3 : Hid (Gr [R] w w3) := hid (HG2.out.trans hg3)
  have Hrd3 := hid hrd3
  have Hown3 := hid (Hown2.out.gr hg3 (by simp; omega)); have Hcs3 := hid (Hcs2.out.gr elCon_ok hg3 (by simp; omega))
  have Hrb3 := hid (hg3.obj Hrb2.out (by simp; omega)); have Hb3 := hid (hg3.obj Hb2.out (by simp; omega))
  have fl3 := fld Hb3.out
  have hs3 := hg3.size
  clear hrd3 hg3 Hown2 Hcs2 Hrd2 Hrb2 Hb2 HG2
  cases h0 : (r3 == 0)
  · obtain ⟨ds, hds⟩ : ∃ ds, ds = m.doms := ⟨_, rfl⟩
    have Hdl : Hid (ds.length = m.doms.length) := hid (by rw [hds])
    rw [← hds] at Hown3
    clear hds
    go_wp2_with ((with_reducible show wpList _ _ _ (⟨none, Op.store _ (Operand.tmp 2) (Operand.tmp 35), _, _, _, none⟩ :: _) _ _); refine wp_storeT 31 2 35 w.heap.size #[.slice (some ⟨gd, 0, none⟩) m.doms.length dc, .slice co m.cons.length cc] 31 #[.slice none 0 0, .slice none 0 0] Hrb3.out ⟨sizeM, rfl, rfl, rfl, one2 _ _ _ _ _ _⟩ ?_; intro wE hbE hgE)
    have flE := fld hbE
    refine bodyPost_ret (v := .agg #[.slice (some ⟨gd, 0, none⟩) m.doms.length dc, .slice co m.cons.length cc]) ?_ rfl ?_
    · simp [results, Tryz.results130, go_sem, flE]
    · have hsE := hgE.size
      have hcE := OwnG.gr elCon_ok Hcs3.out hgE (by simp <;> omega)
      have hdE := Own.gr Hown3.out hgE (by simp <;> omega)
      rw [← Hdl.out] at HdM ⊢
      refine ⟨⟨ds, m.cons⟩, M, _, _, _, _, rfl, hdE.le (by omega), HdM.out, ⟨by omega, by omega⟩, hcE, ⟨by simpa [Hdl.out] using hd1, by simpa [Hdl.out] using hd4⟩, hc4, Htv.out, (Hrd3.out.grS hgE (by simp <;> omega)).le (by omega), ?_⟩
      exact HG3.out.step hgE (fun i hi => .inr (by simp at hi; omega))
  · go_wp2_with fail
    go_loopw [4] (fun i wr => ∃ (k : Nat) (ds : List Int), i = .int .i64 k ∧ (1 ≤ k ∧ k ≤ m.doms.length) ∧ ds.length = m.doms.length ∧ Own (w.heap.size + 1) wr 3 (.slice (some ⟨gd, 0, none⟩) m.doms.length dc) ds ∧ Gr [gd] w3 wr) (fun i _ => m.doms.length - (intOf i).toNat)
    case atStart => exact ⟨1, m.doms, rfl, ⟨by omega, hd1⟩, rfl, Hown3.out, Gr.refl _ _⟩
    case round =>
      obtain ⟨k, ds, rfl, ⟨hk1, hk⟩, hdl, hown, hg⟩ := hrel
      have hbr := hg.obj Hb3.out (by simp; omega)
      have flr := fld hbr
      have Hown' := hid hown; have Hg := hid hg; have Hbr := hid hbr
      have Hdl := hid hdl
      have hsr := hg.size
      clear hown hg hbr fl3
      by_cases hlt : k < m.doms.length
      · obtain ⟨d, hd⟩ := get_some (xs := ds) (k := k) (by omega)
        obtain ⟨hc1, hc2⟩ := Hown'.out.at hd
        obtain ⟨d0, hd0⟩ := get_some (xs := ds) (k := 0) (by omega)
        obtain ⟨hc3, hc5⟩ := Hown'.out.at hd0
        clear hd hd0 hdl
        go_wp2_with fail
        go_region
        all_goals go_wp2_with fail
        all_goals
          exact ⟨⟨k + 1, ds.set k d0, by go_num, ⟨by omega, by omega⟩, by rw [List.length_set]; exact Hdl.out, ((Hown'.out.set k d0 (by have := Hdl.out; omega)).drew), (Hg.out.setCell _ _ (.inl (by simp))).drew⟩, by simp [intOf]; omega⟩
      · clear hdl
        have HGr : Hid (Gr [R] w wr) := hid (HG3.out.step Hg.out (fun i hi => .inr (by simp at hi; omega)))
        go_wp2_with fail
        have hcall := pick_c R bs (q + 2001) 2 _ (Hrd3.out.grS Hg.out (by simp; omega)) (by omega) (by omega)
        (with_reducible refine hcall.mono ?_)
        clear hcall
        rintro e w5 ⟨⟨r5, rfl, hr50, hr5n⟩, hrd5, hg5⟩
        have HG5 : Hid (Gr [R] w w5) := hid (HGr.out.trans hg5)
        have Hrd5 := hid hrd5
        have Hown5 := hid (Hown'.out.gr hg5 (by simp; omega)); have Hcs5 := hid ((Hcs3.out.gr elCon_ok Hg.out (by simp; omega)).gr elCon_ok hg5 (by simp; omega))
        have Hrb5 := hid (hg5.obj (Hg.out.obj Hrb3.out (by simp; omega)) (by simp; omega)); have Hb5 := hid (hg5.obj Hbr.out (by simp; omega))
        have fl5 := fld Hb5.out
        have ff5 := fldF Hb5.out
        have hs5 := hg5.size
        clear hrd5 hg5 flr
        cases h1 : (r5 == 0)
        · skip
          go_wp2_with ((with_reducible show wpList _ _ _ (⟨none, Op.store _ (Operand.tmp 2) (Operand.tmp 35), _, _, _, none⟩ :: _) _ _); refine wp_storeT 31 2 35 w.heap.size #[.slice (some ⟨gd, 0, none⟩) m.doms.length dc, .slice co m.cons.length cc] 31 #[.slice none 0 0, .slice none 0 0] Hrb5.out ⟨sizeM, rfl, rfl, rfl, one2 _ _ _ _ _ _⟩ ?_; intro wE hbE hgE)
          have flE := fld hbE
          refine bodyPost_ret (v := .agg #[.slice (some ⟨gd, 0, none⟩) m.doms.length dc, .slice co m.cons.length cc]) ?_ rfl ?_
          · simp [results, Tryz.results130, go_sem, flE]
          · have hsE := hgE.size
            have hcE := OwnG.gr elCon_ok Hcs5.out hgE (by simp <;> omega)
            have hdE := Own.gr Hown5.out hgE (by simp <;> omega)
            rw [← Hdl.out] at hdE HdM ⊢
            refine ⟨⟨ds, m.cons⟩, M, _, _, _, _, rfl, hdE.le (by omega), HdM.out, ⟨by omega, by omega⟩, hcE, ⟨by simpa [Hdl.out] using hd1, by simpa [Hdl.out] using hd4⟩, hc4, Htv.out, (Hrd5.out.grS hgE (by simp <;> omega)).le (by omega), ?_⟩
            exact HG5.out.step hgE (fun i hi => .inr (by simp at hi; omega))
        · go_wp2_with fail
          have hcall := allIndices_c m.doms.length (by omega) w5
          (with_reducible refine hcall.mono ?_)
          clear hcall
          rintro e w6 ⟨v6, xs, rfl, hown6, hxl, hg6⟩
          obtain ⟨vo, vc, rfl, -, -⟩ := hown6.nums' (S := []) (by simp)
          have hb6 := hg6.obj Hb5.out (by simp)
          have fl6 := fld hb6
          have ff6 := fldF hb6
          have hs6 := hg6.size
          have hlt6 := lt_of_block hb6
          have Hb6 := hid hb6; have Hown6 := hid hown6; have Hxl := hid hxl; have Hg6 := hid hg6
          have Hrb6 := hid (hg6.obj Hrb5.out (by simp))
          have hlt5 := lt_of_block Hb5.out
          have hw15 : w.heap.size < w5.heap.size := lt_of_block Hrb5.out
          have hw1w : w.heap.size < w1.heap.size := hs1
          clear hb6 hown6 hxl hg6 fl5 ff5
          go_wp2_with ((with_reducible show wpList _ _ _ (⟨none, Op.store _ (Operand.tmp 2) (Operand.tmp 35), _, _, _, none⟩ :: _) _ _); refine wp_storeT 31 2 35 w.heap.size #[.slice (some ⟨gd, 0, none⟩) m.doms.length dc, .slice (some ⟨w6.heap.size, 0, none⟩) 1 1] 31 #[.slice none 0 0, .slice none 0 0] (Gr.obj (S := [w1.heap.size]) (w := w6) (by first | exact (Gr.cell1 _ _ _ _ (by simp)).alloc _ | exact ((Gr.refl _ _).alloc _).setCell _ _ (.inl (by simp))) Hrb6.out (by simp; omega)) ⟨sizeM, rfl, rfl, rfl, one2 _ _ _ _ _ _⟩ ?_; intro wE hbE hgE)
          have hgs : Gr [w1.heap.size] w6 (w6.setCell ⟨w1.heap.size, 1, none⟩ (.slice (some ⟨w6.heap.size, 0, none⟩) 1 1)) := Gr.cell1 _ _ _ _ (by simp)
          have hb7 := block_cells (cur' := #[]) Hb6.out 1 (.slice (some ⟨w6.heap.size, 0, none⟩) 1 1)
          have hsz7 : (w6.setCell ⟨w1.heap.size, 1, none⟩ (.slice (some ⟨w6.heap.size, 0, none⟩) 1 1)).heap.size = w6.heap.size := by simp
          generalize hW7 : w6.setCell ⟨w1.heap.size, 1, none⟩ (.slice (some ⟨w6.heap.size, 0, none⟩) 1 1) = w7 at *
          have hone := oneCon (w := w7) (t := 55) (xs := xs) (vo := vo) (vc := vc) (B := w5.heap.size) (by omega) (Hown6.out.gr hgs (by simp; omega))
          rw [hsz7] at hone
          have ha8 : Gr [] w7 (w7.alloc (.cells #[.int .i64 3, .slice vo xs.length vc, .slice none 0 0, .int .i64 0, .slice none 0 0] 55)) := (Gr.refl _ _).alloc _
          have hb8 := ha8.obj hb7 (by simp)
          generalize hW8 : w7.alloc (.cells #[.int .i64 3, .slice vo xs.length vc, .slice none 0 0, .int .i64 0, .slice none 0 0] 55) = w8 at *
          have fl8 := fld hb8
          have hg68 : Gr [w1.heap.size] w6 w8 := hgs.trans ha8.any
          have hg58 : Gr [w1.heap.size] w5 w8 := Hg6.out.any.trans hg68
          have hs8 := hg58.size
          have hs78 := ha8.size
          have Hone8 := hid hone
          have Hown8 := hid (Hown5.out.keep hg58 (by simp; omega))
          have Hrb8 := hid (hg58.obj Hrb5.out (by simp; omega))
          have Hrd8 := hid (Hrd5.out.grS hg58 (by simp; omega))
          have HG8 : Hid (Gr [R] w w8) := hid (HG5.out.step hg58 (fun i hi => .inr (by simp at hi; omega)))
          have hM5 : M ≤ w5.heap.size := by omega
          clear hW7 hW8 hgs ha8 hg68 hg58 hone hb7
          have flE := fld hbE
          refine bodyPost_ret (v := .agg #[.slice (some ⟨gd, 0, none⟩) m.doms.length dc, .slice (some ⟨w6.heap.size, 0, none⟩) 1 1]) ?_ rfl ?_
          · simp [results, Tryz.results130, go_sem, flE]
          · have hsE := hgE.size
            have hcE := OwnG.gr elCon_ok Hone8.out hgE (by simp <;> omega)
            have hdE := Own.gr Hown8.out hgE (by simp <;> omega)
            rw [← Hdl.out] at hdE HdM ⊢
            refine ⟨⟨ds, [⟨3, xs, [], 0, []⟩]⟩, w5.heap.size, _, _, _, _, rfl, hdE.le (by omega), (fun b hb => Nat.lt_of_lt_of_le (HdM.out b hb) hM5), ⟨by omega, by omega⟩, hcE, ⟨by simpa [Hdl.out] using hd1, by simpa [Hdl.out] using hd4⟩, (by simp), (fun c hc => by simp at hc; subst hc; exact ⟨by have := Hxl.out; constructor <;> simp <;> omega, by have := Hxl.out; simp; omega⟩), (Hrd8.out.grS hgE (by simp <;> omega)).le (by omega), ?_⟩
            exact HG8.out.step hgE (fun i hi => .inr (by simp at hi; omega))

end Go.Proofs.YtjmjjdgbkibdaaaGreat

set_option linter.unusedVariables false
set_option linter.unusedSimpArgs false
namespace Go.Proofs.YtjmjjdgbkibdaaaGreat
open Go.RowKit


set_option maxRecDepth 100000 in
set_option maxHeartbeats 4000000 in
theorem DrawIsVariableSymmetry_c (v : Value) (bs : List Int) (w : World) (ao : Option Addr) (cap : Nat) (hv : v = .slice ao bs.length cap) (hlen : bs.length ≤ 9223372036854775807) (hcap : bs.length ≤ cap) (hc : Cells [] w .u8 ao bs) (hb : ∀ b ∈ bs, 0 ≤ b ∧ b ≤ 255) :
    Calls Tryz.prog 70 #[v] w fun e w' => ∃ (m : Mod) (mv : Value) (i j : Int), e = .returned (.tuple #[mv, .int .i64 i, .int .i64 j]) ∧ ModV [] w' mv m ∧ m.Small ∧ (-1 ≤ i ∧ i ≤ 6) ∧ (0 ≤ j ∧ j ≤ 6) ∧ Gr [] w w' := by
  subst hv
  have Hc := hid hc; have Hb := hid hb; clear hc hb
  have hg0 : Gr [] w (w.alloc (.cells #[.slice none 0 0, .slice none 0 0] 31)) := (Gr.refl _ _).alloc _
  have hr0 : (w.alloc (.cells #[.slice none 0 0, .slice none 0 0] 31)).heap[w.heap.size]? = some (.cells #[.slice none 0 0, .slice none 0 0] 31 (0, 0)) := heap_alloc_new _ _
  have Hr0 := hid hr0; have Hg0 := hid hg0; clear hr0 hg0
  go_enter Tryz.func70, Tryz.ntmps70
  go_wp2_with fail
  have hcall := newReader_c _ bs _ ao cap rfl hlen hcap (Hc.out.gr Hg0.out) Hb.out
  (with_reducible refine hcall.mono ?_)
  clear hcall
  rintro e w1 ⟨⟨R, cs, rfl, hR, hrd1⟩, hg1⟩
  go_wp2_with fail
  have hcall := evenModel_c R cs 0 _ hrd1 (by omega)
  (with_reducible refine hcall.mono ?_)
  clear hcall
  rintro e w2 ⟨m, M, bo, ac, co, cc, rfl, hown, hdM, ⟨hM1, hM2⟩, hcs, ⟨hd1, hd4⟩, hc4, htv, hrd2, hg2⟩
  simp only [World.size_alloc] at hR
  have hRw1 := hrd1.lt
  have hr2 := hg2.obj (hg1.obj Hr0.out (by simp)) (by simp; omega)
  have hmv := ModPost.modv (S := [w.heap.size, w2.heap.size, R]) (by have := hg1.size; simp at this ⊢; omega) hM1 hown hcs
  have hms := mod_small hd4 hc4 htv
  have HG : Hid (Gr [] w w2) := hid ((Hg0.out.trans hg1).step hg2 (fun i hi => .inr (by simp at hi; omega)))
  have hRl := hrd2.lt
  have ha3 : Gr [] w2 (w2.alloc (.cells #[.slice bo m.doms.length ac, .slice co m.cons.length cc] 31)) := (Gr.refl _ _).alloc _
  have hb3 : (w2.alloc (.cells #[.slice bo m.doms.length ac, .slice co m.cons.length cc] 31)).heap[w2.heap.size]? = some (.cells #[.slice bo m.doms.length ac, .slice co m.cons.length cc] 31 (0, 0)) := heap_alloc_new _ _
  have Hmv := hid (hmv.gr ha3.any); have Hms := hid hms; have Hr3 := hid (ha3.obj hr2 (by simp)); have Hrd3 := hid (hrd2.gr ha3); have Hb3 := hid hb3
  have HG3 := hid (HG.out.trans ha3)
  have hwl := lt_of_block hr2
  clear hown hcs htv hr2 hg1 hg2 hrd1 hrd2 hmv hms ha3 hb3 HG hdM
  go_wp2_with fail
  have hcall := pick_c R cs (0 + 2002) ((m.doms.length : Int) + 2) _ Hrd3.out (by omega) (by omega)
  (with_reducible refine hcall.mono ?_)
  clear hcall
  rintro e w4 ⟨⟨r4, rfl, hr40, hr4n⟩, hrd4, hg4⟩
  have HG4 : Hid (Gr [] w w4) := hid (HG3.out.step hg4 (fun i hi => .inr (by simp at hi; omega)))
  have Hmv4 := hid (Hmv.out.gr (hg4.sub (fun k _ hk => by simp at hk ⊢; exact .inr (.inr hk)))); have Hr4 := hid (hg4.obj Hr3.out (by simp; omega)); have Hb4 := hid (hg4.obj Hb3.out (by simp; omega)); have Hrd4 := hid hrd4
  have fl4 := fld Hb4.out
  have hs4 := lt_of_block Hb4.out
  have hr4' : r4 ≤ 5 := by omega
  clear hg4 hrd4 Hmv Hr3 Hrd3 Hb3 HG3 hr4n
  have flr := fld Hr4.out; have ffr := fldF Hr4.out
  go_wp2_with fail
  go_region_law (first | (go_simp; go_at_call 121; refine (pick_c R cs (0 + 2002 + 1) m.doms.length _ (Hrd4.out.gr ((Gr.refl [] _).drew)) (by omega) (by omega)).mono ?_; rintro e w6 ⟨⟨r6, rfl, hr60, hr6n⟩, hrd6, hg6⟩; have HS6 : Hid (Gr [R] w4 w6) := hid (Gr.trans (a := w4) (Gr.any ((Gr.refl [] _).drew)) hg6); have Hr6 := hid (HS6.out.obj Hr4.out (by simp; omega)); have fl6 := fld (HS6.out.obj Hb4.out (by simp; omega)); have flr6 := fld Hr6.out; have ffr6 := fldF Hr6.out; have hr6' : r6 ≤ 5 := (by omega); clear hg6 hrd6 hr6n))
  all_goals
    go_wp2_with fail
    have hbE := block_cells (cur' := #[]) (block_cells (cur' := #[]) Hr6.out 0 (.slice bo m.doms.length ac)) 1 (.slice co m.cons.length cc)
    have flE := fld hbE
    refine bodyPost_ret (v := .tuple #[.agg #[.slice bo m.doms.length ac, .slice co m.cons.length cc], .int .i64 (r4 - 1), .int .i64 r6]) ?_ rfl ?_
    · simp [results, Tryz.results70, go_sem, flE]
    · have hgE : Gr [w.heap.size, w2.heap.size, R] w4 ((w6.setCell ⟨w.heap.size, 0, none⟩ (.slice bo m.doms.length ac)).setCell ⟨w.heap.size, 1, none⟩ (.slice co m.cons.length cc)) :=
        ((HS6.out.sub (fun k _ hk => by simp at hk ⊢; exact .inr (.inr hk))).setCell _ _ (.inl (by simp))).setCell _ _ (.inl (by simp))
      exact ⟨m, _, r4 - 1, r6, rfl, (Hmv4.out.gr hgE).sub0, Hms.out, by omega, by omega, HG4.out.step hgE (fun i hi => .inr (by simp at hi; omega))⟩



set_option maxRecDepth 100000 in
set_option maxHeartbeats 1000000 in
theorem DrawVariableOrbits_c (v : Value) (bs : List Int) (w : World) (ao : Option Addr) (cap : Nat) (hv : v = .slice ao bs.length cap) (hlen : bs.length ≤ 9223372036854775807) (hcap : bs.length ≤ cap) (hc : Cells [] w .u8 ao bs) (hb : ∀ b ∈ bs, 0 ≤ b ∧ b ≤ 255) :
    Calls Tryz.prog 57 #[v] w (DrawPost w) := by
  subst hv
  have Hc := hid hc; have Hb := hid hb; clear hc hb
  have hg0 : Gr [] w (w.alloc (.cells #[.slice none 0 0, .slice none 0 0] 31)) := (Gr.refl _ _).alloc _
  have hr0 : (w.alloc (.cells #[.slice none 0 0, .slice none 0 0] 31)).heap[w.heap.size]? = some (.cells #[.slice none 0 0, .slice none 0 0] 31 (0, 0)) := heap_alloc_new _ _
  have Hr0 := hid hr0; have Hg0 := hid hg0; clear hr0 hg0
  go_enter Tryz.func57, Tryz.ntmps57
  go_wp2_with fail
  have hcall := newReader_c _ bs _ ao cap rfl hlen hcap (Hc.out.gr Hg0.out) Hb.out
  (with_reducible refine hcall.mono ?_)
  clear hcall
  rintro e w1 ⟨⟨R, cs, rfl, hR, hrd1⟩, hg1⟩
  go_wp2_with fail
  have hcall := evenModel_c R cs 0 _ hrd1 (by omega)
  (with_reducible refine hcall.mono ?_)
  clear hcall
  rintro e w2 ⟨m, M, bo, ac, co, cc, rfl, hown, hdM, ⟨hM1, hM2⟩, hcs, ⟨hd1, hd4⟩, hc4, htv, hrd2, hg2⟩
  simp only [World.size_alloc] at hR
  have hr2 := hg2.obj (hg1.obj Hr0.out (by simp)) (by simp; omega)
  have Hown := hid hown; have Hcs := hid hcs; have Htv := hid htv; have Hr2 := hid hr2
  have HG : Hid (Gr [] w w2) := hid ((Hg0.out.trans hg1).step hg2 (fun i hi => .inr (by simp at hi; omega)))
  have hsz := (hg1.trans (Gr.refl _ _)).size
  simp only [World.size_alloc] at hsz
  clear hown hcs htv hr2 hg1 hg2 hrd1 hrd2
  go_wp2_with ((with_reducible show wpList _ _ _ (⟨none, Op.store _ (Operand.tmp 2) (Operand.tmp 5), _, _, _, none⟩ :: _) _ _); refine wp_storeT 31 2 5 w.heap.size #[.slice bo m.doms.length ac, .slice co m.cons.length cc] 31 #[.slice none 0 0, .slice none 0 0] Hr2.out ⟨sizeM, rfl, rfl, rfl, one2 _ _ _ _ _ _⟩ ?_; intro wE hbE hgE)
  have flE := fld hbE
  refine bodyPost_ret (v := .agg #[.slice bo m.doms.length ac, .slice co m.cons.length cc]) ?_ rfl ?_
  · simp [results, Tryz.results57, go_sem, flE]
  · exact ⟨m, _, rfl, ModPost.modv (by simp) hM1 (Hown.out.gr hgE (by simp; omega)) (Hcs.out.gr elCon_ok hgE (by simp; omega)), mod_small hd4 hc4 Htv.out, HG.out.step hgE (fun i hi => .inr (by simp at hi; omega))⟩


set_option maxRecDepth 100000 in
set_option maxHeartbeats 1000000 in
theorem DrawCanonicalSolutions_c (v : Value) (bs : List Int) (w : World) (ao : Option Addr) (cap : Nat) (hv : v = .slice ao bs.length cap) (hlen : bs.length ≤ 9223372036854775807) (hcap : bs.length ≤ cap) (hc : Cells [] w .u8 ao bs) (hb : ∀ b ∈ bs, 0 ≤ b ∧ b ≤ 255) :
    Calls Tryz.prog 69 #[v] w (DrawPost w) := by
  subst hv
  have Hc := hid hc; have Hb := hid hb; clear hc hb
  have hg0 : Gr [] w (w.alloc (.cells #[.slice none 0 0, .slice none 0 0] 31)) := (Gr.refl _ _).alloc _
  have hr0 : (w.alloc (.cells #[.slice none 0 0, .slice none 0 0] 31)).heap[w.heap.size]? = some (.cells #[.slice none 0 0, .slice none 0 0] 31 (0, 0)) := heap_alloc_new _ _
  have Hr0 := hid hr0; have Hg0 := hid hg0; clear hr0 hg0
  go_enter Tryz.func69, Tryz.ntmps69
  go_wp2_with fail
  have hcall := newReader_c _ bs _ ao cap rfl hlen hcap (Hc.out.gr Hg0.out) Hb.out
  (with_reducible refine hcall.mono ?_)
  clear hcall
  rintro e w1 ⟨⟨R, cs, rfl, hR, hrd1⟩, hg1⟩
  go_wp2_with fail
  have hcall := evenModel_c R cs 0 _ hrd1 (by omega)
  (with_reducible refine hcall.mono ?_)
  clear hcall
  rintro e w2 ⟨m, M, bo, ac, co, cc, rfl, hown, hdM, ⟨hM1, hM2⟩, hcs, ⟨hd1, hd4⟩, hc4, htv, hrd2, hg2⟩
  simp only [World.size_alloc] at hR
  have hr2 := hg2.obj (hg1.obj Hr0.out (by simp)) (by simp; omega)
  have Hown := hid hown; have Hcs := hid hcs; have Htv := hid htv; have Hr2 := hid hr2
  have HG : Hid (Gr [] w w2) := hid ((Hg0.out.trans hg1).step hg2 (fun i hi => .inr (by simp at hi; omega)))
  have hsz := (hg1.trans (Gr.refl _ _)).size
  simp only [World.size_alloc] at hsz
  clear hown hcs htv hr2 hg1 hg2 hrd1 hrd2
  go_wp2_with ((with_reducible show wpList _ _ _ (⟨none, Op.store _ (Operand.tmp 2) (Operand.tmp 5), _, _, _, none⟩ :: _) _ _); refine wp_storeT 31 2 5 w.heap.size #[.slice bo m.doms.length ac, .slice co m.cons.length cc] 31 #[.slice none 0 0, .slice none 0 0] Hr2.out ⟨sizeM, rfl, rfl, rfl, one2 _ _ _ _ _ _⟩ ?_; intro wE hbE hgE)
  have flE := fld hbE
  refine bodyPost_ret (v := .agg #[.slice bo m.doms.length ac, .slice co m.cons.length cc]) ?_ rfl ?_
  · simp [results, Tryz.results69, go_sem, flE]
  · exact ⟨m, _, rfl, ModPost.modv (by simp) hM1 (Hown.out.gr hgE (by simp; omega)) (Hcs.out.gr elCon_ok hgE (by simp; omega)), mod_small hd4 hc4 Htv.out, HG.out.step hgE (fun i hi => .inr (by simp at hi; omega))⟩

end Go.Proofs.YtjmjjdgbkibdaaaGreat
