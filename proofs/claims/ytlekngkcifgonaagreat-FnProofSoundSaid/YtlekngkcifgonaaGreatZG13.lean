/-
  Lists whose elements lead to memory, beside blocks that neither the list nor its elements touch.
  Walks of the generators hardModel, DrawSolve, DrawCountSolutions.
  Walk of the generator hardModel.
  Walks of the generators DrawSolve and DrawCountSolutions.
  Walks of the generators of models: smallModel, evenModel.
  Walks of the generators of the laws of symmetry.
-/
import Derived.Test.YtlekngkcifgonaaGreatZFP
import Derived.Test.YtlekngkcifgonaaGreatZG8
set_option linter.unusedVariables false
namespace Go.Proofs.YtlekngkcifgonaaGreat
open Go.RowKit

/-- As OwnG; what its elements lead to lies in none of the blocks X. -/
def OwnGX {α : Type} (X : Nat → Prop) (size : Nat) (el : List Nat → World → List Value → α → Prop) (B : Nat) (w : World) (e : TypeId) (v : Value) (xs : List α) : Prop :=
  ∃ css : List (List Value), css.length = xs.length ∧ (∀ cs ∈ css, cs.length = size ∧ ∀ u ∈ cs, u.oneCell' = true) ∧ w.ownsRow B e size v xs.length css.flatten ∧ (∀ b, v.ownBlock = some b → ¬ X b) ∧
    ∀ (i : Nat) cs x, css[i]? = some cs → xs[i]? = some x → ∀ S : List Nat, (∀ b ∈ S, X b ∨ w.heap.size ≤ b ∨ v.ownBlock = some b) → el S w cs x
theorem OwnGX.ofG {α : Type} {X : Nat → Prop} {size : Nat} {el : List Nat → World → List Value → α → Prop} {B : Nat} {w : World} {e : TypeId} {v : Value} {xs : List α} (h : OwnG size el B w e v xs) (hX : ∀ b, X b → b < B ∨ w.heap.size ≤ b) : OwnGX X size el B w e v xs := by
  obtain ⟨css, h1, h2, h3, h4⟩ := h
  refine ⟨css, h1, h2, h3, fun b hb hXb => ?_, fun i cs x hi hx S hS => h4 i cs x hi hx S fun b hb => ?_⟩
  · have := ownsRow_ownBlock h3 hb
    have := hX b hXb
    omega
  · rcases hS b hb with h | h
    · rcases hX b h with h | h
      · exact .inl h
      · exact .inr (.inl h)
    · exact .inr h
theorem OwnGX.g {α : Type} {X : Nat → Prop} {size : Nat} {el : List Nat → World → List Value → α → Prop} {B : Nat} {w : World} {e : TypeId} {v : Value} {xs : List α} (h : OwnGX X size el B w e v xs) (hX : ∀ b, b < B → X b) : OwnG size el B w e v xs := by
  obtain ⟨css, h1, h2, h3, _, h4⟩ := h
  exact ⟨css, h1, h2, h3, fun i cs x hi hx S hS => h4 i cs x hi hx S fun b hb => (hS b hb).imp (hX b) id⟩
theorem OwnGX.gr {α : Type} {X : Nat → Prop} {size : Nat} {el : List Nat → World → List Value → α → Prop} (ok : ElOk el) {S : List Nat} {B : Nat} {w w' : World} {e : TypeId} {v : Value} {xs : List α} (h : OwnGX X size el B w e v xs) (hg : Gr S w w') (hS : ∀ b ∈ S, X b) : OwnGX X size el B w' e v xs := by
  obtain ⟨css, h1, h2, h3, h5, h4⟩ := h
  refine ⟨css, h1, h2, ?_, h5, fun i cs x hi hx S0 hS0 => ?_⟩
  · refine ⟨h3.1, ?_⟩
    rcases h3.2 with h | ⟨g, cap, cur, e1, hb, hgg, rest⟩
    · exact .inl h
    · exact .inr ⟨g, cap, cur, e1, hb, hg.obj hgg (fun hm => h5 g (by rw [e1]; rfl) (hS g hm)), rest⟩
  · have := h4 i cs x hi hx (S ++ S0) (by
      intro b hb
      rcases List.mem_append.1 hb with hb | hb
      · exact .inl (hS b hb)
      · rcases hS0 b hb with h | h | h
        · exact .inl h
        · exact .inr (.inl (Nat.le_trans hg.size h))
        · exact .inr (.inr h))
    exact ok.sub (ok.gr this (hg.sub (fun k _ hk => by simp [hk]))) (fun b _ hb => by simp [hb])
theorem OwnGX.slice {α : Type} {X : Nat → Prop} {size : Nat} {el : List Nat → World → List Value → α → Prop} {B : Nat} {w : World} {e : TypeId} {v : Value} {xs : List α} (h : OwnGX X size el B w e v xs) : ∃ ao cap, v = .slice ao xs.length cap ∧ xs.length ≤ cap ∧ cap ≤ 9223372036854775807 := by
  obtain ⟨css, h1, h2, h3, h4⟩ := h
  rcases h3.2 with ⟨e1, h5⟩ | ⟨g, cap, cur, e1, _, _, h6, h7, _⟩
  · exact ⟨none, 0, by rw [e1, h5], by omega, by omega⟩
  · exact ⟨_, _, e1, h6, by simp only [maxLen] at h7; omega⟩
theorem OwnGX.own {α : Type} {X : Nat → Prop} {size : Nat} {el : List Nat → World → List Value → α → Prop} {B : Nat} {w : World} {e : TypeId} {v : Value} {xs : List α} (h : OwnGX X size el B w e v xs) {b : Nat} (hb : v.ownBlock = some b) : ¬ X b ∧ B ≤ b ∧ b < w.heap.size :=
  let ⟨_, _, _, h3, h5, _⟩ := h; ⟨h5 b hb, ownsRow_ownBlock h3 hb⟩

/-- An append in a region that draws, and where the new list lies. -/
theorem step_appGX {α : Type} {P : Program} {w : World} {ops : Array Oper} {o : Oper} {a : Act} {K : Act → World → Prop} {Q : Exit → Act → World → Prop} {E : Prop} (hgd : o.guard = none) (s x : Operand) (t : TypeId)
    (ho : o.op = .call { callee := .builtin .append, args := #[s, x], argTypes := #[t, t] }) (size : Nat) (el : List Nat → World → List Value → α → Prop) (ok : ElOk el) (B : Nat) (e : TypeId) (z : Value) (bytes : Nat)
    (hinfo : (P.info? e).map (fun i => (i.zero, i.size, i.bytes)) = some (some z, size, bytes)) (hzs : z.cells.size = size) (hsz : 0 < size) (hby : bytes ≤ 100)
    (ht : P.underlying t = some (.slice e)) (v : Value) (xs : List α) (hs : a.eval s = v) (X : Nat → Prop) (hX : ∀ b, X b → b < w.heap.size) (hown : OwnGX X size el B w e v xs) (g c : Nat) (y : α) (cs : List Value) (hx : a.eval x = .slice (some ⟨g, 0, none⟩) 1 c)
    (hl : cs.length = size) (h1 : ∀ u ∈ cs, u.oneCell' = true) (hn : ∀ j u, cs[j]? = some u → w.cell? ⟨g, j, none⟩ = some u) (hel : ∀ S : List Nat, (∀ b ∈ S, X b ∨ w.heap.size ≤ b ∨ v.ownBlock = some b) → el S w cs y)
    (hlen : xs.length ≤ 10000000) (hB : B ≤ w.heap.size)
    (h : ∀ g' c' w', OwnGX X size el B w' e (.slice (some ⟨g', 0, none⟩) (xs.length + 1) c') (xs ++ [y]) → Gr v.ownBlock.toList w w' → (v.ownBlock = some g' ∨ w.heap.size ≤ g') → g' < w'.heap.size → K (a.put o.dst (.slice (some ⟨g', 0, none⟩) (xs.length + 1) c')) w') : if Region.wanted o (yielded ops a.tmps) = true then Oper.wp P o a w K Q else E := by
  obtain ⟨css, k1, k2, k3, k5, k4⟩ := hown
  obtain ⟨i0, hi, hz0, hz1, hz2⟩ := info_parts hinfo
  have hbb : (xs.length + 1) * bytes ≤ (xs.length + 1) * 100 := Nat.mul_le_mul_left _ hby
  refine step_append_lies w hgd s x t ho B e i0 z size bytes ht hi hz0 hz1 hz2 hzs hsz v xs.length css.flatten hs k3 ⟨g, 0, none⟩ 1 c cs hx (by rw [hl]; simp) ?_ h1 (by omega) (by simp only [maxLen]; omega) (by omega) hB w.heap.size rfl ?_
  · intro j u hj
    have : (⟨g, 0, none⟩ : Addr).add j = ⟨g, j, none⟩ := by unfold Addr.add; split <;> simp_all
    rw [this]; exact hn j u hj
  · intro g' cap' w' hown' hgrow hwhere hlt
    have hgr : Gr v.ownBlock.toList w w' := ⟨hgrow.os, hgrow.tape, hgrow.output, hgrow.size, fun k hk hs => hgrow.block k hk (fun e => hs (by rw [← e]; simp))⟩
    refine h _ _ _ ⟨css ++ [cs], by simp [k1], ?_, ?_, ?_, ?_⟩ hgr (hwhere.imp id (fun e => by omega)) hlt
    · intro c hc
      rcases List.mem_append.1 hc with hc | hc
      · exact k2 c hc
      · simp at hc; subst hc; exact ⟨hl, h1⟩
    · rw [List.flatten_append]; simpa using hown'
    · intro b hb hXb
      simp [Value.ownBlock] at hb; subst hb
      rcases hwhere with h | h
      · exact k5 _ h hXb
      · have := hX _ hXb; omega
    · have hcond : ∀ S : List Nat, (∀ b ∈ S, X b ∨ w'.heap.size ≤ b ∨ (Value.slice (some ⟨g', 0, none⟩) (xs.length + 1) cap').ownBlock = some b) → ∀ b ∈ v.ownBlock.toList ++ S, X b ∨ w.heap.size ≤ b ∨ v.ownBlock = some b := by
        intro S hS b hb
        rcases List.mem_append.1 hb with hb | hb
        · exact .inr (.inr (by simpa using hb))
        · rcases hS b hb with h | h | h
          · exact .inl h
          · exact .inr (.inl (Nat.le_trans hgr.size h))
          · simp [Value.ownBlock] at h
            subst h
            rcases hwhere with h | h
            · exact .inr (.inr h)
            · exact .inr (.inl (by omega))
      intro i c' x' hc hx' S hS
      have fin : ∀ c'' x'', el (v.ownBlock.toList ++ S) w c'' x'' → el S w' c'' x'' := fun c'' x'' h0 =>
        ok.sub (ok.gr h0 (hgr.sub (fun k _ hk => by simp at hk ⊢; exact .inl hk))) (fun b _ hb => by simp [hb])
      by_cases hlt : i < xs.length
      · rw [List.getElem?_append_left (by omega)] at hc
        rw [List.getElem?_append_left hlt] at hx'
        exact fin _ _ (k4 i c' x' hc hx' _ (hcond S hS))
      · have hi' : i = xs.length := by
          have := (List.getElem?_eq_some_iff.1 hx').1
          simp at this; omega
        subst hi'
        rw [List.getElem?_append_right (by omega), k1, Nat.sub_self] at hc
        rw [List.getElem?_append_right (by omega), Nat.sub_self] at hx'
        simp at hc hx'
        subst hc hx'
        exact fin _ _ (hel _ (hcond S hS))

end Go.Proofs.YtlekngkcifgonaaGreat

set_option linter.unusedVariables false
namespace Go.Proofs.YtlekngkcifgonaaGreat
open Go.RowKit

theorem allIndices_c (n : Nat) (hn : n ≤ 100) (w : World) :
    Calls Tryz.prog 213 #[.int .i64 n] w fun e w' => ∃ v xs, e = .returned v ∧ OwnC w.heap.size w' 3 v xs ∧ xs.length = n ∧ Gr [] w w' := by
  go_enter Tryz.func213, Tryz.ntmps213
  go_wp2_with fail
  go_loopw [3, 4] (fun v i wr => ∃ (k : Nat) (xs : List Int), k ≤ n ∧ i = .int .i64 k ∧ Own w.heap.size wr 3 v xs ∧ xs.length = k ∧ Gr [] w wr) (fun _ i _ => n - (intOf i).toNat)
  case atStart => exact ⟨0, [], by omega, rfl, Own.empty _ _ (Nat.le_refl _), rfl, (Gr.refl _ _).alloc _⟩
  case round =>
    obtain ⟨k, xs, hk, rfl, hown, hxl, hg⟩ := hrel
    have Hxl := hid hxl; have Hown := hid hown
    have hsz := hg.size
    clear hxl hown
    by_cases hlt : k < n
    · go_wp2_with (at_builtin; refine wp_app1 rfl _ _ 23 rfl w.heap.size 3 infoInt Tryz.underlying23 _ xs rfl (Hown.out.alloc _) _ 1 k rfl (cell_new _ _ _) (by have := Hxl.out; omega) (by simp <;> omega) ?_; intro v' w4 hown4 hb4)
      exact ⟨⟨k + 1, xs ++ [(k : Int)], by omega, by go_num, hown4, by rw [List.length_append, Hxl.out]; rfl, (hg.alloc _).low hb4 (Nat.le_refl _)⟩, by simp [intOf]; omega⟩
    · have hown := Hown.out
      go_wp2_with fail
      go_ret
      exact ⟨_, xs, rfl, hown.c, by rw [Hxl.out]; omega, hg⟩
end Go.Proofs.YtlekngkcifgonaaGreat

set_option linter.unusedVariables false
namespace Go.Proofs.YtlekngkcifgonaaGreat
open Go.RowKit

/-- What a generator of models leaves, with up to eight constraints. -/
def ModPostH (Pr : Con → Prop) (B R : Nat) (bs : List Int) (q : Nat) (w : World) (e : Ending) (w' : World) : Prop :=
  ∃ (m : Mod) (M : Nat) (ao : Option Addr) (ac : Nat) (co : Option Addr) (cc : Nat), e = .returned (.agg #[.slice ao m.doms.length ac, .slice co m.cons.length cc]) ∧
    Own B w' 3 (.slice ao m.doms.length ac) m.doms ∧ (∀ b, (Value.slice ao m.doms.length ac).ownBlock = some b → b < M) ∧ (B ≤ M ∧ M ≤ w'.heap.size) ∧
    OwnG 5 elCon M w' 55 (.slice co m.cons.length cc) m.cons ∧ (1 ≤ m.doms.length ∧ m.doms.length ≤ 4) ∧ m.cons.length ≤ 8 ∧ (∀ c ∈ m.cons, Pr c) ∧ Rd w' R bs q ∧ Gr [R] w w'
theorem ModPost.h {Pr : Con → Prop} {B R : Nat} {bs : List Int} {q : Nat} {w : World} {e : Ending} {w' : World} (h : ModPost Pr B R bs q w e w') : ModPostH Pr B R bs q w e w' := by
  obtain ⟨m, M, ao, ac, co, cc, h1, h2, h3, h4, h5, h6, h7, h8⟩ := h
  exact ⟨m, M, ao, ac, co, cc, h1, h2, h3, h4, h5, h6, by omega, h8⟩

set_option maxRecDepth 100000 in
set_option maxHeartbeats 4000000 in
theorem hardModel_c (R : Nat) (bs : List Int) (q : Nat) (w : World) (hr : Rd w R bs q) (hq : q ≤ 1000000) :
    Calls Tryz.prog 140 #[.pointer (some ⟨R, 0, none⟩)] w (ModPostH TinyV w.heap.size R bs (q + 4000) w) := by
  have hRw := hr.lt
  have hg0 : Gr [] w (w.alloc (.cells #[.slice none 0 0, .slice none 0 0] 26)) := (Gr.refl _ _).alloc _
  have hr0 : (w.alloc (.cells #[.slice none 0 0, .slice none 0 0] 26)).heap[w.heap.size]? = some (.cells #[.slice none 0 0, .slice none 0 0] 26 (0, 0)) := heap_alloc_new _ _
  have Hg0 := hid hg0; have Hr0 := hid hr0; have Hr := hid hr
  clear hg0 hr0 hr
  go_enter Tryz.func140, Tryz.ntmps140
  go_wp2_with fail
  have hcall := randomModel_c R bs q _ (Hr.out.gr Hg0.out) (by omega)
  (with_reducible refine hcall.mono ?_)
  clear hcall
  rintro e w1 ⟨m, M, ao, dc, co, cc, rfl, hown, hdM, ⟨hM1, hM2⟩, hcs, ⟨hd1, hd4⟩, hc4, htv, hrd1, hg1⟩
  obtain ⟨gd, dc', e1, ⟨hgd1, hgd2⟩, -, -⟩ := hown.open (by omega)
  obtain ⟨rfl, rfl⟩ : ao = some ⟨gd, 0, none⟩ ∧ dc = dc' := by simpa using e1
  have hgdM : gd < M := hdM gd rfl
  clear e1 hdM
  simp only [World.size_alloc] at hgd1 hM1 hown
  have hrb1 := hg1.obj Hr0.out (by simp; omega)
  have hg01 := Hg0.out.any.trans hg1
  have ha2 : Gr [] w1 (w1.alloc (.cells #[.slice (some ⟨gd, 0, none⟩) m.doms.length dc, .slice co m.cons.length cc] 26)) := (Gr.refl _ _).alloc _
  have hb2 : (w1.alloc (.cells #[.slice (some ⟨gd, 0, none⟩) m.doms.length dc, .slice co m.cons.length cc] 26)).heap[w1.heap.size]? = some (.cells #[.slice (some ⟨gd, 0, none⟩) m.doms.length dc, .slice co m.cons.length cc] 26 (0, 0)) := heap_alloc_new _ _
  have hX1 : OwnGX (fun b => b < M ∨ b = w1.heap.size) 5 elCon M w1 55 (.slice co m.cons.length cc) m.cons := OwnGX.ofG hcs (fun b hb => by rcases hb with h | h; exact .inl h; exact .inr (by omega))
  have Hown := hid hown; have HX1 := hid hX1; have Htv := hid htv; have Hrd1 := hid hrd1; have Hrb1 := hid hrb1; have Hg01 := hid hg01; have Ha2 := hid ha2; have Hb2 := hid hb2
  have hs1 := lt_of_block hrb1
  clear hown hcs htv hrd1 hrb1 hg01 ha2 hb2 hg1 hX1
  go_wp2_with fail
  have hcall := pick_c R bs (q + 1000) 3 _ (Hrd1.out.gr Ha2.out) (by omega) (by omega)
  (with_reducible refine hcall.mono ?_)
  clear hcall
  rintro e w3 ⟨⟨r3, rfl, hr30, hr3n⟩, hrd3, hg3⟩
  obtain ⟨r3, rfl⟩ := Int.eq_ofNat_of_zero_le hr30
  have hr32 : r3 ≤ 2 := by omega
  have HG3 : Hid (Gr [R] w w3) := hid ((Hg01.out.trans Ha2.out.any).trans hg3)
  have hg13 : Gr [R] w1 w3 := Ha2.out.any.trans hg3
  have hs3 := hg13.size
  have hb3 := hg3.obj Hb2.out (by simp; omega)
  have hlt3 := lt_of_block hb3
  have Hb3 := hid hb3
  have Hown3 := hid (Hown.out.gr hg13 (by simp; omega))
  have HX3 := hid (HX1.out.gr elCon_ok hg13 (by simp; omega))
  have Hrd3 := hid hrd3
  have hrb3 := hg13.obj Hrb1.out (by simp; omega)
  have HRBR := hid hrb3
  clear hg13 hg3 hrd3 hb3 hrb3 Hown Hrd1 Hrb1 Hg01 Ha2 Hb2 HX1 hr30 hr3n
  have hM3 : M ≤ w1.heap.size := by omega
  have HRB : Hid (∀ W, Gr (R :: gd :: List.range' M (w3.heap.size - M)) w3 W → W.heap[w.heap.size]? = some (.cells #[.slice none 0 0, .slice none 0 0] 26 (0, 0))) := hid fun W h => h.obj HRBR.out (by simp; omega)
  go_wp2_with fail
  go_loopw [4] (fun i wr => ∃ (k : Nat) (cs : List Con) (cv : Value), i = .int .i64 k ∧ k ≤ 2 ∧ cs.length + k ≤ 6 ∧ wr.heap[w1.heap.size]? = some (.cells #[.slice (some ⟨gd, 0, none⟩) m.doms.length dc, cv] 26 (0, 0)) ∧ OwnGX (fun b => b < M ∨ b = w1.heap.size) 5 elCon M wr 55 cv cs ∧ (∀ c ∈ cs, TinyV c) ∧ Rd wr R bs (q + 1000 + 1 + 200 * (2 - k)) ∧ Gr (R :: List.range' M (w3.heap.size - M)) w3 wr) (fun i _ => (intOf i).toNat)
  case atStart => exact ⟨r3, m.cons, _, rfl, hr32, by omega, Hb3.out, HX3.out, Htv.out, Hrd3.out.le (by omega), Gr.refl _ _⟩
  case round =>
    obtain ⟨k, cs, cv, rfl, hk2, hck, hb, hown, htv, hrd, hL⟩ := hrel
    have flr := fld hb
    have ffr := fldF hb
    have hltr := lt_of_block hb
    have hsr := hL.size
    obtain ⟨co, cc, rfl, hcc1, hcc2⟩ := hown.slice
    have Hb := hid hb; have Hown := hid hown; have Hrd := hid hrd; have HL := hid hL; have Htv2 := hid htv
    have hcs6 : cs.length ≤ 6 := by omega
    clear hb hown hrd hL htv
    by_cases hlt : 0 < k
    · have hcs5 : cs.length < 6 := by omega
      go_wp2_with fail
      go_region_law (first
        | (go_simp; go_at_call 211; refine (randomConstraint_c R bs (q + 1000 + 1 + 200 * (2 - k)) m.doms.length _ (Hrd.out.drew) (by omega) (by omega) (by omega)).mono ?_; rintro e w6 ⟨c6, vo6, vc6, xo6, xc6, ro6, rc6, rfl, hc6, ht6, hv6, hrd6, hg6⟩; have HSC6 : Hid (Gr [R] wr w6) := hid (Gr.trans (a := wr) ((Gr.refl [R] _).drew) hg6); have Hrd6 := hid hrd6; have Hc6 := hid hc6; have Ht6 : Hid (TinyV c6) := hid ⟨ht6, hv6⟩; have Hb6 := hid (HSC6.out.obj Hb.out (by simp <;> omega)); have fl6 := fld Hb6.out; have ff6 := fldF Hb6.out; have hlt6 := lt_of_block Hb6.out; have hs6 := HSC6.out.size; clear hrd6 hg6 hc6 ht6 hv6)
        | (refine step_appGX rfl _ _ 24 rfl 5 elCon elCon_ok M 55 (.agg #[.int .i64 0, .slice none 0 0, .slice none 0 0, .int .i64 0, .slice none 0 0]) 88 infoC rfl (by omega) (by omega) Tryz.underlying24 (.slice co cs.length cc) cs rfl (fun b => b < M ∨ b = w1.heap.size) (fun b hb => by rcases hb with h | h; (simp; omega); (simp; omega)) ((Hown.out.gr elCon_ok HSC6.out (by simp <;> omega)).gr elCon_ok ((Gr.refl [] _).alloc _) (by simp)) w6.heap.size 1 c6 [.int .i64 c6.kind, .slice vo6 c6.vars.length vc6, .slice xo6 c6.args.length xc6, .int .i64 c6.bound, .slice ro6 c6.rows.length rc6] rfl rfl (by simp [Value.oneCell']) (fun j u hj => by rw [fld (heap_alloc_new w6 (.cells #[.int .i64 c6.kind, .slice vo6 c6.vars.length vc6, .slice xo6 c6.args.length xc6, .int .i64 c6.bound, .slice ro6 c6.rows.length rc6] 55))]; simpa using hj) (fun S hS => ⟨_, _, _, _, _, _, rfl, (Hc6.out S (fun b hb => by rcases hS b hb with (h | h) | h | h; exact .inl (by simp; omega); exact .inl (by simp; omega); exact .inr (by simp at h; omega); exact .inl (by have := (Hown.out.own h).2.2; simp; omega))).gr ((Gr.refl _ _).alloc _)⟩) (by omega) (by simp <;> omega) ?_; intro g7 c7 w7 hown7 hg7 hwh7 hlt7; have hb7 := hg7.obj (((Gr.refl [] w6).alloc (.cells #[.int .i64 c6.kind, .slice vo6 c6.vars.length vc6, .slice xo6 c6.args.length xc6, .int .i64 c6.bound, .slice ro6 c6.rows.length rc6] 55)).obj Hb6.out (by simp)) (fun hm => (Hown.out.own (b := w1.heap.size) (by simpa using hm)).1 (.inr rfl)); have Hb7 := hid hb7; have fl7 := fld hb7; have ff7 := fldF hb7; have Hown7 := hid hown7; have Hg7 := hid hg7; have hlb7 := lt_of_block hb7; clear hown7 hg7 hb7 hwh7))
      all_goals
        go_wp2_with fail
        have hgs : Gr [w1.heap.size] w7 (w7.setCell ⟨w1.heap.size, 1, none⟩ (.slice (some ⟨g7, 0, none⟩) (cs.length + 1) c7)) := Gr.cell1 _ _ _ _ (by simp)
        refine ⟨⟨k - 1, cs ++ [c6], _, by go_num, by omega, by rw [List.length_append, List.length_singleton]; omega, cells_set Hb7.out 1 _, Hown7.out.gr elCon_ok hgs (fun b hb => .inr (by simpa using hb)), fun c hc => ?_, ?_, ?_⟩, by simp [intOf]; omega⟩
        · rcases List.mem_append.1 hc with h | h
          · exact Htv2.out c h
          · rw [List.mem_singleton.1 h]; exact Ht6.out
        · exact (((Hrd6.out.gr ((Gr.refl _ _).alloc _)).grS Hg7.out (by intro z hz; have := (Hown.out.own (by simpa using hz)).2.1; omega)).grS hgs (by simp; omega)).le (by omega)
        · refine (((HL.out.trans (HSC6.out.sub (fun k _ h => by simp at h ⊢; exact .inl h))).alloc _).step Hg7.out (fun i hi => ?_)).step hgs (fun i hi => ?_)
          · have h := (Hown.out.own (b := i) (by simpa using hi)).2
            by_cases h3 : i < w3.heap.size
            · exact .inl (List.mem_cons.2 (.inr (List.mem_range'_1.2 ⟨h.1, by omega⟩)))
            · exact .inr (by omega)
          · simp at hi; subst hi
            exact .inl (List.mem_cons.2 (.inr (List.mem_range'_1.2 ⟨hM3, by omega⟩)))
    · have hk0 : k = 0 := by omega
      subst hk0
      obtain ⟨wD, hwD⟩ : ∃ wD : World, wD = wr := ⟨_, rfl⟩
      rw [← hwD] at Hb Hown Hrd HL hltr hsr flr ffr ⊢
      clear hwD
      go_wp2_with fail
      have hcall := pick_c R bs _ 3 _ Hrd.out (by omega) (by omega)
      (with_reducible refine hcall.mono ?_)
      clear hcall
      rintro e w5 ⟨⟨r5, rfl, hr50, hr5n⟩, hrd5, hg5⟩
      have HL5 := hid (HL.out.trans (hg5.sub (fun k _ h => by simp at h ⊢; exact .inl h)))
      have HLT : Hid (Gr (R :: gd :: List.range' M (w3.heap.size - M)) w3 w5) := hid (HL5.out.sub (fun k _ h => by rcases List.mem_cons.1 h with h | h; exact List.mem_cons.2 (.inl h); exact List.mem_cons.2 (.inr (List.mem_cons.2 (.inr h)))))
      have Hb5 := hid (hg5.obj Hb.out (by simp; omega))
      have HX5 := hid (Hown.out.gr elCon_ok hg5 (by simp; omega))
      have hgdT : gd ∉ (R :: List.range' M (w3.heap.size - M)) := fun hm => by
        rcases List.mem_cons.1 hm with h | h
        · omega
        · have := List.mem_range'_1.1 h; omega
      have Hown5 := hid (Hown3.out.keep HL5.out hgdT)
      have Hrd5 := hid hrd5
      have fl5 := fld Hb5.out
      have hs5 := HL5.out.size
      have hlt5 := lt_of_block Hb5.out
      clear hg5 hrd5 flr ffr Hb Hown Hrd HL hgdT
      cases h0 : (r5 == 0)
      · go_wp2_with ((with_reducible show wpList _ _ _ (⟨none, Op.store _ (Operand.tmp 2) (Operand.tmp 71), _, _, _, none⟩ :: _) _ _); refine wp_storeT 26 2 71 w.heap.size #[.slice (some ⟨gd, 0, none⟩) m.doms.length dc, .slice co cs.length cc] 26 #[.slice none 0 0, .slice none 0 0] (HRB.out _ HLT.out) ⟨sizeM, rfl, rfl, rfl, one2 _ _ _ _ _ _⟩ ?_; intro wE hbE hgE)
        have flE := fld hbE
        refine bodyPost_ret (v := .agg #[.slice (some ⟨gd, 0, none⟩) m.doms.length dc, .slice co cs.length cc]) ?_ rfl ?_
        · simp [results, Tryz.results140, go_sem, flE]
        · have hsE := hgE.size
          refine ⟨⟨m.doms, cs⟩, M, _, _, _, _, rfl, ((Hown5.out.gr hgE (by simp <;> omega)).le (by omega)), ?_, ⟨by omega, by omega⟩, OwnG.gr elCon_ok (OwnGX.g HX5.out (fun b hb => .inl hb)) hgE (by simp; omega), ⟨hd1, hd4⟩, (by show cs.length ≤ 8; omega), Htv2.out, (Hrd5.out.grS hgE (by simp; omega)).le (by omega), ?_⟩
          · intro b hb; simp [Value.ownBlock] at hb; omega
          · refine (HG3.out.step HLT.out (fun i hi => ?_)).step hgE (fun i hi => .inr (by simp at hi; omega))
            rcases List.mem_cons.1 hi with h | h
            · exact .inl (by simp [h])
            · rcases List.mem_cons.1 h with h | h
              · exact .inr (by omega)
              · have := List.mem_range'_1.1 h; exact .inr (by omega)
      by_cases hc6 : cs.length < 6
      rotate_left
      · go_wp2_with ((with_reducible show wpList _ _ _ (⟨none, Op.store _ (Operand.tmp 2) (Operand.tmp 71), _, _, _, none⟩ :: _) _ _); refine wp_storeT 26 2 71 w.heap.size #[.slice (some ⟨gd, 0, none⟩) m.doms.length dc, .slice co cs.length cc] 26 #[.slice none 0 0, .slice none 0 0] (HRB.out _ HLT.out) ⟨sizeM, rfl, rfl, rfl, one2 _ _ _ _ _ _⟩ ?_; intro wE hbE hgE)
        have flE := fld hbE
        refine bodyPost_ret (v := .agg #[.slice (some ⟨gd, 0, none⟩) m.doms.length dc, .slice co cs.length cc]) ?_ rfl ?_
        · simp [results, Tryz.results140, go_sem, flE]
        · have hsE := hgE.size
          refine ⟨⟨m.doms, cs⟩, M, _, _, _, _, rfl, ((Hown5.out.gr hgE (by simp <;> omega)).le (by omega)), ?_, ⟨by omega, by omega⟩, OwnG.gr elCon_ok (OwnGX.g HX5.out (fun b hb => .inl hb)) hgE (by simp; omega), ⟨hd1, hd4⟩, (by show cs.length ≤ 8; omega), Htv2.out, (Hrd5.out.grS hgE (by simp; omega)).le (by omega), ?_⟩
          · intro b hb; simp [Value.ownBlock] at hb; omega
          · refine (HG3.out.step HLT.out (fun i hi => ?_)).step hgE (fun i hi => .inr (by simp at hi; omega))
            rcases List.mem_cons.1 hi with h | h
            · exact .inl (by simp [h])
            · rcases List.mem_cons.1 h with h | h
              · exact .inr (by omega)
              · have := List.mem_range'_1.1 h; exact .inr (by omega)
      by_cases hd2 : 2 < m.doms.length
      rotate_left
      · go_wp2_with ((with_reducible show wpList _ _ _ (⟨none, Op.store _ (Operand.tmp 2) (Operand.tmp 71), _, _, _, none⟩ :: _) _ _); refine wp_storeT 26 2 71 w.heap.size #[.slice (some ⟨gd, 0, none⟩) m.doms.length dc, .slice co cs.length cc] 26 #[.slice none 0 0, .slice none 0 0] (HRB.out _ HLT.out) ⟨sizeM, rfl, rfl, rfl, one2 _ _ _ _ _ _⟩ ?_; intro wE hbE hgE)
        have flE := fld hbE
        refine bodyPost_ret (v := .agg #[.slice (some ⟨gd, 0, none⟩) m.doms.length dc, .slice co cs.length cc]) ?_ rfl ?_
        · simp [results, Tryz.results140, go_sem, flE]
        · have hsE := hgE.size
          refine ⟨⟨m.doms, cs⟩, M, _, _, _, _, rfl, ((Hown5.out.gr hgE (by simp <;> omega)).le (by omega)), ?_, ⟨by omega, by omega⟩, OwnG.gr elCon_ok (OwnGX.g HX5.out (fun b hb => .inl hb)) hgE (by simp; omega), ⟨hd1, hd4⟩, (by show cs.length ≤ 8; omega), Htv2.out, (Hrd5.out.grS hgE (by simp; omega)).le (by omega), ?_⟩
          · intro b hb; simp [Value.ownBlock] at hb; omega
          · refine (HG3.out.step HLT.out (fun i hi => ?_)).step hgE (fun i hi => .inr (by simp at hi; omega))
            rcases List.mem_cons.1 hi with h | h
            · exact .inl (by simp [h])
            · rcases List.mem_cons.1 h with h | h
              · exact .inr (by omega)
              · have := List.mem_range'_1.1 h; exact .inr (by omega)
      have hd2b : decide ((2 : Int) < (m.doms.length : Int)) = true := decide_eq_true (by omega)
      go_wp2_with fail
      go_loopw [5] (fun i wr => ∃ (n : Nat) (ds : List Int), n ≤ m.doms.length ∧ i = .int .i64 n ∧ ds.length = m.doms.length ∧ Own (w.heap.size + 1) wr 3 (.slice (some ⟨gd, 0, none⟩) m.doms.length dc) ds ∧ Gr [gd] w5 wr) (fun i _ => m.doms.length - (intOf i).toNat)
      case atStart => exact ⟨0, m.doms, by omega, rfl, rfl, Hown5.out, Gr.refl _ _⟩
      case round =>
        obtain ⟨n, ds, hn, rfl, hdl, hown, hg⟩ := hrel
        have hbr := hg.obj Hb5.out (by simp; omega)
        have flr := fld hbr
        have ffr := fldF hbr
        have hltr := lt_of_block hbr
        have hsr := hg.size
        have Hdl := hid hdl; have Hown := hid hown; have Hg := hid hg; have Hbr := hid hbr
        clear hdl hown hg hbr
        by_cases hlt : n < m.doms.length
        · obtain ⟨y, hy⟩ := get_some (xs := ds) (k := n) (by rw [Hdl.out]; exact hlt)
          obtain ⟨hc1, hc2⟩ := Hown.out.at hy
          clear hy
          go_wp2_with fail
          go_region_law (first
            | (go_simp; go_at_call 212; refine (DomainRange_c _ _ _).mono ?_; rintro e w' ⟨⟨d6, rfl, hd6⟩, rfl⟩; clear hd6))
          all_goals
            go_wp2_with fail
            refine ⟨⟨n + 1, ds.set n d6, by omega, by go_num, by rw [List.length_set]; exact Hdl.out, (Hown.out.drew).set n d6 (by rw [Hdl.out]; exact hlt), Hg.out.drew.setCell _ _ (.inl (by simp))⟩, by simp [intOf]; omega⟩
        · clear flr ffr
          obtain ⟨wF, hwF⟩ : ∃ wF : World, wF = wr := ⟨_, rfl⟩
          rw [← hwF] at Hown Hg Hbr hltr hsr ⊢
          clear hwF
          have HX6 := hid (HX5.out.gr elCon_ok Hg.out (by intro b hb; simp at hb; subst hb; exact .inl hgdM))
          have Hrd6 := hid (Hrd5.out.grS Hg.out (by simp; omega))
          have flF := fld Hbr.out
          have ffF := fldF Hbr.out
          go_wp2_with fail
          go_region_law (first
            | (go_simp; go_at_call 213; refine (allIndices_c m.doms.length (by omega) _).mono ?_; rintro e w6 ⟨v6, xs6, rfl, hown6, hxl6, hg6⟩; have HG6 : Hid (Gr [] wF w6) := hid (Gr.trans (a := wF) ((Gr.refl [] _).drew) hg6); have hown6' : OwnC wF.heap.size w6 3 v6 xs6 := hown6; obtain ⟨vo6, vc6, rfl⟩ := hown6'.form; have Hown6 := hid hown6'; have hx64 : xs6.length ≤ 4 := (by omega); have hx61 : 1 ≤ xs6.length := (by omega); have Hb6 := hid (HG6.out.obj Hbr.out (by simp)); have fl6 := fld Hb6.out; have ff6 := fldF Hb6.out; have hlt6 := lt_of_block Hb6.out; have hs6 := HG6.out.size; clear hg6 hown6 hown6' hxl6)
            | (refine step_appGX rfl _ _ 24 rfl 5 elCon elCon_ok M 55 (.agg #[.int .i64 0, .slice none 0 0, .slice none 0 0, .int .i64 0, .slice none 0 0]) 88 infoC rfl (by omega) (by omega) Tryz.underlying24 (.slice co cs.length cc) cs rfl (fun b => b < M ∨ b = w1.heap.size) (fun b hb => by rcases hb with h | h; (simp; omega); (simp; omega)) ((HX6.out.gr elCon_ok HG6.out (by simp)).gr elCon_ok ((Gr.refl [] _).alloc _) (by simp)) w6.heap.size 1 ⟨3, xs6, [], 0, []⟩ [.int .i64 3, .slice vo6 xs6.length vc6, .slice none 0 0, .int .i64 0, .slice none 0 0] rfl rfl (by simp [Value.oneCell']) (fun j u hj => by rw [fld (heap_alloc_new w6 (.cells #[.int .i64 3, .slice vo6 xs6.length vc6, .slice none 0 0, .int .i64 0, .slice none 0 0] 55))]; simpa using hj) (fun S hS => ⟨_, _, _, _, _, _, rfl, (ConV.gr ⟨_, _, _, rfl, Hown6.out.nums' (fun b hb => by rcases hS b hb with (h | h) | h | h; exact .inl (by omega); exact .inl (by omega); exact .inr (by simp at h; omega); exact .inl (by have := (HX6.out.own h).2.2; omega)), FrI.nil 0 0 w6 S (fun b _ => by omega), FrR.nil 0 0 w6 S (fun b _ => by omega)⟩ ((Gr.refl _ _).alloc _))⟩) (by omega) (by simp <;> omega) ?_; intro g7 c7 w7 hown7 hg7 hwh7 hlt7; have hb7 := hg7.obj (((Gr.refl [] w6).alloc (.cells #[.int .i64 3, .slice vo6 xs6.length vc6, .slice none 0 0, .int .i64 0, .slice none 0 0] 55)).obj Hb6.out (by simp)) (fun hm => (HX6.out.own (b := w1.heap.size) (by simpa using hm)).1 (.inr rfl)); have Hb7 := hid hb7; have fl7 := fld hb7; have ff7 := fldF hb7; have Hown7 := hid hown7; have Hg7 := hid hg7; have hlb7 := lt_of_block hb7; clear hown7 hg7 hb7 hwh7))
          all_goals
            have hgs : Gr [w1.heap.size] w7 (w7.setCell ⟨w1.heap.size, 1, none⟩ (.slice (some ⟨g7, 0, none⟩) (cs.length + 1) c7)) := Gr.cell1 _ _ _ _ (by simp)
            have HF7 : Hid (Gr (R :: gd :: List.range' M (w3.heap.size - M)) w3 (w7.setCell ⟨w1.heap.size, 1, none⟩ (.slice (some ⟨g7, 0, none⟩) (cs.length + 1) c7))) := hid (by
              refine ((((HLT.out.trans (Hg.out.sub (fun k _ h => by simp at h ⊢; exact .inr (.inl h)))).trans HG6.out.any).alloc _).step Hg7.out (fun i hi => ?_)).step hgs (fun i hi => ?_)
              · have h := (HX6.out.own (b := i) (by simpa using hi)).2
                by_cases h3 : i < w3.heap.size
                · exact .inl (List.mem_cons.2 (.inr (List.mem_cons.2 (.inr (List.mem_range'_1.2 ⟨h.1, by omega⟩)))))
                · exact .inr (by omega)
              · simp at hi; subst hi
                exact .inl (List.mem_cons.2 (.inr (List.mem_cons.2 (.inr (List.mem_range'_1.2 ⟨hM3, by omega⟩))))))
            have HXF := hid (Hown7.out.gr elCon_ok hgs (fun b hb => .inr (by simpa using hb)))
            have HDF : Hid (Own (w.heap.size + 1) (w7.setCell ⟨w1.heap.size, 1, none⟩ (.slice (some ⟨g7, 0, none⟩) (cs.length + 1) c7)) 3 (.slice (some ⟨gd, 0, none⟩) m.doms.length dc) ds) := hid (by
              have h1 := ((Hown.out.keep HG6.out (by simp)).alloc (.cells #[.int .i64 3, .slice vo6 xs6.length vc6, .slice none 0 0, .int .i64 0, .slice none 0 0] 55)).keep Hg7.out (fun hm => by have := (HX6.out.own (b := gd) (by simpa using hm)).2.1; omega)
              exact h1.keep hgs (by simp; omega))
            have HRF := hid (((Hrd6.out.gr HG6.out).gr ((Gr.refl [] _).alloc (.cells #[.int .i64 3, .slice vo6 xs6.length vc6, .slice none 0 0, .int .i64 0, .slice none 0 0] 55))).grS Hg7.out (by intro z hz; have := (HX6.out.own (by simpa using hz)).2.1; omega))
            have HRF2 := hid (HRF.out.grS hgs (by simp; omega))
            have hsF := HF7.out.size
            have hbF := cells_set Hb7.out 1 (.slice (some ⟨g7, 0, none⟩) (cs.length + 1) c7)
            obtain ⟨wF2, hwF2⟩ : ∃ W : World, W = w7.setCell ⟨w1.heap.size, 1, none⟩ (.slice (some ⟨g7, 0, none⟩) (cs.length + 1) c7) := ⟨_, rfl⟩
            rw [← hwF2] at HF7 HXF HDF HRF2 hbF hsF ⊢
            have flF2 := fld hbF
            clear hwF2 fl7 ff7 fl6 ff6 flF ffF hgs hbF
            go_wp2_with ((with_reducible show wpList _ _ _ (⟨none, Op.store _ (Operand.tmp 2) (Operand.tmp 71), _, _, _, none⟩ :: _) _ _); refine wp_storeT 26 2 71 w.heap.size #[.slice (some ⟨gd, 0, none⟩) m.doms.length dc, .slice (some ⟨g7, 0, none⟩) (cs.length + 1) c7] 26 #[.slice none 0 0, .slice none 0 0] (HRB.out _ HF7.out) ⟨sizeM, rfl, rfl, rfl, one2 _ _ _ _ _ _⟩ ?_; intro wE hbE hgE)
            have flE := fld hbE
            refine bodyPost_ret (v := .agg #[.slice (some ⟨gd, 0, none⟩) m.doms.length dc, .slice (some ⟨g7, 0, none⟩) (cs.length + 1) c7]) ?_ rfl ?_
            · simp [results, Tryz.results140, go_sem, flE]
            · have hsE := hgE.size
              have hdE := HDF.out.gr hgE (by simp <;> omega)
              have hcE := OwnG.gr elCon_ok (OwnGX.g HXF.out (fun b hb => .inl hb)) hgE (by simp; omega)
              have e1 : m.doms.length = ds.length := Hdl.out.symm
              have e2 : cs.length + 1 = (cs ++ [(⟨3, xs6, [], 0, []⟩ : Con)]).length := by simp
              rw [e1] at hdE ⊢
              rw [e2] at hcE ⊢
              refine ⟨⟨ds, cs ++ [(⟨3, xs6, [], 0, []⟩ : Con)]⟩, M, _, _, _, _, rfl, hdE.le (by omega), ?_, ⟨by omega, by omega⟩, hcE, ⟨by show 1 ≤ ds.length; omega, by show ds.length ≤ 4; omega⟩, ?_, ?_, (HRF2.out.grS hgE (by simp; omega)).le (by omega), ?_⟩
              · intro b hb; simp [Value.ownBlock] at hb; omega
              · show (cs ++ [(⟨3, xs6, [], 0, []⟩ : Con)]).length ≤ 8
                rw [← e2]; omega
              · intro c hc
                rcases List.mem_append.1 hc with h | h
                · exact Htv2.out c h
                · rw [List.mem_singleton.1 h]
                  exact ⟨⟨by simp; omega, by simp, by simp, by simp⟩, hx61⟩
              · refine (HG3.out.step HF7.out (fun i hi => ?_)).step hgE (fun i hi => .inr (by simp at hi; omega))
                rcases List.mem_cons.1 hi with h | h
                · exact .inl (by simp [h])
                · rcases List.mem_cons.1 h with h | h
                  · exact .inr (by omega)
                  · have := List.mem_range'_1.1 h; exact .inr (by omega)
end Go.Proofs.YtlekngkcifgonaaGreat

set_option linter.unusedVariables false
namespace Go.Proofs.YtlekngkcifgonaaGreat
open Go.RowKit

theorem mod_small8 {m : Mod} (h1 : m.doms.length ≤ 4) (h2 : m.cons.length ≤ 8) (h3 : ∀ c ∈ m.cons, c.Small) : m.Small := ⟨by omega, by omega, fun c hc => h3 c hc⟩
theorem ModV.two {S : List Nat} {w : World} {v : Value} {m : Mod} (h : ModV S w v m) : ∃ a n b c k d, v = .agg #[.slice a n b, .slice c k d] := by
  obtain ⟨dv, cv, rfl, ⟨ao, ac, rfl, _⟩, ⟨co, cc, rfl, _⟩⟩ := h
  exact ⟨_, _, _, _, _, _, rfl⟩
end Go.Proofs.YtlekngkcifgonaaGreat

set_option linter.unusedVariables false
set_option linter.unusedSimpArgs false
namespace Go.Proofs.YtlekngkcifgonaaGreat
open Go.RowKit



end Go.Proofs.YtlekngkcifgonaaGreat

set_option linter.unusedVariables false
set_option linter.unusedSimpArgs false
namespace Go.Proofs.YtlekngkcifgonaaGreat
open Go.RowKit





end Go.Proofs.YtlekngkcifgonaaGreat
