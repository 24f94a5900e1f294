/-
  Walk of the reference's nextLayer.
-/
import Derived.Test.YtmonhpoogfdpoaaGreatXBs
set_option linter.unusedVariables false
set_option linter.unusedSimpArgs false
namespace Go.Proofs.YtmonhpoogfdpoaaGreat
open Go.RowKit

theorem good_card : ∀ (n : Nat) (S : SS), Good n S → S.length ≤ 6 ^ n
  | 0, S, h => by rcases h with rfl | rfl <;> simp
  | n + 1, S, h => by
    rw [good_size h]
    have := fun v hv => good_card n _ (h.2 v hv)
    simp only [vs6, List.map_cons, List.map_nil, List.sum_cons, List.sum_nil]
    have h0 := this 0 (by decide); have h1 := this 1 (by decide); have h2 := this 2 (by decide); have h3 := this 3 (by decide); have h4 := this 4 (by decide); have h5 := this 5 (by decide)
    rw [Nat.pow_succ]; omega
/-- Where a set stands among the first ones. -/
def ixF (nx : List SS) (r : SS) : Int := if r ∈ nx then (nx.idxOf r : Int) else -1
theorem ixF_neg {nx : List SS} {r : SS} (h : r ∉ nx) : ixF nx r = -1 := by unfold ixF; rw [if_neg h]
theorem ixF_pos {nx : List SS} {r : SS} (h : r ∈ nx) : ixF nx r = (nx.idxOf r : Int) := by unfold ixF; rw [if_pos h]
theorem ixF_take {nx : List SS} {r T : SS} {m : Nat} (hd : nx.Nodup) (hT : nx[m]? = some T) : ixF (nx.take (m + 1)) r = if T = r then (m : Int) else ixF (nx.take m) r := by
  have hml := (List.getElem?_eq_some_iff.1 hT).1
  have e : nx.take (m + 1) = nx.take m ++ [T] := by rw [List.take_add_one, hT]; rfl
  have hd2 : (nx.take m ++ [T]).Nodup := by rw [← e]; exact List.Nodup.sublist (List.take_sublist _ _) hd
  rw [e]
  by_cases h : T = r
  · rw [if_pos h]
    subst h
    have hn : T ∉ nx.take m := fun hm => by
      rw [List.nodup_append] at hd2
      exact hd2.2.2 T hm T (by simp) rfl
    rw [ixF_pos (by simp), List.idxOf_append, if_neg hn]
    simp [Nat.min_eq_left (Nat.le_of_lt hml)]
  · rw [if_neg h]
    by_cases hm : r ∈ nx.take m
    · rw [ixF_pos hm, ixF_pos (by simp [hm]), List.idxOf_append, if_pos hm]
    · rw [ixF_neg hm, ixF_neg (by simp [hm]; exact fun e => h e.symm)]
structure K1 (X : List Nat) (layer : List SS) (w : World) (a : Nat) (edgesv nextv : Value) (es us : List Value) (wr : World) : Prop where
  gr : Gr [] w wr
  eo : OwnV 1 w.heap.size wr 23 edgesv (es.map fun u => [u])
  el : es.length = a
  ee : ∀ (j : Nat) u r, es[j]? = some u → (layer.map (rowP (nextL layer [])))[j]? = some r → Nums (X ++ (edgesv.ownBlock.toList ++ nextv.ownBlock.toList)) wr .i64 u r
  no : OwnV 1 w.heap.size wr 24 nextv (us.map fun u => [u])
  nl : us.length = (nextL (layer.take a) []).length
  ne : ∀ (j : Nat) u S, us[j]? = some u → (nextL (layer.take a) [])[j]? = some S → RowsV (X ++ (edgesv.ownBlock.toList ++ nextv.ownBlock.toList)) wr u S
  en : ∀ b, edgesv.ownBlock = some b → nextv.ownBlock ≠ some b
structure K2 (layer : List SS) (S : SS) (B a c : Nat) (E : List Nat) (next0 nextv outv : Value) (us : List Value) (row : List Int) (wr wq : World) : Prop where
  gr : Gr next0.ownBlock.toList wr wq
  oo : Own wr.heap.size wq 3 outv row
  rv : row = (vs6.take c).map fun v => ixL (nextL layer []) (sufs S v)
  no : OwnV 1 B wq 24 nextv (us.map fun u => [u])
  nl : us.length = (nextV S (vs6.take c) (nextL (layer.take a) [])).length
  ne : ∀ (j : Nat) u T, us[j]? = some u → (nextV S (vs6.take c) (nextL (layer.take a) []))[j]? = some T → RowsV (E ++ (nextv.ownBlock.toList ++ outv.ownBlock.toList)) wq u T
  nb : ∀ b, nextv.ownBlock = some b → next0.ownBlock = some b ∨ wr.heap.size ≤ b
  nO : ∀ b, nextv.ownBlock = some b → outv.ownBlock ≠ some b

theorem K2.next {layer : List SS} {S : SS} {B a c : Nat} {E : List Nat} {next0 nextv outv : Value} {us : List Value} {row : List Int} {wr wq : World} (h : K2 layer S B a c E next0 nextv outv us row wr wq) (hc : c < 6) (hSa : layer[a]? = some S)
    {w4 w6 : World} (h4 : Gr [] wq w4) {next2 out2 : Value} {us2 : List Value} (q : Int) (hq : q = ixL (nextL layer []) (sufs S (c : Int))) (hg : Gr (nextv.ownBlock.toList ++ outv.ownBlock.toList) w4 w6)
    (hoo : Own wr.heap.size w6 3 out2 (row ++ [q])) (hno : OwnV 1 B w6 24 next2 (us2.map fun u => [u]))
    (hcase : (us2 = us ∧ (sufs S (c : Int) = [] ∨ sufs S (c : Int) ∈ nextV S (vs6.take c) (nextL (layer.take a) []))) ∨
      (∃ u, us2 = us ++ [u] ∧ sufs S (c : Int) ≠ [] ∧ sufs S (c : Int) ∉ nextV S (vs6.take c) (nextL (layer.take a) []) ∧ RowsV (E ++ (nextv.ownBlock.toList ++ outv.ownBlock.toList)) w4 u (sufs S (c : Int))))
    (hnb : ∀ b, next2.ownBlock = some b → nextv.ownBlock = some b ∨ w4.heap.size ≤ b) (hob : ∀ b, out2.ownBlock = some b → outv.ownBlock = some b ∨ w4.heap.size ≤ b) (hnO : ∀ b, next2.ownBlock = some b → out2.ownBlock ≠ some b) :
    K2 layer S B a (c + 1) E next0 next2 out2 us2 (row ++ [q]) wr w6 := by
  have hs1 := h.gr.size; have hs2 := h4.size
  have hT4 : ∀ t ∈ nextv.ownBlock.toList ++ outv.ownBlock.toList, t ∈ E ++ (nextv.ownBlock.toList ++ outv.ownBlock.toList) := fun t ht => List.mem_append.2 (.inr ht)
  have hL4 : ∀ b ∈ E ++ (next2.ownBlock.toList ++ out2.ownBlock.toList), b ∈ E ++ (nextv.ownBlock.toList ++ outv.ownBlock.toList) ∨ w4.heap.size ≤ b := fun b hb => by
    simp only [List.mem_append, Option.mem_toList] at hb ⊢
    rcases hb with hb | hb | hb
    · exact .inl (.inl hb)
    · exact (hnb b hb).imp (fun h => .inr (.inl h)) id
    · exact (hob b hb).imp (fun h => .inr (.inr h)) id
  have hold : ∀ (j : Nat) u T, us[j]? = some u → (nextV S (vs6.take c) (nextL (layer.take a) []))[j]? = some T → RowsV (E ++ (next2.ownBlock.toList ++ out2.ownBlock.toList)) w6 u T := fun j u T hu hT =>
    ((h.ne j u T hu hT).gr h4.any).mv hg (fun t ht => .inl (hT4 t ht)) hL4
  have hnx : nextV S (vs6.take (c + 1)) (nextL (layer.take a) []) = hitL (nextV S (vs6.take c) (nextL (layer.take a) [])) (sufs S (c : Int)) := nextV_snoc (vs6_get hc) _
  refine ⟨(h.gr.trans h4.any).step hg fun t ht => ?_, hoo, ?_, hno, ?_, ?_, fun b hb => ?_, hnO⟩
  · simp only [List.mem_append, Option.mem_toList] at ht
    rcases ht with ht | ht
    · exact (h.nb t ht).imp (fun h => Option.mem_toList.2 h) id
    · exact .inr (h.oo.ownB ht).1
  · rw [List.take_add_one, vs6_get hc, List.map_append, ← h.rv, hq]; rfl
  · rw [hnx]
    unfold hitL
    rcases hcase with ⟨rfl, hr⟩ | ⟨u, rfl, hr1, hr2, -⟩
    · rw [if_pos hr]; exact h.nl
    · rw [if_neg (by rw [not_or]; exact ⟨hr1, hr2⟩), List.length_append, List.length_append, h.nl]; rfl
  · rw [hnx]
    unfold hitL
    rcases hcase with ⟨rfl, hr⟩ | ⟨u, rfl, hr1, hr2, hu⟩
    · rw [if_pos hr]; exact hold
    · rw [if_neg (by rw [not_or]; exact ⟨hr1, hr2⟩)]
      exact get_snoc h.nl hold (hu.mv hg (fun t ht => .inl (hT4 t ht)) hL4)
  · rcases hnb b hb with hb | hb
    · exact h.nb b hb
    · exact .inr (by omega)

theorem K1.next {X : List Nat} {layer : List SS} {S : SS} {w wr wq w6 : World} {a : Nat} {edgesv nextv next2 outv ev2 : Value} {es us us2 : List Value} {row : List Int} (hX : ∀ b ∈ X, b < w.heap.size) (h : K1 X layer w a edgesv nextv es us wr) (hJ : K2 layer S w.heap.size a 6 (X ++ edgesv.ownBlock.toList) nextv next2 outv us2 row wr wq)
    (hS : layer[a]? = some S) (hg : Gr edgesv.ownBlock.toList wq w6) (hown : OwnV 1 w.heap.size w6 23 ev2 ((es ++ [outv]).map fun u => [u])) (hwh : ∀ b, ev2.ownBlock = some b → edgesv.ownBlock = some b ∨ wq.heap.size ≤ b) :
    K1 X layer w (a + 1) ev2 next2 (es ++ [outv]) us2 w6 := by
  have hs0 := h.gr.size; have hs1 := h.gr.size; have hs2 := hJ.gr.size
  have hE : ∀ b, edgesv.ownBlock = some b → b < wr.heap.size := fun b hb => (h.eo.own hb).2
  have hnE : ∀ b, next2.ownBlock = some b → b < wq.heap.size ∧ edgesv.ownBlock ≠ some b := fun b hb => ⟨(hJ.no.own hb).2, fun hx => by
    rcases hJ.nb b hb with h1 | h1
    · exact h.en b hx h1
    · have := hE b hx; omega⟩
  have hL2 : ∀ b ∈ X ++ (ev2.ownBlock.toList ++ next2.ownBlock.toList), b ∈ X ++ (edgesv.ownBlock.toList ++ next2.ownBlock.toList) ∨ wq.heap.size ≤ b := fun b hb => by
    simp only [List.mem_append, Option.mem_toList] at hb ⊢
    rcases hb with hb | hb | hb
    · exact .inl (.inl hb)
    · exact (hwh b hb).imp (fun h => .inr (.inl h)) id
    · exact .inl (.inr (.inr hb))
  have hT2 : ∀ t ∈ edgesv.ownBlock.toList, t ∈ X ++ (edgesv.ownBlock.toList ++ next2.ownBlock.toList) ∨ wq.heap.size ≤ t := fun t ht => .inl (List.mem_append.2 (.inr (List.mem_append.2 (.inl ht))))
  have hv6 : vs6.take 6 = vs6 := rfl
  have hnx := nextL_snoc hS []
  have hrow : row = rowP (nextL layer []) S := by rw [hJ.rv, hv6]; rfl
  have hnl := hJ.nl; have hne := hJ.ne
  rw [hv6, ← hnx] at hnl hne
  refine ⟨(h.gr.step hJ.gr fun t ht => .inr (h.no.own (Option.mem_toList.1 ht)).1).step hg fun t ht => .inr (h.eo.own (Option.mem_toList.1 ht)).1, hown, by rw [List.length_append, h.el]; rfl, fun j u r hu hr => ?_, hJ.no.keep hg fun b hb hx => (hnE b hb).2 (Option.mem_toList.1 hx), hnl, fun j u T hu hT => ?_, fun b hb hx => ?_⟩
  · by_cases hj : j < es.length
    · rw [List.getElem?_append_left hj] at hu
      refine ((h.ee j u r hu hr).mv (L' := X ++ (edgesv.ownBlock.toList ++ next2.ownBlock.toList)) hJ.gr (fun t ht => .inl (List.mem_append.2 (.inr (List.mem_append.2 (.inr ht))))) (fun b hb => ?_)).mv hg hT2 hL2
      simp only [List.mem_append, Option.mem_toList] at hb ⊢
      rcases hb with hb | hb | hb
      · exact .inl (.inl hb)
      · exact .inl (.inr (.inl hb))
      · exact (hJ.nb b hb).imp (fun h => .inr (.inr h)) id
    · have hje : j = a := by
        have := (List.getElem?_eq_some_iff.1 hu).1
        rw [List.length_append, h.el] at this
        have := h.el
        simp at *; omega
      subst hje
      rw [List.getElem?_append_right (by omega), h.el, Nat.sub_self] at hu
      rw [List.getElem?_map, hS] at hr
      simp at hu hr
      rw [← hu, ← hr, ← hrow]
      refine (hJ.oo.numsB (S := X ++ (edgesv.ownBlock.toList ++ next2.ownBlock.toList)) (fun b hb hx => ?_)).mv hg hT2 hL2
      simp only [List.mem_append, Option.mem_toList] at hx
      rcases hx with hx | hx | hx
      · have := hX b hx; have := (hJ.oo.ownB hb).1; omega
      · have := hE b hx; have := (hJ.oo.ownB hb).1; omega
      · exact hJ.nO b hx hb
  · refine (hne j u T hu hT).mv hg (fun t ht => .inl (List.mem_append.2 (.inl (List.mem_append.2 (.inr ht))))) (fun b hb => ?_)
    rcases hL2 b hb with hb | hb
    · simp only [List.mem_append] at hb ⊢
      rcases hb with hb | hb | hb
      · exact .inl (.inl (.inl hb))
      · exact .inl (.inl (.inr hb))
      · exact .inl (.inr (.inl hb))
    · exact .inr hb
  · rcases hwh b hb with h1 | h1
    · exact (hnE b hx).2 h1
    · have := (hnE b hx).1; omega
theorem K1.fin {X : List Nat} {layer : List SS} {w wr : World} {edgesv nextv : Value} {es us : List Value} (hX : ∀ b ∈ X, b < w.heap.size) (h : K1 X layer w layer.length edgesv nextv es us wr) : RowsV X wr edgesv (layer.map (rowP (nextL layer []))) ∧ DgV X wr nextv (nextL layer []) := by
  have hnl := h.nl; have hne := h.ne
  rw [List.take_length] at hnl hne
  have hs : ∀ b ∈ X, b ∈ X ++ (edgesv.ownBlock.toList ++ nextv.ownBlock.toList) := fun b hb => List.mem_append.2 (.inl hb)
  exact ⟨h.eo.rows (by rw [h.el, List.length_map]) (fun b hb hx => by have := (h.eo.own hb).1; have := hX b hx; omega) fun j u r hu hr => (h.ee j u r hu hr).sub (fun b _ hb => hs b hb), h.no.dg hnl (fun b hb hx => by have := (h.no.own hb).1; have := hX b hx; omega) fun j u r hu hr => (hne j u r hu hr).sub (fun b _ hb => hs b hb)⟩

set_option maxRecDepth 100000 in
set_option maxHeartbeats 4000000 in
theorem nextLayer_c (n : Nat) (layer : List SS) (lv : Value) (w : World) (X : List Nat) (hX : ∀ b ∈ X, b < w.heap.size) (hx : DgV X w lv layer) (ho : LayOk (n + 1) layer) (hn : n + 1 ≤ 4) (hl : layer.length ≤ 216) :
    Calls Tryz.prog 25 #[lv] w fun e w' => ∃ ev nv, e = .returned (.tuple #[ev, nv]) ∧ RowsV X w' ev (layer.map (rowP (nextL layer []))) ∧ DgV X w' nv (nextL layer []) ∧ Gr [] w w' := by
  have Hx := hid hx; have Ho := hid ho; have HX := hid hX
  obtain ⟨lo, lc, rfl, ⟨h1, h2, -⟩, -⟩ := hx
  have hFl : (nextL layer []).length ≤ 1296 := by have := nextL_len layer []; simp at this; omega
  have HI0 : Hid (K1 X layer w 0 (.slice (some ⟨w.heap.size, 0, none⟩) 0 0) (.slice (some ⟨w.heap.size + 1, 0, none⟩) 0 0) [] [] ((w.alloc (.cells #[] 23)).alloc (.cells #[] 24))) := hid (by
    have h2 := (OwnV.empty (size := 1) (B := w.heap.size) (w.alloc (.cells #[] 23)) 24 (by simp))
    rw [World.size_alloc] at h2
    exact ⟨((Gr.refl _ _).alloc _).alloc _, (OwnV.empty w _ (Nat.le_refl _)).gr ((Gr.refl _ _).alloc _), rfl, by simp, h2, by simp [nextL], by simp, fun b hb hx => by rw [ob] at hb hx; cases hb; simp at hx⟩)
  clear ho hX
  go_enter Tryz.func25, Tryz.ntmps25
  go_wp2_with fail
  go_loopw [4, 5, 6] (fun edgesv nextv u wr => ∃ (a : Nat) (es us : List Value), a ≤ layer.length ∧ u = .int .i64 a ∧ K1 X layer w a edgesv nextv es us wr) (fun _ _ u _ => layer.length - (intOf u).toNat)
  case atStart => exact ⟨0, [], [], by omega, rfl, HI0.out⟩
  case round =>
    obtain ⟨a, es, us, ha, rfl, hI⟩ := hrel
    have HI := hid hI
    obtain ⟨eo, ec, hev, hec⟩ := hI.eo.form
    rw [List.length_map] at hev hec
    subst hev
    obtain ⟨no, nc, hnv, hnc⟩ := hI.no.form
    rw [List.length_map] at hnv hnc
    subst hnv
    clear hI
    by_cases hlt : a < layer.length
    · obtain ⟨S, hS⟩ := get_some hlt
      obtain ⟨hS0, hSg⟩ := Ho.out.el S (List.mem_of_getElem? hS)
      have hSc : S.length ≤ 10000 := by
        have h1 := good_card (n + 1) S hSg
        have h2 : 6 ^ (n + 1) ≤ 6 ^ 4 := Nat.pow_le_pow_right (by decide) hn
        omega
      have hne : ∀ t ∈ S, t ≠ [] := fun t ht e => by
        have := (good_len (n + 1) S hSg t ht).1
        rw [e] at this; simp at this
      have HSi := hid hS; have HSg := hid hSg; have Hne := hid hne
      have hJ0 : K2 layer S w.heap.size a 0 (X ++ (Value.slice eo es.length ec).ownBlock.toList) (.slice no us.length nc) (.slice no us.length nc) (.slice (some ⟨wr.heap.size, 0, none⟩) 0 0) us [] wr (wr.alloc (.cells #[] 3)) := by
        have hg : Gr [] wr (wr.alloc (.cells #[] 3)) := (Gr.refl _ _).alloc _
        refine ⟨hg.any, Own.empty wr _ (Nat.le_refl _), rfl, HI.out.no.gr hg, HI.out.nl, fun j u T hu hT => (HI.out.ne j u T hu hT).mv hg (by simp) (fun b hb => ?_), fun b hb => .inl hb, fun b hb hx => ?_⟩
        · rw [ob] at hb
          simp only [List.mem_append, Option.toList_some, List.mem_singleton] at hb
          rcases hb with (hb | hb) | hb | hb
          · exact .inl (List.mem_append.2 (.inl hb))
          · exact .inl (List.mem_append.2 (.inr (List.mem_append.2 (.inl hb))))
          · exact .inl (List.mem_append.2 (.inr (List.mem_append.2 (.inr hb))))
          · exact .inr (by omega)
        · rw [ob] at hx; cases hx
          have := (HI.out.no.own hb).2; omega
      have HJ0 := hid hJ0
      clear hS hSg hne hJ0 hS0
      go_wp2_with fail
      go_loopw [5, 7, 8] (fun nextv outv u wq => ∃ (c : Nat) (us' : List Value) (row : List Int), c ≤ 6 ∧ u = .int .i64 c ∧ K2 layer S w.heap.size a c (X ++ (Value.slice eo es.length ec).ownBlock.toList) (.slice no us.length nc) nextv outv us' row wr wq) (fun _ _ u _ => 6 - (intOf u).toNat)
      case atStart => exact ⟨0, us, [], by omega, rfl, HJ0.out⟩
      case round =>
        obtain ⟨wq, rfl⟩ : ∃ wq, wq = wr := ⟨_, rfl⟩
        obtain ⟨c, us', row, hc6, rfl, hJ⟩ := hrel
        have HJ := hid hJ
        obtain ⟨po, pc, hpv, hpc⟩ := hJ.no.form
        rw [List.length_map] at hpv hpc
        subst hpv
        obtain ⟨qo, qc, rfl, hq1, hq2⟩ := hJ.oo.form2
        clear hJ
        by_cases hlc : c < 6
        · have hc5 : c ≤ 5 := by omega
          have hv6 := vs6_get hlc
          have hgwq : Gr [] w wq := HI.out.gr.step HJ.out.gr (fun t ht => .inr (HI.out.no.own (Option.mem_toList.1 ht)).1)
          have hlay : DgV ((X ++ (Value.slice eo es.length ec).ownBlock.toList) ++ ((Value.slice po us'.length pc).ownBlock.toList ++ (Value.slice qo row.length qc).ownBlock.toList)) wq (.slice lo layer.length lc) layer :=
            (Hx.out.mv hgwq (by simp) (fun b hb => by
              simp only [List.mem_append, Option.mem_toList] at hb
              rcases hb with (hb | hb) | hb | hb
              · exact .inl hb
              · exact .inr (HI.out.eo.own hb).1
              · exact .inr (HJ.out.no.own hb).1
              · have h1 := (HJ.out.oo.ownB hb).1; have h2 := HI.out.gr.size; exact .inr (by omega)))
          obtain ⟨bl, ol, uo, uc, rfl, -, hcl, -, hrows⟩ := hlay.at3 HSi.out
          have Hgwq := hid hgwq
          have hsf := suffixes_c _ S _ (c : Int) wq hrows (fun b hb => by
              simp only [List.mem_append, Option.mem_toList] at hb
              rcases hb with (hb | hb) | hb | hb
              · have h1 := HX.out b hb; have h2 := Hgwq.out.size; omega
              · have h1 := (HI.out.eo.own hb).2; have h2 := HJ.out.gr.size; omega
              · exact (HJ.out.no.own hb).2
              · exact (HJ.out.oo.ownB hb).2) Hne.out hSc
          have Hsf := hid hsf; have Hv6 := hid hv6
          clear hlay hrows hsf hv6 hgwq
          go_wp2_with fail
          refine Hsf.out.mono ?_
          rintro e w4 ⟨rv, rfl, hr4, hg4⟩
          obtain ⟨r, hr⟩ : ∃ r, r = sufs S (c : Int) := ⟨_, rfl⟩
          rw [← hr] at hr4
          obtain ⟨ro, rc, rfl, ⟨hr1, hr2, -⟩, -⟩ := id hr4
          obtain ⟨nx, hnx⟩ : ∃ nx, nx = nextV S (vs6.take c) (nextL (layer.take a) []) := ⟨_, rfl⟩
          have hnl := HJ.out.nl
          rw [← hnx] at hnl
          have hnd : nx.Nodup := by rw [hnx]; exact nextV_nodup _ _ _ (nextL_nodup _ _ List.nodup_nil)
          have hpre : nx <+: nextL layer [] := by rw [hnx]; exact nextVL_take HSi.out _ _
          have hul : us'.length ≤ 1296 := by rw [hnl]; exact Nat.le_trans hpre.length_le hFl
          have Hr := hid hr; have Hr4 := hid hr4; have Hg4 := hid hg4; have Hnx := hid hnx; have Hnl := hid hnl; have Hnd := hid hnd; have Hpre := hid hpre
          clear hr hr4 hg4 hnx hnl hnd hpre hcl
          go_wp2_with fail
          go_loopw [10, 11] (fun to u wz => ∃ m : Nat, m ≤ us'.length ∧ u = .int .i64 m ∧ to = .int .i64 (ixF (nx.take m) r) ∧ (r = [] → m = 0) ∧ Gr [] w4 wz) (fun _ u _ => us'.length - (intOf u).toNat)
          case atStart => exact ⟨0, by omega, rfl, by simp [ixF], fun _ => rfl, Gr.refl _ _⟩
          case round =>
            obtain ⟨wz, rfl⟩ : ∃ wz, wz = wr := ⟨_, rfl⟩
            obtain ⟨m, hm, rfl, rfl, hm0, hgz⟩ := hrel
            have Hgz := hid hgz; have Hm0 := hid hm0
            clear hgz hm0
            by_cases hgo : m < us'.length ∧ 0 < r.length
            · obtain ⟨hm1, hr0⟩ := hgo
              obtain ⟨T, hT⟩ := get_some (xs := nx) (k := m) (by rw [← Hnl.out]; exact hm1)
              obtain ⟨u, hu⟩ := get_some hm1
              have hrT := (HJ.out.ne m u T hu (by rw [← Hnx.out]; exact hT)).sub (S' := []) (by simp)
              have hgqz : Gr [] wq wz := Hg4.out.trans Hgz.out
              obtain ⟨g, gc, e, -, hc, -⟩ := (HJ.out.no.gr hgqz).at (i := m) (cs := [u]) (by rw [List.getElem?_map, hu]; rfl)
              rw [List.length_map] at e
              simp only [Value.slice.injEq] at e
              obtain ⟨rfl, -, rfl⟩ := e
              obtain ⟨to, tc, rfl, ⟨ht1, ht2, -⟩, -⟩ := id hrT
              have hcu : wz.cell? ⟨g, m, none⟩ = some (.slice to (List.length T) tc) := by simpa using hc 0 _ rfl
              have htk := ixF_take (r := r) Hnd.out hT
              have Hht := hid htk; have HrT := hid (hrT.gr hgqz)
              obtain ⟨q, hq⟩ : ∃ q, q = ixF (nx.take m) r := ⟨_, rfl⟩
              rw [← hq]
              have Hq := hid hq
              clear htk hrT hgqz hc hT hu hq
              go_wp2_with fail
              refine (equalTuples_c T r _ _ wz HrT.out (((Hr4.out.gr Hgz.out.any)).sub (by simp))).mono ?_
              rintro e w5 ⟨rfl, hg5⟩
              have Hg5 := hid (Hgz.out.trans hg5)
              clear hg5
              by_cases hTr : T = r
              · rw [decide_eq_true hTr]
                have HTr := hid hTr
                clear hTr
                go_wp2_with fail
                refine ⟨⟨m + 1, by omega, by go_num, ?_, fun e => ?_, Hg5.out⟩, by simp [intOf]; omega⟩
                · rw [Hht.out, if_pos HTr.out]
                · rw [e] at hr0; simp at hr0
              · rw [decide_eq_false hTr]
                have HTr := hid hTr
                clear hTr
                go_wp2_with fail
                refine ⟨⟨m + 1, by omega, by go_num, ?_, fun e => ?_, Hg5.out⟩, by simp [intOf]; omega⟩
                · rw [Hht.out, if_neg HTr.out, Hq.out]
                · rw [e] at hr0; simp at hr0
            · have hownO : Own wr.heap.size wz 3 (.slice qo row.length qc) row := HJ.out.oo.keepB (Hg4.out.trans Hgz.out) (by simp)
              have HownO := hid hownO
              have hownN : OwnV 1 w.heap.size wz 24 (.slice po us'.length pc) (us'.map fun u => [u]) := HJ.out.no.gr (Hg4.out.trans Hgz.out)
              have HownN := hid hownN
              clear hownO hownN
              have hrw : row.length ≤ 6 := by
                have h2 := congrArg List.length HJ.out.rv
                simp only [List.length_map, List.length_take] at h2
                have : vs6.length = 6 := rfl
                omega
              by_cases hr0 : r = []
              · have hm := Hm0.out hr0
                subst hm
                have hrl : r.length = 0 := by rw [hr0]; rfl
                have hq0 : (-1 : Int) = ixL (nextL layer []) (sufs S (c : Int)) := by rw [← Hr.out]; unfold ixL; rw [if_pos hr0]
                have hix : ixF (nx.take 0) r = -1 := by simp [ixF]
                have hsk : sufs S (c : Int) = [] ∨ sufs S (c : Int) ∈ nextV S (vs6.take c) (nextL (layer.take a) []) := .inl (by rw [← Hr.out]; exact hr0)
                rw [hix]
                have Hq0 := hid hq0; have Hsk := hid hsk
                clear hr0 hix hgo hq0 hsk
                by_cases hu0 : 0 < us'.length
                · skip
                  go_wp2_with (at_builtin; refine wp_appNL rfl _ _ 23 rfl wr.heap.size 3 infoInt Tryz.underlying23 _ row rfl (HownO.out.alloc _) _ 1 (-1) rfl (cell_new _ _ _) (by omega) (by have h1 := HJ.out.gr.size; have h2 := Hg4.out.size; have h3 := Hgz.out.size; simp; omega) ?_; intro g6 c6 w6 hown6 hg6 hwh6 hlt6)
                  have hgal : Gr [] wz (wz.alloc (.cells #[.int .i64 (-1)] 3)) := (Gr.refl _ _).alloc _
                  have hsA := hgal.size
                  have hgO : Gr (Value.slice qo row.length qc).ownBlock.toList wz w6 := hgal.any.trans hg6
                  have hnob : ∀ b, (Value.slice po us'.length pc).ownBlock = some b → b < wz.heap.size ∧ (Value.slice qo row.length qc).ownBlock ≠ some b := fun b hb => ⟨(HownN.out.own hb).2, HJ.out.nO b hb⟩
                  have hsz3 := Hgz.out.size
                  refine ⟨⟨c + 1, us', row ++ [-1], by omega, by go_num, HJ.out.next hlc HSi.out Hg4.out (-1) Hq0.out (Hgz.out.any.trans (hgO.sub (fun t _ ht => List.mem_append.2 (.inr ht)))) hown6 (HownN.out.keep hgO (fun b hb hx => (hnob b hb).2 (Option.mem_toList.1 hx))) (.inl ⟨rfl, Hsk.out⟩) (fun b hb => .inl hb) (fun b hb => ?_) (fun b hb hx => ?_)⟩, by simp [intOf]; omega⟩
                  · rw [ob] at hb; cases hb
                    exact hwh6.imp id (fun h => by omega)
                  · rw [ob] at hx; cases hx
                    rcases hwh6 with h | h
                    · exact (hnob _ hb).2 h
                    · have := (hnob _ hb).1; omega
                · skip
                  go_wp2_with (at_builtin; refine wp_appNL rfl _ _ 23 rfl wr.heap.size 3 infoInt Tryz.underlying23 _ row rfl (HownO.out.alloc _) _ 1 (-1) rfl (cell_new _ _ _) (by omega) (by have h1 := HJ.out.gr.size; have h2 := Hg4.out.size; have h3 := Hgz.out.size; simp; omega) ?_; intro g6 c6 w6 hown6 hg6 hwh6 hlt6)
                  have hgal : Gr [] wz (wz.alloc (.cells #[.int .i64 (-1)] 3)) := (Gr.refl _ _).alloc _
                  have hsA := hgal.size
                  have hgO : Gr (Value.slice qo row.length qc).ownBlock.toList wz w6 := hgal.any.trans hg6
                  have hnob : ∀ b, (Value.slice po us'.length pc).ownBlock = some b → b < wz.heap.size ∧ (Value.slice qo row.length qc).ownBlock ≠ some b := fun b hb => ⟨(HownN.out.own hb).2, HJ.out.nO b hb⟩
                  have hsz3 := Hgz.out.size
                  refine ⟨⟨c + 1, us', row ++ [-1], by omega, by go_num, HJ.out.next hlc HSi.out Hg4.out (-1) Hq0.out (Hgz.out.any.trans (hgO.sub (fun t _ ht => List.mem_append.2 (.inr ht)))) hown6 (HownN.out.keep hgO (fun b hb hx => (hnob b hb).2 (Option.mem_toList.1 hx))) (.inl ⟨rfl, Hsk.out⟩) (fun b hb => .inl hb) (fun b hb => ?_) (fun b hb hx => ?_)⟩, by simp [intOf]; omega⟩
                  · rw [ob] at hb; cases hb
                    exact hwh6.imp id (fun h => by omega)
                  · rw [ob] at hx; cases hx
                    rcases hwh6 with h | h
                    · exact (hnob _ hb).2 h
                    · have := (hnob _ hb).1; omega
              · have hpos : 0 < r.length := List.length_pos_iff.2 hr0
                have hme : m = us'.length := by
                  by_cases h : m < us'.length
                  · exact absurd ⟨h, hpos⟩ hgo
                  · omega
                subst hme
                by_cases hin : r ∈ nx
                · have hix : ixF (nx.take us'.length) r = (nx.idxOf r : Int) := by rw [Hnl.out, List.take_length, ixF_pos hin]
                  rw [hix]
                  obtain ⟨q, hq⟩ : ∃ q, q = nx.idxOf r := ⟨_, rfl⟩
                  rw [← hq]
                  have hq0 : (q : Int) = ixL (nextL layer []) (sufs S (c : Int)) := by
                    rw [← Hr.out, ixL_pre Hpre.out (.inr hin), hq]; unfold ixL; rw [if_neg hr0]
                  have hsk : sufs S (c : Int) = [] ∨ sufs S (c : Int) ∈ nextV S (vs6.take c) (nextL (layer.take a) []) := .inr (by rw [← Hr.out, ← Hnx.out]; exact hin)
                  have Hq0 := hid hq0; have Hsk := hid hsk
                  clear hr0 hix hgo hq0 hsk hq hin
                  go_wp2_with (at_builtin; refine wp_appNL rfl _ _ 23 rfl wr.heap.size 3 infoInt Tryz.underlying23 _ row rfl (HownO.out.alloc _) _ 1 ((q : Int)) rfl (cell_new _ _ _) (by omega) (by have h1 := HJ.out.gr.size; have h2 := Hg4.out.size; have h3 := Hgz.out.size; simp; omega) ?_; intro g6 c6 w6 hown6 hg6 hwh6 hlt6)
                  have hgal : Gr [] wz (wz.alloc (.cells #[.int .i64 ((q : Int))] 3)) := (Gr.refl _ _).alloc _
                  have hsA := hgal.size
                  have hgO : Gr (Value.slice qo row.length qc).ownBlock.toList wz w6 := hgal.any.trans hg6
                  have hnob : ∀ b, (Value.slice po us'.length pc).ownBlock = some b → b < wz.heap.size ∧ (Value.slice qo row.length qc).ownBlock ≠ some b := fun b hb => ⟨(HownN.out.own hb).2, HJ.out.nO b hb⟩
                  have hsz3 := Hgz.out.size
                  refine ⟨⟨c + 1, us', row ++ [(q : Int)], by omega, by go_num, HJ.out.next hlc HSi.out Hg4.out ((q : Int)) Hq0.out (Hgz.out.any.trans (hgO.sub (fun t _ ht => List.mem_append.2 (.inr ht)))) hown6 (HownN.out.keep hgO (fun b hb hx => (hnob b hb).2 (Option.mem_toList.1 hx))) (.inl ⟨rfl, Hsk.out⟩) (fun b hb => .inl hb) (fun b hb => ?_) (fun b hb hx => ?_)⟩, by simp [intOf]; omega⟩
                  · rw [ob] at hb; cases hb
                    exact hwh6.imp id (fun h => by omega)
                  · rw [ob] at hx; cases hx
                    rcases hwh6 with h | h
                    · exact (hnob _ hb).2 h
                    · have := (hnob _ hb).1; omega
                · have hix : ixF (nx.take us'.length) r = -1 := by rw [Hnl.out, List.take_length, ixF_neg hin]
                  rw [hix]
                  have Hin := hid hin; have Hr0 := hid hr0
                  clear hr0 hix hgo hin
                  have hul2 : us'.length ≤ 1296 := by rw [Hnl.out]; exact Nat.le_trans Hpre.out.length_le hFl
                  go_wp2_with (first
                    | (at_builtin; refine wp_appV rfl _ _ 29 rfl 1 w.heap.size 24 _ 24 infoRr rfl (by omega) (by omega) Tryz.underlying29 _ (us'.map fun u => [u]) rfl (HownN.out.gr ((Gr.refl _ _).alloc _)) _ 1 [.slice ro r.length rc] rfl rfl (by simp [Value.oneCell']) (fun j u hj => by match j, hj with | 0, hj => (simp at hj; subst hj; exact cell_new _ _ _) | j + 1, hj => simp at hj) (by rw [List.length_map]; omega) (by have := HI.out.gr.size; have h1 := HJ.out.gr.size; have h2 := Hg4.out.size; have h3 := Hgz.out.size; simp; omega) ?_; intro g5 c5 w5 hown5 hg5 hwh5 hlt5
                       have HgN : Hid (Gr (Value.slice po us'.length pc).ownBlock.toList wz w5) := hid (((Gr.refl [] wz).alloc _).any.trans hg5)
                       have HsA : Hid ((Value.slice po us'.length pc).ownBlock = some g5 ∨ wz.heap.size ≤ g5) := hid (hwh5.imp id (fun h => by rw [World.size_alloc] at h; omega))
                       have Hown5 := hid hown5
                       have HownO5 : Hid (Own wr.heap.size w5 3 (.slice qo row.length qc) row) := hid (HownO.out.keepB HgN.out (fun g hg hm => HJ.out.nO g (Option.mem_toList.1 hm) hg))
                       clear hown5 hg5 hwh5)
                    | (at_builtin; refine wp_appNL rfl _ _ 23 rfl wr.heap.size 3 infoInt Tryz.underlying23 _ row rfl (HownO5.out.alloc _) _ 1 _ rfl (cell_new _ _ _) (by omega) (by have h1 := HJ.out.gr.size; have h2 := Hg4.out.size; have h3 := Hgz.out.size; have h4 := HgN.out.size; simp; omega) ?_; intro g6 c6 w6 hown6 hg6 hwh6 hlt6))
                  have hown5 := Hown5.out
                  rw [List.length_map] at hown5
                  have hq : (us'.length : Int) = ixL (nextL layer []) (sufs S (c : Int)) := by
                    have hp := nextVL_take HSi.out (c + 1) []
                    rw [nextV_snoc (vs6_get hlc), ← Hnx.out, ← Hr.out] at hp
                    unfold hitL at hp
                    rw [if_neg (by rw [not_or]; exact ⟨Hr0.out, Hin.out⟩)] at hp
                    rw [← Hr.out, ixL_pre hp (.inr (by simp)), Hnl.out]
                    unfold ixL
                    rw [if_neg Hr0.out, List.idxOf_append, if_neg Hin.out]
                    simp
                  have hgal : Gr [] w5 (w5.alloc (.cells #[.int .i64 (us'.length : Int)] 3)) := (Gr.refl _ _).alloc _
                  have hsB := hgal.size
                  have hgO : Gr (Value.slice qo row.length qc).ownBlock.toList w5 w6 := hgal.any.trans hg6
                  have hsz3 := Hgz.out.size; have hsz4 := Hg4.out.size; have hsz5 := HgN.out.size
                  have hg5 : (Value.slice qo row.length qc).ownBlock ≠ some g5 := fun hx => by
                    rcases HsA.out with h | h
                    · exact HJ.out.nO g5 h hx
                    · have := (HJ.out.oo.ownB hx).2; omega
                  refine ⟨⟨c + 1, us' ++ [.slice ro r.length rc], row ++ [(us'.length : Int)], by omega, by go_num, HJ.out.next hlc HSi.out Hg4.out (us'.length : Int) hq (Hgz.out.any.trans ((HgN.out.sub (fun t _ ht => List.mem_append.2 (.inl ht))).trans (hgO.sub (fun t _ ht => List.mem_append.2 (.inr ht))))) hown6 ((by simpa using hown5 : OwnV 1 w.heap.size w5 24 (.slice (some ⟨g5, 0, none⟩) (us'.length + 1) c5) ((us' ++ [Value.slice ro r.length rc]).map fun u => [u])).keep hgO (fun b hb hx => by rw [ob] at hb; cases hb; exact hg5 (Option.mem_toList.1 hx))) (.inr ⟨_, rfl, by rw [← Hr.out]; exact Hr0.out, by rw [← Hr.out, ← Hnx.out]; exact Hin.out, by rw [← Hr.out]; exact Hr4.out⟩) (fun b hb => ?_) (fun b hb => ?_) (fun b hb hx => ?_)⟩, by simp [intOf]; omega⟩
                  · rw [ob] at hb; cases hb
                    exact HsA.out.imp id (fun h => by omega)
                  · rw [ob] at hb; cases hb
                    exact hwh6.imp id (fun h => by omega)
                  · rw [ob] at hb hx; cases hb; cases hx
                    rcases hwh6 with h | h
                    · exact hg5 h
                    · omega
        · have hce : c = 6 := by omega
          subst hce
          have hel : es.length ≤ 216 := by have := HI.out.el; omega
          go_wp2_with (at_builtin; refine wp_appV rfl _ _ 24 rfl 1 w.heap.size 23 _ 24 infoRw rfl (by omega) (by omega) Tryz.underlying24 _ (es.map fun u => [u]) rfl ((HI.out.eo.keep HJ.out.gr (fun b hb hx => HI.out.en b hb (Option.mem_toList.1 hx))).gr ((Gr.refl _ _).alloc _)) _ 1 [.slice qo row.length qc] rfl rfl (by simp [Value.oneCell']) (fun j u hj => by match j, hj with | 0, hj => (simp at hj; subst hj; exact cell_new _ _ _) | j + 1, hj => simp at hj) (by rw [List.length_map]; omega) (by have h1 := HI.out.gr.size; have h2 := HJ.out.gr.size; simp; omega) ?_; intro g6 c6 w6 hown6 hg6 hwh6 hlt6)
          have hgal : Gr [] wq (wq.alloc (.cells #[.slice qo row.length qc] 23)) := (Gr.refl _ _).alloc _
          have hsB := hgal.size
          rw [List.length_map] at hown6
          refine ⟨⟨a + 1, es ++ [.slice qo row.length qc], us', by omega, by go_num, HI.out.next HX.out HJ.out HSi.out (hgal.any.trans hg6) (by simpa using hown6) fun b hb => ?_⟩, by simp [intOf]; omega⟩
          rw [ob] at hb; cases hb
          exact hwh6.imp id (fun h => by omega)
    · have hae : a = layer.length := by omega
      subst hae
      go_wp2_with fail
      go_ret2
      exact ⟨_, _, rfl, (HI.out.fin HX.out).1, (HI.out.fin HX.out).2, HI.out.gr⟩
end Go.Proofs.YtmonhpoogfdpoaaGreat
