/-
  Lists of literals with a home; owned lists of literals; the order of literals as a comparison. No program is mentioned.
  Lists of literals as the library's sort reads them, and what the sort makes of them. No program is mentioned.
-/
import Derived.Test.YtlekngkcifgonaaGreatXLtStP
import Derived.Test.YtlekngkcifgonaaGreatXEO
import Derived.Lib.Small
import Derived.Shelf.SlSortCmp.NoneTotal
set_option linter.unusedVariables false
set_option linter.unusedSimpArgs false
namespace Go.Proofs.YtlekngkcifgonaaGreat
open Go.RowKit

def LitsM (M : Nat → Prop) (w : World) (v : Value) (ls : Cls) : Prop :=
  ∃ ao cap, v = .slice ao ls.length cap ∧ (ls.length ≤ cap ∧ cap ≤ 9223372036854775807 ∧ (ao = none → cap = 0)) ∧
    ∀ i l, ls[i]? = some l → ∃ b o, ao = some ⟨b, o, none⟩ ∧ M b ∧
      (w.cell? ⟨b, o + i * 3, none⟩ = some (.int .i64 l.var) ∧ w.cell? ⟨b, o + i * 3 + 1, none⟩ = some (.int .i64 l.val) ∧ w.cell? ⟨b, o + i * 3 + 2, none⟩ = some (.bool l.neg)) ∧
      (∀ r, r < 3 → w.frozen? ⟨b, o + i * 3 + r, none⟩ = false)
section
variable {M M' : Nat → Prop} {S : List Nat} {w w' : World}
theorem LitsM.move {v : Value} {ls : Cls} (h : LitsM M w v ls) (hc : ∀ a u, M a.block → w.cell? a = some u → w'.cell? a = some u ∧ w'.frozen? a = w.frozen? a ∧ M' a.block) : LitsM M' w' v ls := by
  obtain ⟨ao, cap, e, hl, h⟩ := h
  refine ⟨ao, cap, e, hl, fun i x hi => ?_⟩
  obtain ⟨b, o, e1, hm, ⟨c0, c1, c2⟩, hf⟩ := h i x hi
  obtain ⟨k0, f0, k3⟩ := hc ⟨b, o + i * 3, none⟩ _ hm c0
  obtain ⟨k1, f1, _⟩ := hc ⟨b, o + i * 3 + 1, none⟩ _ hm c1
  obtain ⟨k2, f2, _⟩ := hc ⟨b, o + i * 3 + 2, none⟩ _ hm c2
  refine ⟨b, o, e1, k3, ⟨k0, k1, k2⟩, fun r hr => ?_⟩
  match r, hr with
  | 0, _ => exact f0.trans (hf 0 (by omega))
  | 1, _ => exact f1.trans (hf 1 (by omega))
  | 2, _ => exact f2.trans (hf 2 (by omega))
theorem LitsM.gr' {v : Value} {ls : Cls} (h : LitsM M w v ls) (hg : Gr S w w') (hS : ∀ b ∈ S, ¬ M b) (hM : ∀ b, b < w.heap.size → M b → M' b) : LitsM M' w' v ls := h.move (keepGr hg hS hM)
theorem LitsM.new {B : Nat} {v : Value} {ls : Cls} (h : LitsM (New B w) w v ls) (hg : Gr [] w w') : LitsM (New B w') w' v ls := h.gr' hg (by simp) fun b _ h => ⟨h.1, Nat.lt_of_lt_of_le h.2 hg.size⟩
theorem LitsM.le {B B' : Nat} {v : Value} {ls : Cls} (h : LitsM (New B w) w v ls) (hB : B' ≤ B) : LitsM (New B' w) w v ls := h.move fun a u hm hu => ⟨hu, rfl, Nat.le_trans hB hm.1, hm.2⟩
theorem LitsM.lits {v : Value} {ls : Cls} (h : LitsM M w v ls) (hS : ∀ b ∈ S, ¬ M b) : LitsV S w v ls :=
  let ⟨ao, cap, e, hl, h⟩ := h
  ⟨ao, cap, e, hl, fun i l hi => let ⟨b, o, e1, hm, hc, _⟩ := h i l hi; ⟨b, o, e1, fun hb => hS b hb hm, hc⟩⟩
theorem LitsM.at {ao : Option Addr} {n cap : Nat} {ls : Cls} (h : LitsM M w (.slice ao n cap) ls) {i : Nat} {l : Lit} (hi : ls[i]? = some l) :
    ∃ b o, ao = some ⟨b, o, none⟩ ∧ M b ∧ (w.cell? ⟨b, o + i * 3, none⟩ = some (.int .i64 l.var) ∧ w.cell? ⟨b, o + i * 3 + 1, none⟩ = some (.int .i64 l.val) ∧ w.cell? ⟨b, o + i * 3 + 2, none⟩ = some (.bool l.neg)) ∧
      (∀ r, r < 3 → w.frozen? ⟨b, o + i * 3 + r, none⟩ = false) := by
  obtain ⟨ao', cap', e, _, h⟩ := h
  simp only [Value.slice.injEq] at e
  obtain ⟨rfl, _, _⟩ := e
  exact h i l hi
theorem LitsM.slice {v : Value} {ls : Cls} (h : LitsM M w v ls) : ∃ ao cap, v = .slice ao ls.length cap ∧ (ls.length ≤ cap ∧ cap ≤ 9223372036854775807 ∧ (ao = none → cap = 0)) := by
  obtain ⟨ao, cap, e, h1, -⟩ := h
  exact ⟨ao, cap, e, h1⟩
end

/-! ### Lists of the call's own -/
def elLit (S : List Nat) (w : World) (cs : List Value) (l : Lit) : Prop := cs = litC l
theorem litC_one (l : Lit) : ∀ u ∈ litC l, u.oneCell' = true := by intro u hu; simp [litC] at hu; rcases hu with rfl | rfl | rfl <;> rfl
theorem OwnG.litsM {B : Nat} {w : World} {e : TypeId} {v : Value} {ls : Cls} (h : OwnG 3 elLit B w e v ls) : LitsM (New B w) w v ls := by
  obtain ⟨ao, cap, rfl, h1, h2, h3⟩ := h.slice
  refine ⟨ao, cap, rfl, ⟨h1, h2, h3⟩, fun i l hi => ?_⟩
  obtain ⟨g, cap', cs, e1, hb, hlt, hlen, hc, hf, hel⟩ := h.cell hi
  cases e1
  have hcs := hel [] (by simp)
  unfold elLit at hcs
  subst hcs
  have c0 := hc 0 _ rfl
  have c1 := hc 1 _ rfl
  have c2 := hc 2 _ rfl
  refine ⟨g, 0, rfl, ⟨hb, hlt⟩, ⟨?_, ?_, ?_⟩, fun r _ => hf _⟩
  · simpa using c0
  · simpa [Nat.add_assoc] using c1
  · simpa [Nat.add_assoc] using c2
/-! ### The order as a comparison -/
def bitI (b : Bool) : Int := if b then 1 else 0
def cmpL (a b : Lit) : Int :=
  if Lib.compareInt a.var b.var ≠ 0 then Lib.compareInt a.var b.var else if Lib.compareInt a.val b.val ≠ 0 then Lib.compareInt a.val b.val else Lib.compareInt (bitI a.neg) (bitI b.neg)
theorem compareInt_lt {x y : Int} : Lib.compareInt x y < 0 ↔ x < y := by unfold Lib.compareInt; split <;> rename_i h; simp [h]; split <;> simp <;> omega
theorem compareInt_eq {x y : Int} : Lib.compareInt x y = 0 ↔ x = y := by
  unfold Lib.compareInt
  split
  · simp; omega
  · split
    · simp; omega
    · simp; omega
theorem cmpL_lt (a b : Lit) : decide (cmpL a b < 0) = litLt a b := by
  rw [Bool.eq_iff_iff, decide_eq_true_eq, litLt_iff]
  unfold cmpL
  by_cases h1 : a.var = b.var
  · rw [if_neg (by simp [compareInt_eq.2 h1])]
    by_cases h2 : a.val = b.val
    · rw [if_neg (by simp [compareInt_eq.2 h2]), compareInt_lt]
      cases ha : a.neg <;> cases hb : b.neg <;> simp [bitI, h1, h2]
    · rw [if_pos (by simp [compareInt_eq, h2]), compareInt_lt]
      simp [h1, h2]
  · rw [if_pos (by simp [compareInt_eq, h1]), compareInt_lt]
    simp [h1]
theorem cmpL_nn (a b : Lit) : decide (0 ≤ cmpL a b) = !litLt a b := by
  rw [← cmpL_lt]
  by_cases h : cmpL a b < 0
  · rw [decide_eq_false (by omega), decide_eq_true h]; rfl
  · rw [decide_eq_true (by omega), decide_eq_false h]; rfl
theorem total_litLt (x y : Lit) (h1 : litLt x y = false) (h2 : litLt y x = false) : x = y := by
  rcases litLt_tri x y with h | h | h
  · rw [h1] at h; cases h
  · exact h
  · rw [h2] at h; cases h
/-! ### What a negated list says -/
theorem trueB_negL (l : Lit) (x : List Int) : trueB (negL l) x = !trueB l x := by unfold trueB negL; cases h : (x.getD l.var.toNat 0 == l.val) <;> cases l.neg <;> rfl
theorem map_negL_nodup {c : Cls} (h : c.Nodup) : (c.map negL).Nodup := by
  refine List.Pairwise.map _ (fun a b hab e => hab ?_) h
  have := congrArg negL e
  rwa [negL_negL, negL_negL] at this
/-! ### Owned lists and 'append' -/
def OwnL (B : Nat) (w : World) (e : TypeId) (v : Value) (ls : Cls) : Prop := w.ownsRow B e 3 v ls.length (ls.map litC).flatten
theorem OwnL.g {B : Nat} {w : World} {e : TypeId} {v : Value} {ls : Cls} (h : OwnL B w e v ls) : OwnG 3 elLit B w e v ls :=
  ⟨ls.map litC, by simp, fun cs hc => by obtain ⟨l, _, rfl⟩ := List.mem_map.1 hc; exact ⟨rfl, litC_one l⟩, h, fun i cs x h1 h2 S _ => by
    rw [List.getElem?_map, h2] at h1
    exact (Option.some.inj h1).symm⟩
theorem OwnL.litsM {B : Nat} {w : World} {e : TypeId} {v : Value} {ls : Cls} (h : OwnL B w e v ls) : LitsM (New B w) w v ls := h.g.litsM
theorem OwnL.lits {S : List Nat} {B : Nat} {w : World} {e : TypeId} {v : Value} {ls : Cls} (h : OwnL B w e v ls) (hS : ∀ b ∈ S, b < B) : LitsV S w v ls := h.litsM.lits fun b hb hm => by have := hS b hb; have := hm.1; omega
theorem OwnL.gr {S : List Nat} {B : Nat} {w w' : World} {e : TypeId} {v : Value} {ls : Cls} (h : OwnL B w e v ls) (hg : Gr S w w') (hS : ∀ b ∈ S, b < B) : OwnL B w' e v ls := hg.ownsRow h hS
theorem OwnL.le {B B' : Nat} {w : World} {e : TypeId} {v : Value} {ls : Cls} (h : OwnL B w e v ls) (hB : B' ≤ B) : OwnL B' w e v ls := by
  refine ⟨h.1, ?_⟩
  rcases h.2 with hn | ⟨g, cap, cur, rfl, hb, rest⟩
  · exact .inl hn
  · exact .inr ⟨g, cap, cur, rfl, by omega, rest⟩
theorem OwnL.empty {B : Nat} (w : World) (e : TypeId) (hB : B ≤ w.heap.size) : OwnL B (w.alloc (.cells #[] e)) e (.slice (some ⟨w.heap.size, 0, none⟩) 0 0) [] :=
  World.ownsRow_made w #[] 0 hB (by simp [maxLen]) rfl
theorem OwnL.nil (B : Nat) (w : World) (e : TypeId) : OwnL B w e (.slice none 0 0) [] := World.ownsRow_nil _ _ _ _
theorem litC3 (ls : Cls) : ∀ cs ∈ ls.map litC, cs.length = 3 := fun cs hc => by obtain ⟨l, _, rfl⟩ := List.mem_map.1 hc; rfl
theorem flat_one (ls : Cls) : ∀ u ∈ (ls.map litC).flatten, u.oneCell' = true := fun u hu => by
  obtain ⟨c, hc, hm⟩ := List.mem_flatten.1 hu
  obtain ⟨l, _, rfl⟩ := List.mem_map.1 hc
  exact litC_one l u hm
theorem lits_cells {S : List Nat} {w : World} {ad : Addr} {n cap : Nat} {ls : Cls} (h : LitsV S w (.slice (some ad) n cap) ls) : ∀ j u, (ls.map litC).flatten[j]? = some u → w.cell? (ad.add j) = some u := by
  intro j u hj
  rw [flatten_get' (by omega) (litC3 ls), List.getElem?_map] at hj
  cases hc : ls[j / 3]? with
  | none => rw [hc] at hj; cases hj
  | some l =>
    rw [hc] at hj
    obtain ⟨b, o, e, -, c0, c1, c2⟩ := h.at hc
    cases e
    have e1 : (⟨b, o, none⟩ : Addr).add j = ⟨b, o + j, none⟩ := by unfold Addr.add; split <;> simp_all
    have e2 : o + j = o + j / 3 * 3 + j % 3 := by omega
    rw [e1, e2]
    have hr : j % 3 = 0 ∨ j % 3 = 1 ∨ j % 3 = 2 := by omega
    simp only [Option.map_some, Option.bind_some] at hj
    rcases hr with hr | hr | hr <;> rw [hr] at hj ⊢ <;> cases hj
    · exact c0
    · exact c1
    · exact c2
/-- 'append(out, ys...)' on a list of literals of the call's own. -/
theorem wp_appL {P : Program} {w : World} {ops : Array Oper} {rest : List Oper} {o : Oper} {a : Act} {Q : Exit → Act → World → Prop} (hgd : o.guard = none) (s x : Operand) (t : TypeId)
    (ho : o.op = .call { callee := .builtin .append, args := #[s, x], argTypes := #[t, t] }) (B : Nat) (e : TypeId) (z : Value) (bytes : Nat) (hinfo : (P.info? e).map (fun i => (i.zero, i.size, i.bytes)) = some (some z, 3, bytes)) (hzs : z.cells.size = 3) (hby : bytes ≤ 100)
    (ht : P.underlying t = some (.slice e)) (v : Value) (xs ys : Cls) (hs : a.eval s = v) (hown : OwnL B w e v xs) (u : Value) (S : List Nat) (hx : a.eval x = u) (hn : LitsV S w u ys)
    (hlen : xs.length + ys.length ≤ 10000000) (hB : B ≤ w.heap.size)
    (h : ∀ v' w', OwnL B w' e v' (xs ++ ys) → Gr v.ownBlock.toList w w' → wpList P ops Q rest (a.put o.dst v') w') : wpList P ops Q (o :: rest) a w := by
  obtain ⟨i0, hi, hz0, hz1, hz2⟩ := info_parts hinfo
  have Hn := hid hn
  obtain ⟨ao, cap, rfl, ⟨hlc, hcm, hnil⟩, hc⟩ := hn
  cases ao with
  | none =>
    have hy : ys = [] := List.eq_nil_of_length_eq_zero (by have := hnil rfl; omega)
    have hcap := hnil rfl
    subst hy hcap
    exact wpList_append_own_none hgd s x t ho B e i0 3 ht hi v xs.length _ hs hown hx (h _ _ (by simpa using hown) (Gr.refl _ _))
  | some ad =>
    have hbb : (xs.length + ys.length) * bytes ≤ (xs.length + ys.length) * 100 := Nat.mul_le_mul_left _ hby
    refine wpList_append_own w hgd s x t ho B e i0 z 3 bytes ht hi hz0 hz1 hz2 hzs (by decide) v xs.length _ hs hown ad ys.length cap (ys.map litC).flatten hx (by rw [flatten_length' (litC3 ys), List.length_map]) (lits_cells Hn.out) (flat_one ys) (by simp only [maxLen]; omega) (by omega) hB ?_
    intro v' w' hown' hgrow _
    refine h v' w' (by unfold OwnL; rw [List.length_append, List.map_append, List.flatten_append]; exact hown') ⟨hgrow.os, hgrow.tape, hgrow.output, hgrow.size, fun k hk hs => hgrow.block k hk (fun e => hs (by rw [← e]; simp))⟩
end Go.Proofs.YtlekngkcifgonaaGreat

set_option linter.unusedVariables false
set_option linter.unusedSimpArgs false
namespace Go.Proofs.YtlekngkcifgonaaGreat
open Go.RowKit

theorem ltOf_cmpL : Go.Proofs.ltOf cmpL = litLt := by funext a b; exact cmpL_lt a b
theorem swo_litLt : Go.Sort.SWO litLt where
  irrefl := litLt_irrefl
  trans x y z := litLt_trans
  ntrans x y z h1 h2 := by
    cases h3 : litLt x z
    · rfl
    · rcases litLt_tri y x with h | h | h
      · have := litLt_trans h h3; rw [h2] at this; cases this
      · subst h; rw [h2] at h3; cases h3
      · rw [h1] at h; cases h
theorem merge_lits {ls : Cls} (hn : ls.Nodup) : (ls.mergeSort fun x y => !litLt y x) = sortL ls := by
  have hp : (ls.mergeSort fun x y => !litLt y x).Perm ls := List.mergeSort_perm _ _
  have hs : (ls.mergeSort fun x y => !litLt y x).Pairwise fun a b => (!litLt b a) = true := by
    refine List.pairwise_mergeSort (fun a b c h1 h2 => ?_) (fun a b => ?_) ls
    · simp only [Bool.not_eq_true'] at *
      exact swo_litLt.ntrans _ _ _ h2 h1
    · cases h : litLt b a
      · rfl
      · rw [litLt_asymm h]; rfl
  refine asc_ext ?_ (sortL_asc _) fun x => by rw [mem_sortL]; exact hp.mem_iff
  refine (hs.and (hp.nodup_iff.2 hn)).imp ?_
  rintro a b ⟨h1, h2⟩
  rcases litLt_tri a b with h | h | h
  · exact h
  · exact absurd h h2
  · rw [h] at h1; cases h1

/-! ### As the library's sort reads a list -/
theorem lits_getBang {ls : Cls} {i : Nat} {l : Lit} (h : ls[i]? = some l) : ls.toArray[i]! = l := by
  rw [Array.getElem!_eq_getD, Array.getD_eq_getD_getElem?]; simp [h]
theorem LitsM.holds {M : Nat → Prop} {w : World} {b o cap n : Nat} {ls : Cls} (h : LitsM M w (.slice (some ⟨b, o, none⟩) n cap) ls) : Go.Sort.HoldsK litC 3 w b o ls.toArray := by
  intro t ht
  rw [Go.Sort.size_flatK] at ht
  rw [Go.Sort.get_flatK _ _ _ _ ht]
  have hi : t / 3 < ls.length := by simp at ht; omega
  obtain ⟨l, hl⟩ := get_some hi
  rw [lits_getBang hl]
  obtain ⟨b', o', e, hm, ⟨c0, c1, c2⟩, hf⟩ := h.at hl
  cases e
  have e3 : o + t = o + t / 3 * 3 + t % 3 := by omega
  have hr : t % 3 < 3 := by omega
  rw [e3]
  refine ⟨?_, hf _ hr⟩
  have hc : t % 3 = 0 ∨ t % 3 = 1 ∨ t % 3 = 2 := by omega
  rcases hc with hc | hc | hc <;> rw [hc]
  · exact c0
  · exact c1
  · exact c2
theorem litsM_of_holds {M : Nat → Prop} {w : World} {b o cap : Nat} {ls : Cls} (h : Go.Sort.HoldsK litC 3 w b o ls.toArray) (hM : M b) (hl : ls.length ≤ cap ∧ cap ≤ 9223372036854775807) : LitsM M w (.slice (some ⟨b, o, none⟩) ls.length cap) ls := by
  refine ⟨_, _, rfl, ⟨hl.1, hl.2, by simp⟩, fun i l hi => ⟨b, o, rfl, hM, ?_, fun r hr => ?_⟩⟩
  · have hil : i < ls.toArray.size := by simpa using (List.getElem?_eq_some_iff.1 hi).1
    have c0 := (Go.Sort.HoldsK.cell h hil (c := 0) (by omega)).1
    have c1 := (Go.Sort.HoldsK.cell h hil (c := 1) (by omega)).1
    have c2 := (Go.Sort.HoldsK.cell h hil (c := 2) (by omega)).1
    rw [lits_getBang hi] at c0 c1 c2
    exact ⟨c0, c1, c2⟩
  · have hil : i < ls.toArray.size := by simpa using (List.getElem?_eq_some_iff.1 hi).1
    exact (Go.Sort.HoldsK.cell h hil hr).2
theorem sortWorld_gr {w : World} {b o n : Nat} {d : Array Lit} {os : Array Obj} : Gr [b] w (Go.Proofs.sortWorldK litC 3 w b o n d os) := by
  unfold Go.Proofs.sortWorldK
  refine ⟨rfl, rfl, rfl, ?_, fun k hk hb => ?_⟩
  · rw [Go.Sort.size_grow, Go.Sort.size_putRowK]; exact Nat.le_add_right _ _
  · rw [Go.Sort.heap_grow_old _ _ (by rw [Go.Sort.size_putRowK]; exact hk)]
    simp at hb
    simp only [Go.Sort.putRowK, Go.Sort.putRow, Go.Sort.mapBlock, Array.getElem?_modify]
    rw [if_neg (fun h => hb h.symm)]
    rfl
/-- A world that has grown, draws not undone: as the sort's contract has it. -/
theorem grow_of_gr {w w' : World} (h : Gr [] w w') (hd : w.drawn ≤ w'.drawn) : ∃ q os, w' = Go.Sort.grow (w.drewN q) os := by
  refine ⟨w'.drawn - w.drawn, w'.heap.extract w.heap.size w'.heap.size, ?_⟩
  have e1 : w.heap ++ w'.heap.extract w.heap.size w'.heap.size = w'.heap := by
    apply Array.ext_getElem?
    intro k
    rw [Array.getElem?_append]
    split
    · rename_i hk; exact (h.block k hk (by simp)).symm
    · rename_i hk
      rw [Array.getElem?_extract]
      have := h.size
      by_cases hk2 : k < w'.heap.size
      · rw [if_pos (by omega)]; congr 1; omega
      · rw [if_neg (by omega), Array.getElem?_eq_none (by omega)]
  have h1 := h.os; have h2 := h.tape; have h3 := h.output
  cases w; cases w'
  simp only [Go.Sort.grow, World.drewN] at *
  subst h1 h2 h3
  rw [e1]
  congr 1
  omega
end Go.Proofs.YtlekngkcifgonaaGreat
