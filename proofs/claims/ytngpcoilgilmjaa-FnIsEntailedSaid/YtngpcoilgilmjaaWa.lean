/-
  Walks: a copy of a list of constraints (the list alone); lists whose elements are values as they lie.
-/
import Derived.Test.YtngpcoilgilmjaaCp
import Derived.Test.YtngpcoilgilmjaaCF
import Derived.Test.YtngpcoilgilmjaaEG
set_option linter.unusedVariables false
set_option linter.unusedSimpArgs false
namespace Go.Proofs.Ytngpcoilgilmjaa
open Go.RowKit

def elVs (S : List Nat) (w : World) (cs u : List Value) : Prop := cs = u
theorem elVs_ok : ElOk elVs := ⟨fun h _ => h, fun h _ => h⟩
theorem ConL.gr {w w' : World} {u : List Value} {c : Con} (h : ConL w u c) (hg : Gr [] w w') : ConL w' u c := by
  obtain ⟨vv, av, rv, e, h1, h2, h3⟩ := h
  exact ⟨vv, av, rv, e, h1.gr hg, h2.gr hg, h3.gr hg⟩
theorem OwnG.consL {B : Nat} {w : World} {e : TypeId} {v : Value} {us : List (List Value)} {cs : List Con} (h : OwnG 5 elVs B w e v us) (hl : us.length = cs.length) (hr : ∀ (i : Nat) u c, us[i]? = some u → cs[i]? = some c → ConL w u c) : ConsV [] w v cs := by
  obtain ⟨ao, cap, rfl, h1, h2, h3⟩ := h.slice
  refine ⟨ao, cap, by rw [hl], ⟨by rw [← hl]; exact h1, h2, h3⟩, fun i c hi => ?_⟩
  obtain ⟨u, hu⟩ := get_some (xs := us) (k := i) (by have := (List.getElem?_eq_some_iff.1 hi).1; omega)
  obtain ⟨g, cap', cs', e1, hb, hlt, hlen, hc, hf, hel⟩ := h.cell hu
  cases e1
  have hcs := hel [] (by simp)
  unfold elVs at hcs
  subst hcs
  obtain ⟨vv, av, rv, rfl, n1, n2, n3⟩ := hr i _ c hu hi
  have c0 := hc 0 _ rfl
  have c1 := hc 1 _ rfl
  have c2 := hc 2 _ rfl
  have c3 := hc 3 _ rfl
  have c4 := hc 4 _ rfl
  simp only [Nat.zero_add, Nat.add_zero] at c0 c1 c2 c3 c4
  refine ⟨g, 0, vv, av, rv, rfl, by simp, ⟨?_, ?_, ?_, ?_, ?_⟩, n1, n2, n3⟩ <;> (first | simpa using c0 | simpa [Nat.add_assoc] using c1 | simpa [Nat.add_assoc] using c2 | simpa [Nat.add_assoc] using c3 | simpa [Nat.add_assoc] using c4)
theorem oneC5 (k b : Int) (vo ao ro : Option Addr) (n1 n2 n3 c1 c2 c3 : Nat) : ∀ u ∈ [Value.int .i64 k, .slice vo n1 c1, .slice ao n2 c2, .int .i64 b, .slice ro n3 c3], u.oneCell' = true := by simp [Value.oneCell']
/-- The values of a list of constraints as they lie. -/
theorem cons_vals {w : World} {ao : Option Addr} {n cap : Nat} {cs : List Con} (h : ConsV [] w (.slice ao n cap) cs) :
    ∃ us : List (List Value), us.length = cs.length ∧ ∀ (i : Nat) u, us[i]? = some u → ∃ c, cs[i]? = some c ∧ ConL w u c ∧ u.length = 5 ∧ (∀ x ∈ u, x.oneCell' = true) ∧ ∃ b o, ao = some ⟨b, o, none⟩ ∧ ∀ r x, u[r]? = some x → w.cell? ⟨b, o + (i * 5 + r), none⟩ = some x := by
  refine list_choose (p := fun i u => ∃ c, cs[i]? = some c ∧ ConL w u c ∧ u.length = 5 ∧ (∀ x ∈ u, x.oneCell' = true) ∧ ∃ b o, ao = some ⟨b, o, none⟩ ∧ ∀ r x, u[r]? = some x → w.cell? ⟨b, o + (i * 5 + r), none⟩ = some x) cs fun i c hi => ?_
  obtain ⟨b, o, vo, vc, xo, xc, ro, rc, e, -, ⟨h0, h1, h2, h3, h4⟩, hcon⟩ := h.at2 hi
  obtain ⟨vv, av, rv, e2, n1, n2, n3⟩ := hcon
  simp only [Value.agg.injEq] at e2
  have e3 := congrArg (fun a => a[1]?) e2
  have e4 := congrArg (fun a => a[2]?) e2
  have e5 := congrArg (fun a => a[4]?) e2
  simp only [List.getElem?_toArray, List.getElem?_cons_succ, List.getElem?_cons_zero, Option.some.injEq] at e3 e4 e5
  subst e3 e4 e5
  refine ⟨_, c, hi, ⟨_, _, _, rfl, n1, n2, n3⟩, rfl, oneC5 _ _ _ _ _ _ _ _ _ _ _, b, o, e, fun r x hr => ?_⟩
  match r, hr with
  | 0, hr => cases hr; simpa using h0
  | 1, hr => cases hr; simpa [Nat.add_assoc] using h1
  | 2, hr => cases hr; simpa [Nat.add_assoc] using h2
  | 3, hr => cases hr; simpa [Nat.add_assoc] using h3
  | 4, hr => cases hr; simpa [Nat.add_assoc] using h4
  | r + 5, hr => simp at hr
theorem run_eql_slice_nilC {P : Program} (w : World) (t e : TypeId) (a : Option Addr) (l c : Nat) (h : P.underlying t = some (.slice e)) : (binOp .eql t (.slice a l c) (.slice none 0 0)).run P w = .ok (.bool a.isNone) w := by
  simp only [binOp]
  simp [run_equal_slice_nil w t e a l c h]
section
attribute [local go_sem] run_eql_slice_nilC

set_option maxRecDepth 100000 in
theorem cloneCon_c (v : Value) (cs : List Con) (w wp : World) (hx : ConsV [] wp v cs) (hgp : Gr [] wp w) (hl : cs.length ≤ 100000) :
    Calls Try.prog 51 #[v] w fun e w' => ∃ v' us, e = .returned v' ∧ OwnG 5 elVs w.heap.size w' 26 v' us ∧ us.length = cs.length ∧ (∀ (i : Nat) u c, us[i]? = some u → cs[i]? = some c → ConL wp u c) ∧ Gr [] w w' := by
  have hund := Try.underlying30
  have Hgp := hid hgp
  clear hgp
  have Hx := hid hx
  obtain ⟨ao, cap, rfl, ⟨h1, h2, h3⟩, _⟩ := hx
  cases ao with
  | none =>
    have hcap := h3 rfl
    have hxs : cs = [] := List.eq_nil_of_length_eq_zero (by omega)
    clear Hx
    subst hcap hxs
    clear h1 h2 h3
    go_enter Try.func51, Try.ntmps51
    go_wp2_with fail
    go_ret
    exact ⟨_, [], rfl, OwnG.nil _ _ _, rfl, by simp, Gr.refl _ _⟩
  | some ad =>
    obtain ⟨us, hul, hu⟩ := cons_vals Hx.out
    obtain ⟨i0, hi, hz0, hz1, hz2⟩ := info_parts infoC
    have Hu := hid hu
    have h5 : ∀ c ∈ us, c.length = 5 := fun c hc => by
      obtain ⟨i, hi⟩ := List.mem_iff_getElem?.1 hc
      obtain ⟨_, _, _, h, _⟩ := Hu.out i c hi
      exact h
    have H5 := hid h5
    have hfl := flatten_length' h5
    have Hcells : Hid (∀ j u, us.flatten[j]? = some u → (w.alloc (.cells #[] 26)).cell? (ad.add j) = some u) := hid fun j u hj => by
      rw [flatten_get' (by omega) H5.out] at hj
      cases hc : us[j / 5]? with
      | none => rw [hc] at hj; cases hj
      | some c =>
        rw [hc] at hj
        obtain ⟨_, _, _, _, _, b, o, e, hcell⟩ := Hu.out _ c hc
        cases e
        have e1 : (⟨b, o, none⟩ : Addr).add j = ⟨b, o + j, none⟩ := by unfold Addr.add; split <;> simp_all
        have e2 : j / 5 * 5 + j % 5 = j := Nat.div_add_mod' j 5
        have := hcell (j % 5) u hj
        rw [e2] at this
        rw [e1]
        exact (Hgp.out.alloc _).cell this (by simp)
    have Hone : Hid (∀ u ∈ us.flatten, u.oneCell' = true) := hid fun u hu' => by
      obtain ⟨c, hc, hm⟩ := List.mem_flatten.1 hu'
      obtain ⟨i, hi⟩ := List.mem_iff_getElem?.1 hc
      obtain ⟨_, _, _, _, h1, _⟩ := Hu.out i c hi
      exact h1 u hm
    have Hul := hid hul; have Hfl := hid hfl
    clear h3 hu h5 hul hfl
    go_enter Try.func51, Try.ntmps51
    go_wp2_with (at_builtin; refine wpList_append_own (w.alloc (.cells #[] 26)) rfl _ _ 30 rfl w.heap.size 26 i0 (.agg #[.int .i64 0, .slice none 0 0, .slice none 0 0, .int .i64 0, .slice none 0 0]) 5 88 Try.underlying30 hi hz0 hz1 hz2 rfl (by decide) (.slice (some ⟨w.heap.size, 0, none⟩) 0 0) 0 [] rfl (World.ownsRow_made w #[] 0 (Nat.le_refl _) (by simp [maxLen]) rfl) ad cs.length cap us.flatten rfl (by rw [Hfl.out, Hul.out]) Hcells.out Hone.out (by simp only [maxLen]; omega) (by omega) (by simp) ?_; intro v' w' hown' hgrow _; have HO := hid hown'; have HG := hid hgrow; clear hown' hgrow)
    go_ret
    have hgg : Gr [] w w' := ((Gr.refl [] w).alloc _).grown HG.out (fun k hk => .inr (by simp [Value.ownBlock] at hk; subst hk; exact Nat.le_refl _))
    refine ⟨_, us, rfl, ⟨us, rfl, fun c hc => ⟨H5.out c hc, fun u hu => ?_⟩, by have := HO.out; rw [Nat.zero_add, List.nil_append] at this; rw [Hul.out]; exact this, fun i c x h1 h2 S _ => by rw [h1] at h2; exact Option.some.inj h2⟩, Hul.out, fun i u c h1 h2 => ?_, hgg⟩
    · obtain ⟨i, hi⟩ := List.mem_iff_getElem?.1 hc
      obtain ⟨_, _, _, _, h1, _⟩ := Hu.out i c hi
      exact h1 u hu
    · obtain ⟨c', e, h, _⟩ := Hu.out i u h1
      rw [h2] at e; cases e
      exact h

end
end Go.Proofs.Ytngpcoilgilmjaa
