/-
  Walks: a copy of a list of constraints (the list alone); lists whose elements are values as they lie.
  Walk of the program's adding of a constraint to a model.
-/
import Derived.Test.YtlekngkcifgonaaGreatXCpCt
import Derived.Test.YtlekngkcifgonaaGreatXCF
import Derived.Test.YtlekngkcifgonaaGreatXEG
import Derived.Test.YtlekngkcifgonaaGreatXCq
set_option linter.unusedVariables false
set_option linter.unusedSimpArgs false
namespace Go.Proofs.YtlekngkcifgonaaGreat
open Go.RowKit

def elVs (S : List Nat) (w : World) (cs u : List Value) : Prop := cs = u
theorem elVs_ok : ElOk elVs := ⟨fun h _ => h, fun h _ => h⟩
theorem ConL.gr {w w' : World} {u : List Value} {c : Con} (h : ConL w u c) (hg : Gr [] w w') : ConL w' u c := by
  obtain ⟨vv, av, rv, e, h1, h2, h3⟩ := h
  exact ⟨vv, av, rv, e, h1.gr hg, h2.gr hg, h3.gr hg⟩
theorem OwnG.consL {B : Nat} {w : World} {e : TypeId} {v : Value} {us : List (List Value)} {cs : List Con} (h : OwnG 5 elVs B w e v us) (hl : us.length = cs.length) (hr : ∀ (i : Nat) u c, us[i]? = some u → cs[i]? = some c → ConL w u c) : ConsV [] w v cs := by
  obtain ⟨ao, cap, rfl, h1, h2, h3⟩ := h.slice
  refine ⟨ao, cap, by rw [hl], ⟨by rw [← hl]; exact h1, h2, h3⟩, fun i c hi => ?_⟩
  obtain ⟨u, hu⟩ := get_some (xs := us) (k := i) (by have := (List.getElem?_eq_some_iff.1 hi).1; omega)
  obtain ⟨g, cap', cs', e1, hb, hlt, hlen, hc, hf, hel⟩ := h.cell hu
  cases e1
  have hcs := hel [] (by simp)
  unfold elVs at hcs
  subst hcs
  obtain ⟨vv, av, rv, rfl, n1, n2, n3⟩ := hr i _ c hu hi
  have c0 := hc 0 _ rfl
  have c1 := hc 1 _ rfl
  have c2 := hc 2 _ rfl
  have c3 := hc 3 _ rfl
  have c4 := hc 4 _ rfl
  simp only [Nat.zero_add, Nat.add_zero] at c0 c1 c2 c3 c4
  refine ⟨g, 0, vv, av, rv, rfl, by simp, ⟨?_, ?_, ?_, ?_, ?_⟩, n1, n2, n3⟩ <;> (first | simpa using c0 | simpa [Nat.add_assoc] using c1 | simpa [Nat.add_assoc] using c2 | simpa [Nat.add_assoc] using c3 | simpa [Nat.add_assoc] using c4)
theorem oneC5 (k b : Int) (vo ao ro : Option Addr) (n1 n2 n3 c1 c2 c3 : Nat) : ∀ u ∈ [Value.int .i64 k, .slice vo n1 c1, .slice ao n2 c2, .int .i64 b, .slice ro n3 c3], u.oneCell' = true := by simp [Value.oneCell']
/-- The values of a list of constraints as they lie. -/
theorem cons_vals {w : World} {ao : Option Addr} {n cap : Nat} {cs : List Con} (h : ConsV [] w (.slice ao n cap) cs) :
    ∃ us : List (List Value), us.length = cs.length ∧ ∀ (i : Nat) u, us[i]? = some u → ∃ c, cs[i]? = some c ∧ ConL w u c ∧ u.length = 5 ∧ (∀ x ∈ u, x.oneCell' = true) ∧ ∃ b o, ao = some ⟨b, o, none⟩ ∧ ∀ r x, u[r]? = some x → w.cell? ⟨b, o + (i * 5 + r), none⟩ = some x := by
  refine list_choose (p := fun i u => ∃ c, cs[i]? = some c ∧ ConL w u c ∧ u.length = 5 ∧ (∀ x ∈ u, x.oneCell' = true) ∧ ∃ b o, ao = some ⟨b, o, none⟩ ∧ ∀ r x, u[r]? = some x → w.cell? ⟨b, o + (i * 5 + r), none⟩ = some x) cs fun i c hi => ?_
  obtain ⟨b, o, vo, vc, xo, xc, ro, rc, e, -, ⟨h0, h1, h2, h3, h4⟩, hcon⟩ := h.at2 hi
  obtain ⟨vv, av, rv, e2, n1, n2, n3⟩ := hcon
  simp only [Value.agg.injEq] at e2
  have e3 := congrArg (fun a => a[1]?) e2
  have e4 := congrArg (fun a => a[2]?) e2
  have e5 := congrArg (fun a => a[4]?) e2
  simp only [List.getElem?_toArray, List.getElem?_cons_succ, List.getElem?_cons_zero, Option.some.injEq] at e3 e4 e5
  subst e3 e4 e5
  refine ⟨_, c, hi, ⟨_, _, _, rfl, n1, n2, n3⟩, rfl, oneC5 _ _ _ _ _ _ _ _ _ _ _, b, o, e, fun r x hr => ?_⟩
  match r, hr with
  | 0, hr => cases hr; simpa using h0
  | 1, hr => cases hr; simpa [Nat.add_assoc] using h1
  | 2, hr => cases hr; simpa [Nat.add_assoc] using h2
  | 3, hr => cases hr; simpa [Nat.add_assoc] using h3
  | 4, hr => cases hr; simpa [Nat.add_assoc] using h4
  | r + 5, hr => simp at hr
theorem run_eql_slice_nilC {P : Program} (w : World) (t e : TypeId) (a : Option Addr) (l c : Nat) (h : P.underlying t = some (.slice e)) : (binOp .eql t (.slice a l c) (.slice none 0 0)).run P w = .ok (.bool a.isNone) w := by
  simp only [binOp]
  simp [run_equal_slice_nil w t e a l c h]
section
attribute [local go_sem] run_eql_slice_nilC

set_option maxRecDepth 100000 in
theorem cloneCon_c (v : Value) (cs : List Con) (w wp : World) (hx : ConsV [] wp v cs) (hgp : Gr [] wp w) (hl : cs.length ≤ 100000) :
    Calls Tryz.prog 256 #[v] w fun e w' => ∃ v' us, e = .returned v' ∧ OwnG 5 elVs w.heap.size w' 55 v' us ∧ us.length = cs.length ∧ (∀ (i : Nat) u c, us[i]? = some u → cs[i]? = some c → ConL wp u c) ∧ Gr [] w w' := by
  have hund := Tryz.underlying24
  have Hgp := hid hgp
  clear hgp
  have Hx := hid hx
  obtain ⟨ao, cap, rfl, ⟨h1, h2, h3⟩, _⟩ := hx
  cases ao with
  | none =>
    have hcap := h3 rfl
    have hxs : cs = [] := List.eq_nil_of_length_eq_zero (by omega)
    clear Hx
    subst hcap hxs
    clear h1 h2 h3
    go_enter Tryz.func256, Tryz.ntmps256
    go_wp2_with fail
    go_ret
    exact ⟨_, [], rfl, OwnG.nil _ _ _, rfl, by simp, Gr.refl _ _⟩
  | some ad =>
    obtain ⟨us, hul, hu⟩ := cons_vals Hx.out
    obtain ⟨i0, hi, hz0, hz1, hz2⟩ := info_parts infoC
    have Hu := hid hu
    have h5 : ∀ c ∈ us, c.length = 5 := fun c hc => by
      obtain ⟨i, hi⟩ := List.mem_iff_getElem?.1 hc
      obtain ⟨_, _, _, h, _⟩ := Hu.out i c hi
      exact h
    have H5 := hid h5
    have hfl := flatten_length' h5
    have Hcells : Hid (∀ j u, us.flatten[j]? = some u → (w.alloc (.cells #[] 55)).cell? (ad.add j) = some u) := hid fun j u hj => by
      rw [flatten_get' (by omega) H5.out] at hj
      cases hc : us[j / 5]? with
      | none => rw [hc] at hj; cases hj
      | some c =>
        rw [hc] at hj
        obtain ⟨_, _, _, _, _, b, o, e, hcell⟩ := Hu.out _ c hc
        cases e
        have e1 : (⟨b, o, none⟩ : Addr).add j = ⟨b, o + j, none⟩ := by unfold Addr.add; split <;> simp_all
        have e2 : j / 5 * 5 + j % 5 = j := Nat.div_add_mod' j 5
        have := hcell (j % 5) u hj
        rw [e2] at this
        rw [e1]
        exact (Hgp.out.alloc _).cell this (by simp)
    have Hone : Hid (∀ u ∈ us.flatten, u.oneCell' = true) := hid fun u hu' => by
      obtain ⟨c, hc, hm⟩ := List.mem_flatten.1 hu'
      obtain ⟨i, hi⟩ := List.mem_iff_getElem?.1 hc
      obtain ⟨_, _, _, _, h1, _⟩ := Hu.out i c hi
      exact h1 u hm
    have Hul := hid hul; have Hfl := hid hfl
    clear h3 hu h5 hul hfl
    go_enter Tryz.func256, Tryz.ntmps256
    go_wp2_with (at_builtin; refine wpList_append_own (w.alloc (.cells #[] 55)) rfl _ _ 24 rfl w.heap.size 55 i0 (.agg #[.int .i64 0, .slice none 0 0, .slice none 0 0, .int .i64 0, .slice none 0 0]) 5 88 Tryz.underlying24 hi hz0 hz1 hz2 rfl (by decide) (.slice (some ⟨w.heap.size, 0, none⟩) 0 0) 0 [] rfl (World.ownsRow_made w #[] 0 (Nat.le_refl _) (by simp [maxLen]) rfl) ad cs.length cap us.flatten rfl (by rw [Hfl.out, Hul.out]) Hcells.out Hone.out (by simp only [maxLen]; omega) (by omega) (by simp) ?_; intro v' w' hown' hgrow _; have HO := hid hown'; have HG := hid hgrow; clear hown' hgrow)
    go_ret
    have hgg : Gr [] w w' := ((Gr.refl [] w).alloc _).grown HG.out (fun k hk => .inr (by simp [Value.ownBlock] at hk; subst hk; exact Nat.le_refl _))
    refine ⟨_, us, rfl, ⟨us, rfl, fun c hc => ⟨H5.out c hc, fun u hu => ?_⟩, by have := HO.out; rw [Nat.zero_add, List.nil_append] at this; rw [Hul.out]; exact this, fun i c x h1 h2 S _ => by rw [h1] at h2; exact Option.some.inj h2⟩, Hul.out, fun i u c h1 h2 => ?_, hgg⟩
    · obtain ⟨i, hi⟩ := List.mem_iff_getElem?.1 hc
      obtain ⟨_, _, _, _, h1, _⟩ := Hu.out i c hi
      exact h1 u hu
    · obtain ⟨c', e, h, _⟩ := Hu.out i u h1
      rw [h2] at e; cases e
      exact h

end
end Go.Proofs.YtlekngkcifgonaaGreat

set_option linter.unusedVariables false
set_option linter.unusedSimpArgs false
namespace Go.Proofs.YtlekngkcifgonaaGreat
open Go.RowKit

theorem OwnG.lo {α : Type} {size : Nat} {el : List Nat → World → List Value → α → Prop} {B B' : Nat} {w : World} {e : TypeId} {v : Value} {xs : List α} (h : OwnG size el B w e v xs) (hB : B' ≤ B) : OwnG size el B' w e v xs := by
  obtain ⟨css, h1, h2, h3, h4⟩ := h
  refine ⟨css, h1, h2, ⟨h3.1, ?_⟩, fun i cs x hi hx S hS => h4 i cs x hi hx S fun b hb => (hS b hb).imp (fun h => by omega) id⟩
  rcases h3.2 with h | ⟨g, cap, cur, e1, hb, rest⟩
  · exact .inl h
  · exact .inr ⟨g, cap, cur, e1, by omega, rest⟩
theorem OwnGX.toVs {X : Nat → Prop} {B : Nat} {w : World} {e : TypeId} {v : Value} {us : List (List Value)} (h : OwnGX X 5 elVs B w e v us) : OwnG 5 elVs B w e v us := by
  obtain ⟨css, h1, h2, h3, _, h4⟩ := h
  exact ⟨css, h1, h2, h3, fun i cs x hi hx S _ => (h4 i cs x hi hx [] (by simp) : cs = x)⟩
theorem OwnG.keepVs {S : List Nat} {B : Nat} {w w' : World} {e : TypeId} {v : Value} {us : List (List Value)} (h : OwnG 5 elVs B w e v us) (hg : Gr S w w') (hS : ∀ b, v.ownBlock = some b → b ∉ S) : OwnG 5 elVs B w' e v us := by
  obtain ⟨css, h1, h2, h3, h4⟩ := h
  refine ⟨css, h1, h2, ⟨h3.1, ?_⟩, fun i cs x hi hx S' _ => (h4 i cs x hi hx [] (by simp) : cs = x)⟩
  rcases h3.2 with h | ⟨g, cap, cur, e1, hb, hgg, rest⟩
  · exact .inl h
  · exact .inr ⟨g, cap, cur, e1, hb, hg.obj hgg (hS g (by rw [e1]; rfl)), rest⟩
def WcCut (m : Mod) (c : Con) (xo : Option Addr) (xc : Nat) (w0 wx : World) (p : Value) : Prop :=
  ∃ (bk : Nat) (oo : Option Addr) (oc : Nat), p = .pointer (some ⟨bk, 0, none⟩) ∧ w0.heap.size ≤ bk ∧ wx.heap[bk]? = some (.cells #[.slice xo m.doms.length xc, .slice oo (m.cons.length + 1) oc] 26 (0, 0)) ∧ ConsV [] wx (.slice oo (m.cons.length + 1) oc) (m.cons ++ [c]) ∧ Gr [] w0 wx
theorem wc_meet {m : Mod} {c : Con} {xo : Option Addr} {xc : Nat} {w0 wa w7 WE : World} {bk g7 c7 : Nat} {uo : Option Addr} {uc : Nat} {us : List (List Value)} {u : List Value} (hbk : w0.heap.size ≤ bk) (hbb : WE.heap[bk]? = some (.cells #[.slice xo m.doms.length xc, .slice (some ⟨g7, 0, none⟩) (us.length + 1) c7] 26 (0, 0)))
    (hga : Gr [] w0 wa) (hg7 : Gr (Value.slice uo us.length uc).ownBlock.toList wa w7) (hown : ∀ b, (Value.slice uo us.length uc).ownBlock = some b → w0.heap.size ≤ b) (hgE : Gr [bk] w7 WE)
    (ho7 : OwnG 5 elVs w0.heap.size w7 55 (.slice (some ⟨g7, 0, none⟩) (us.length + 1) c7) (us ++ [u])) (hne : g7 ≠ bk) (hul : us.length = m.cons.length)
    (hus : ∀ W, Gr [] w0 W → ∀ (i : Nat) u c, us[i]? = some u → m.cons[i]? = some c → ConL W u c) (hc : ∀ W, Gr [] w0 W → ConL W u c) : WcCut m c xo xc w0 WE (.pointer (some ⟨bk, 0, none⟩)) := by
  have hgw : Gr [] w0 WE := (hga.step hg7 (fun i hi => .inr (hown i (by simpa using hi)))).step hgE (fun i hi => .inr (by simp at hi; omega))
  have hk := ho7.keepVs hgE (fun b hb => by simp [Value.ownBlock] at hb; subst hb; simpa using hne)
  rw [hul] at hbb hk
  refine ⟨bk, _, _, rfl, hbk, hbb, ?_, hgw⟩
  have := hk.consL (cs := m.cons ++ [c]) (by simp [hul]) (fun i u' c' h1 h2 => ?_)
  · exact this
  · by_cases hi : i < us.length
    · rw [List.getElem?_append_left hi] at h1
      rw [List.getElem?_append_left (by omega)] at h2
      exact hus _ hgw i u' c' h1 h2
    · have hie : i = us.length := by
        have := (List.getElem?_eq_some_iff.1 h1).1
        simp at this; omega
      subst hie
      rw [List.getElem?_append_right (by omega), Nat.sub_self] at h1
      rw [hul, List.getElem?_append_right (by omega), Nat.sub_self] at h2
      simp at h1 h2
      subst h1 h2
      exact hc _ hgw
theorem conV_L {w : World} {k b : Int} {vo ao ro : Option Addr} {vn vc an ac rn rc : Nat} {c : Con} (h : ConV [] w (.agg #[.int .i64 k, .slice vo vn vc, .slice ao an ac, .int .i64 b, .slice ro rn rc]) c) : ConL w [.int .i64 k, .slice vo vn vc, .slice ao an ac, .int .i64 b, .slice ro rn rc] c := by
  obtain ⟨vv, av, rv, e, h1, h2, h3⟩ := h
  refine ⟨vv, av, rv, ?_, h1, h2, h3⟩
  simp only [Value.agg.injEq] at e
  have := congrArg Array.toList e
  simpa using this
def withM (m : Mod) (c : Con) : Mod := ⟨m.doms, m.cons ++ [c]⟩


set_option maxRecDepth 100000 in
set_option maxHeartbeats 8000000 in
theorem WithConstraint_c (m : Mod) (c : Con) (mv cv : Value) (w : World) (hv : ModV [] w mv m) (hcv : ConV [] w cv c) (hs : (withM m c).Small) (hcl : m.cons.length ≤ 1000) :
    Calls Tryz.prog 221 #[mv, cv] w fun e w' => ∃ u0 u1, e = .returned (.tuple #[.agg #[u0, u1], .bool (validM (withM m c))]) ∧ (validM (withM m c) = true → ModM (New w.heap.size w') w' (.agg #[u0, u1]) (withM m c)) ∧ (validM (withM m c) = false → u0 = .slice none 0 0 ∧ u1 = .slice none 0 0) ∧ Gr [] w w' := by
  obtain ⟨dv, kv, rfl, n1, n2⟩ := hv
  obtain ⟨xo, xc, rfl, -, -⟩ := id n1
  obtain ⟨co, cc, rfl, hcc, -⟩ := id n2
  obtain ⟨vo, vc, ao, ac, ro, rc, rfl⟩ := hcv.slices
  have H1 := hid n1; have H2 := hid n2; have Hcv := hid hcv; have Hs := hid hs
  have hgA : Gr [] w (((w.alloc (.cells #[.slice xo m.doms.length xc, .slice co m.cons.length cc] 26)).alloc (.cells #[.int .i64 c.kind, .slice vo c.vars.length vc, .slice ao c.args.length ac, .int .i64 c.bound, .slice ro c.rows.length rc] 55)).alloc (.cells #[.slice none 0 0, .slice none 0 0] 26)) := (((Gr.refl [] w).alloc _).alloc _).alloc _
  have h3 := heap3 w (.cells #[.slice xo m.doms.length xc, .slice co m.cons.length cc] 26) (.cells #[.int .i64 c.kind, .slice vo c.vars.length vc, .slice ao c.args.length ac, .int .i64 c.bound, .slice ro c.rows.length rc] 55) (.cells #[.slice none 0 0, .slice none 0 0] 26)
  have hsA : (((w.alloc (.cells #[.slice xo m.doms.length xc, .slice co m.cons.length cc] 26)).alloc (.cells #[.int .i64 c.kind, .slice vo c.vars.length vc, .slice ao c.args.length ac, .int .i64 c.bound, .slice ro c.rows.length rc] 55)).alloc (.cells #[.slice none 0 0, .slice none 0 0] 26)).heap.size = w.heap.size + 3 := by simp
  obtain ⟨hbM, hbC, hbR⟩ := h3
  have fb0 := fld hbM; have fc0 := fld hbC
  have Hb0 := hid hbM; have Hc0 := hid hbC; have Hr0 : Hid ((((w.alloc (.cells #[.slice xo m.doms.length xc, .slice co m.cons.length cc] 26)).alloc (.cells #[.int .i64 c.kind, .slice vo c.vars.length vc, .slice ao c.args.length ac, .int .i64 c.bound, .slice ro c.rows.length rc] 55)).alloc (.cells #[.slice none 0 0, .slice none 0 0] 26)).heap[w.heap.size + 1 + 1]? = some (.cells #[.slice none 0 0, .slice none 0 0] 26 (0, 0))) := hid hbR; have Hg0 := hid hgA; have Hs0 := hid hsA
  clear n1 n2 hs hbM hbC hbR hgA hsA hcv
  go_enter Tryz.func221, Tryz.ntmps221
  go_wp2_with fail
  generalize hW0 : (((w.alloc (.cells #[.slice xo m.doms.length xc, .slice co m.cons.length cc] 26)).alloc (.cells #[.int .i64 c.kind, .slice vo c.vars.length vc, .slice ao c.args.length ac, .int .i64 c.bound, .slice ro c.rows.length rc] 55)).alloc (.cells #[.slice none 0 0, .slice none 0 0] 26)) = w0 at *
  clear hW0
  go_cut [6] from 7 to 15 (fun p wx => WcCut m c xo xc w0 wx p)
  case first =>
    have HBX : Hid (∀ W, Gr [] w0 W → W.heap[w.heap.size]? = some (.cells #[.slice xo m.doms.length xc, .slice co m.cons.length cc] 26 (0, 0))) := hid fun W h => h.obj Hb0.out (by simp)
    have HCX : Hid (∀ W, Gr [] w0 W → W.heap[w.heap.size + 1]? = some (.cells #[.int .i64 c.kind, .slice vo c.vars.length vc, .slice ao c.args.length ac, .int .i64 c.bound, .slice ro c.rows.length rc] 55 (0, 0))) := hid fun W h => h.obj Hc0.out (by simp)
    have ne0 : w.heap.size ≠ w0.heap.size ∧ w.heap.size + 1 ≠ w0.heap.size ∧ w.heap.size ≠ w0.heap.size + 1 ∧ w.heap.size + 1 ≠ w0.heap.size + 1 := (by have h2 := Hs0.out; omega)
    obtain ⟨ne0, ne1, ne2, ne3⟩ := ne0
    have HCL : Hid (∀ W, Gr [] w0 W → ConL W [.int .i64 c.kind, .slice vo c.vars.length vc, .slice ao c.args.length ac, .int .i64 c.bound, .slice ro c.rows.length rc] c) := hid fun W h => (conV_L (Hcv.out.gr (Hg0.out.trans h)))
    have ne0' := ne0.symm; have ne1' := ne1.symm; have ne2' := ne2.symm; have ne3' := ne3.symm
    have HS : Hid (∀ W, Gr [] w0 W → (W.cell? ⟨w.heap.size, 0, none⟩ = some (.slice xo m.doms.length xc) ∧ W.cell? ⟨w.heap.size, 1, none⟩ = some (.slice co m.cons.length cc) ∧ W.cell? ⟨w.heap.size + 1, 0, none⟩ = some (.int .i64 c.kind) ∧ W.cell? ⟨w.heap.size + 1, 1, none⟩ = some (.slice vo c.vars.length vc) ∧ W.cell? ⟨w.heap.size + 1, 2, none⟩ = some (.slice ao c.args.length ac) ∧ W.cell? ⟨w.heap.size + 1, 3, none⟩ = some (.int .i64 c.bound) ∧ W.cell? ⟨w.heap.size + 1, 4, none⟩ = some (.slice ro c.rows.length rc)) ∧ Gr [] w0 W) := hid fun W h => ⟨⟨fld (HBX.out _ h) 0, fld (HBX.out _ h) 1, fld (HCX.out _ h) 0, fld (HCX.out _ h) 1, fld (HCX.out _ h) 2, fld (HCX.out _ h) 3, fld (HCX.out _ h) 4⟩, h⟩
    go_region_held_law (fun W => (W.cell? ⟨w.heap.size, 0, none⟩ = some (.slice xo m.doms.length xc) ∧ W.cell? ⟨w.heap.size, 1, none⟩ = some (.slice co m.cons.length cc) ∧ W.cell? ⟨w.heap.size + 1, 0, none⟩ = some (.int .i64 c.kind) ∧ W.cell? ⟨w.heap.size + 1, 1, none⟩ = some (.slice vo c.vars.length vc) ∧ W.cell? ⟨w.heap.size + 1, 2, none⟩ = some (.slice ao c.args.length ac) ∧ W.cell? ⟨w.heap.size + 1, 3, none⟩ = some (.int .i64 c.bound) ∧ W.cell? ⟨w.heap.size + 1, 4, none⟩ = some (.slice ro c.rows.length rc)) ∧ Gr [] w0 W)
      ((refine HS.out _ ?_; first | exact HG07.out | exact HGa.out | exact (Gr.refl [] w0).drew | assumption | (go_split_ands; first | assumption | exact Gr.drew (by assumption) | exact Gr.alloc (by assumption) _ | exact Gr.alloc HG07.out _ | exact Gr.alloc HGa.out _ | exact Gr.setCell (by assumption) _ _ (.inr (by have h9 := HGa.out.size; (try simp); (try omega))) | exact Gr.setCell HG07.out _ _ (.inr (by have h9 := HGa.out.size; (try simp); (try omega))) | exact Gr.setCell (Gr.setCell (by assumption) _ _ (.inr (by have h9 := HGa.out.size; (try simp); (try omega)))) _ _ (.inr (by have h9 := HGa.out.size; (try simp); (try omega))) | exact Gr.setCell (Gr.setCell HG07.out _ _ (.inr (by have h9 := HGa.out.size; (try simp); (try omega)))) _ _ (.inr (by have h9 := HGa.out.size; (try simp); (try omega))))))
      (first
      | (go_simp; go_at_call 256; refine (cloneCon_c _ m.cons _ w0 (H2.out.gr Hg0.out) (by first | exact (Gr.refl [] w0).drew | exact ((Gr.refl [] w0).drew).alloc _ | exact (((Gr.refl [] w0).drew).alloc _).alloc _) (by omega)).mono ?_; rintro e wa ⟨va, us, rfl, hoa, hul, hus, hga⟩; obtain ⟨uo, uc, rfl, -, -, -⟩ := hoa.slice; have hgp : Gr [] w0 _ := (by first | exact (Gr.refl [] w0).drew | exact ((Gr.refl [] w0).drew).alloc _ | exact (((Gr.refl [] w0).drew).alloc _).alloc _); have hgx : Gr [] w0 wa := Gr.trans (by first | exact (Gr.refl [] w0).drew | exact ((Gr.refl [] w0).drew).alloc _ | exact (((Gr.refl [] w0).drew).alloc _).alloc _) hga; have HOa := hid (hoa.lo (B' := w0.heap.size) (by first | exact Nat.le_refl _ | (simp; done) | (simp; omega))); have HGa := hid hgx; have HUL := hid hul; have HUS : Hid (∀ W, Gr [] w0 W → ∀ (i : Nat) u c, us[i]? = some u → m.cons[i]? = some c → ConL W u c) := hid (fun W h i u c h1 h2 => (hus i u c h1 h2).gr h); have HSZ := hid hga.size; have Hown := hid (fun b hb => hoa.ownB (b := b) hb); have hwl := hgx.size; have fba := fld (HBX.out _ hgx); have fca := fld (HCX.out _ hgx); (try (have hz : wa.heap[w0.heap.size]? = some (.cells #[.slice none 0 0, .slice none 0 0] 26 (0, 0)) := hga.obj (heap_alloc_new w0.drew (.cells #[.slice none 0 0, .slice none 0 0] 26)) (by simp); have HZa := hid hz; have foz := fld hz; have ffz := fldF hz; clear hz)); (try (have hz : wa.heap[w0.heap.size]? = some (.cells #[.slice none 0 0, .slice none 0 0] 26 (0, 0)) := hga.obj (((Gr.refl [] _).alloc (.cells #[.int .i64 c.kind, .slice vo c.vars.length vc, .slice ao c.args.length ac, .int .i64 c.bound, .slice ro c.rows.length rc] 55)).obj (heap_alloc_new w0.drew (.cells #[.slice none 0 0, .slice none 0 0] 26)) (by simp)) (by simp); have HZa := hid hz; have foz := fld hz; have ffz := fldF hz; clear hz)); (try (have hz : wa.heap[w0.heap.size + 1]? = some (.cells #[.slice none 0 0, .slice none 0 0] 26 (0, 0)) := hga.obj (by have := heap_alloc_new (w0.drew.alloc (.cells #[.int .i64 c.kind, .slice vo c.vars.length vc, .slice ao c.args.length ac, .int .i64 c.bound, .slice ro c.rows.length rc] 55)) (.cells #[.slice none 0 0, .slice none 0 0] 26); rw [World.size_alloc] at this; exact this) (by simp); have HZa := hid hz; have foz := fld hz; have ffz := fldF hz; clear hz)); (try (have hz : wa.heap[w0.heap.size]? = some (.cells #[.int .i64 c.kind, .slice vo c.vars.length vc, .slice ao c.args.length ac, .int .i64 c.bound, .slice ro c.rows.length rc] 55 (0, 0)) := hga.obj (heap_alloc_new w0.drew (.cells #[.int .i64 c.kind, .slice vo c.vars.length vc, .slice ao c.args.length ac, .int .i64 c.bound, .slice ro c.rows.length rc] 55)) (by simp); have HBa := hid hz; clear hz)); (try (have hz : wa.heap[w0.heap.size]? = some (.cells #[.int .i64 c.kind, .slice vo c.vars.length vc, .slice ao c.args.length ac, .int .i64 c.bound, .slice ro c.rows.length rc] 55 (0, 0)) := hga.obj (((Gr.refl [] _).alloc (.cells #[.slice none 0 0, .slice none 0 0] 26)).obj (heap_alloc_new w0.drew (.cells #[.int .i64 c.kind, .slice vo c.vars.length vc, .slice ao c.args.length ac, .int .i64 c.bound, .slice ro c.rows.length rc] 55)) (by simp)) (by simp); have HBa := hid hz; clear hz)); (try (have hz : wa.heap[w0.heap.size + 1]? = some (.cells #[.int .i64 c.kind, .slice vo c.vars.length vc, .slice ao c.args.length ac, .int .i64 c.bound, .slice ro c.rows.length rc] 55 (0, 0)) := hga.obj (by have := heap_alloc_new (w0.drew.alloc (.cells #[.slice none 0 0, .slice none 0 0] 26)) (.cells #[.int .i64 c.kind, .slice vo c.vars.length vc, .slice ao c.args.length ac, .int .i64 c.bound, .slice ro c.rows.length rc] 55); rw [World.size_alloc] at this; exact this) (by simp); have HBa := hid hz; clear hz)); clear hoa hul hus hgx hgp; (try dsimp only))
      | (refine step_appGX rfl _ _ 24 rfl 5 elVs elVs_ok w0.heap.size 55 (.agg #[.int .i64 0, .slice none 0 0, .slice none 0 0, .int .i64 0, .slice none 0 0]) 88 infoC rfl (by omega) (by omega) Tryz.underlying24 (.slice uo us.length uc) us rfl (fun _ => False) (fun b h => h.elim) (OwnGX.ofG (by first | exact HOa.out | exact HOa.out.gr elVs_ok ((Gr.refl [] wa).alloc _) (by simp) | exact HOa.out.gr elVs_ok (((Gr.refl [] wa).alloc _).alloc _) (by simp)) (fun b h => h.elim)) _ 1 [.int .i64 c.kind, .slice vo c.vars.length vc, .slice ao c.args.length ac, .int .i64 c.bound, .slice ro c.rows.length rc] [.int .i64 c.kind, .slice vo c.vars.length vc, .slice ao c.args.length ac, .int .i64 c.bound, .slice ro c.rows.length rc] rfl rfl (oneC5 _ _ _ _ _ _ _ _ _ _ _) (fun j q hj => by first | (rw [fld (heap_alloc_new _ _) j]; simpa using hj) | (rw [fld (by have h8 := heap_alloc_new (wa.alloc (.cells #[.slice none 0 0, .slice none 0 0] 26)) (.cells #[.int .i64 c.kind, .slice vo c.vars.length vc, .slice ao c.args.length ac, .int .i64 c.bound, .slice ro c.rows.length rc] 55); rw [World.size_alloc] at h8; exact h8) j]; simpa using hj) | (rw [fld (((Gr.refl [] _).alloc _).obj (heap_alloc_new _ _) (by simp)) j]; simpa using hj) | (rw [fld HBa.out j]; simpa using hj) | (rw [fld (((Gr.refl [] _).alloc _).obj HBa.out (by simp)) j]; simpa using hj)) (fun S _ => rfl) (by rw [HUL.out]; omega) (by have h9 := HGa.out.size; first | omega | (simp; omega)) ?_; intro g7 c7 w7 hown7 hg7 hwh7 hlt7; have HO7 := hid hown7.toVs; have HW7 : Hid (Gr (Value.slice uo us.length uc).ownBlock.toList wa w7) := hid (by first | exact hg7 | exact Gr.trans (Gr.any ((Gr.refl [] wa).alloc _)) hg7 | exact Gr.trans (Gr.any (((Gr.refl [] wa).alloc _).alloc _)) hg7); have HWH7 := hid hwh7; have HG07 : Hid (Gr [] w0 w7) := hid (Gr.step HGa.out HW7.out (fun i hi => .inr (by have h1 := Hown.out i (by simpa using hi); simp at h1; omega))); (try (have hz : w7.heap[w0.heap.size]? = some (.cells #[.slice none 0 0, .slice none 0 0] 26 (0, 0)) := hg7.obj (HZa.out) (fun hm => by have h1 := Hown.out _ (by simpa using hm); first | (simp at h1; done) | (simp at h1; omega)); have HZ7 := hid hz; have foz7 := fld hz; have ffz7 := fldF hz; clear hz)); (try (have hz : w7.heap[w0.heap.size]? = some (.cells #[.slice none 0 0, .slice none 0 0] 26 (0, 0)) := hg7.obj (((Gr.refl [] wa).alloc (.cells #[.int .i64 c.kind, .slice vo c.vars.length vc, .slice ao c.args.length ac, .int .i64 c.bound, .slice ro c.rows.length rc] 55)).obj HZa.out (by simp)) (fun hm => by have h1 := Hown.out _ (by simpa using hm); first | (simp at h1; done) | (simp at h1; omega)); have HZ7 := hid hz; have foz7 := fld hz; have ffz7 := fldF hz; clear hz)); (try (have hz : w7.heap[w0.heap.size + 1]? = some (.cells #[.slice none 0 0, .slice none 0 0] 26 (0, 0)) := hg7.obj (HZa.out) (fun hm => by have h1 := Hown.out _ (by simpa using hm); first | (simp at h1; done) | (simp at h1; omega)); have HZ7 := hid hz; have foz7 := fld hz; have ffz7 := fldF hz; clear hz)); (try (have hz : w7.heap[wa.heap.size]? = some (.cells #[.slice none 0 0, .slice none 0 0] 26 (0, 0)) := hg7.obj (heap_alloc_new wa (.cells #[.slice none 0 0, .slice none 0 0] 26)) (fun hm => by have h1 := Hown.out _ (by simpa using hm); first | (simp at h1; done) | (simp at h1; omega)); have HZ7 := hid hz; have foz7 := fld hz; have ffz7 := fldF hz; clear hz)); (try (have hz : w7.heap[wa.heap.size]? = some (.cells #[.slice none 0 0, .slice none 0 0] 26 (0, 0)) := hg7.obj (((Gr.refl [] (wa.alloc (.cells #[.slice none 0 0, .slice none 0 0] 26))).alloc (.cells #[.int .i64 c.kind, .slice vo c.vars.length vc, .slice ao c.args.length ac, .int .i64 c.bound, .slice ro c.rows.length rc] 55)).obj (heap_alloc_new wa (.cells #[.slice none 0 0, .slice none 0 0] 26)) (by simp)) (fun hm => by have h1 := Hown.out _ (by simpa using hm); first | (simp at h1; done) | (simp at h1; omega)); have HZ7 := hid hz; have foz7 := fld hz; have ffz7 := fldF hz; clear hz)); (try (have hz : w7.heap[wa.heap.size + 1]? = some (.cells #[.slice none 0 0, .slice none 0 0] 26 (0, 0)) := hg7.obj (by have := heap_alloc_new (wa.alloc (.cells #[.int .i64 c.kind, .slice vo c.vars.length vc, .slice ao c.args.length ac, .int .i64 c.bound, .slice ro c.rows.length rc] 55)) (.cells #[.slice none 0 0, .slice none 0 0] 26); rw [World.size_alloc] at this; exact this) (fun hm => by have h1 := Hown.out _ (by simpa using hm); first | (simp at h1; done) | (simp at h1; omega)); have HZ7 := hid hz; have foz7 := fld hz; have ffz7 := fldF hz; clear hz)); clear hown7 hg7 hwh7))
    all_goals
      go_wp2_with fail
      go_meet
      first
        | exact wc_meet (bk := w7.heap.size) HG07.out.size (heap_alloc_new _ _) HGa.out HW7.out (fun b hb => by have h1 := Hown.out b hb; simp at h1; omega) ((Gr.refl _ _).alloc _) HO7.out (by omega) HUL.out HUS.out HCL.out
        | exact wc_meet (by have h9 := HGa.out.size; (try simp); (try omega)) (set2 _ _ _ _ HZ7.out).1 HGa.out HW7.out (fun b hb => by have h1 := Hown.out b hb; simp at h1; omega) (set2 _ _ _ _ HZ7.out).2 HO7.out (by have h9 := HGa.out.size; have h8 := HSZ.out; (try simp at h8); rcases HWH7.out with h | h <;> (first | (have h1 := Hown.out _ h; simp at h1; omega) | (simp at h; omega) | omega)) HUL.out HUS.out HCL.out
  case rest =>
    obtain ⟨bk, oo, oc, rfl, hbk, hbb, hcs, hgx⟩ := hcut
    have hmv : ModV [] wc (.agg #[.slice xo m.doms.length xc, .slice oo (m.cons.length + 1) oc]) (withM m c) := ⟨_, _, rfl, H1.out.gr (Hg0.out.trans hgx), hcs⟩
    have hrr := hgx.obj Hr0.out (by simp)
    have hgw := Hg0.out.trans hgx
    have Hmv := hid hmv; have Hbb := hid hbb; have Hrr := hid hrr; have Hgw := hid hgw
    have fcc := fld hbb
    clear hbb hcs hgx hmv hrr hgw fb0 fc0
    go_wp2_with fail
    go_at_call 86
    refine (ValidModel_c (withM m c) _ _ Hmv.out).mono ?_
    rintro e w3 ⟨rfl, hg3⟩
    have hrr := hg3.obj Hrr.out (by simp)
    have fc3 := fld (hg3.obj Hbb.out (by simp)); have fr3 := fld hrr; have ff3 := fldF hrr
    have Hr3 := hid hrr; have Hg3 := hid hg3
    clear hrr hg3 fcc
    cases hB : validM (withM m c) with
    | false =>
      go_wp2_with fail
      have h5 := set2 _ _ (.slice none 0 0) (.slice none 0 0) Hr3.out
      generalize ((w3.setCell ⟨w.heap.size + 1 + 1, 0, none⟩ (.slice none 0 0)).setCell ⟨w.heap.size + 1 + 1, 1, none⟩ (.slice none 0 0)) = WE at h5 ⊢
      obtain ⟨h5, hG⟩ := h5
      have flE := fld h5
      refine bodyPost_ret (v := .tuple #[.agg #[.slice none 0 0, .slice none 0 0], .bool false]) ?_ rfl ?_
      · simp [results, Tryz.results221, go_sem, flE]
      · exact ⟨_, _, by rw [hB], fun h => (by rw [hB] at h; cases h), fun _ => ⟨rfl, rfl⟩, (Hgw.out.trans Hg3.out).step hG (fun i hi => .inr (by simp at hi; omega))⟩
    | true =>
      go_wp2_with fail
      go_at_call 173
      refine (modCopied_c (withM m c) _ _ (Hmv.out.gr Hg3.out) Hs.out).mono ?_
      rintro e w4 ⟨xo4, xc4, co4, cc4, rfl, hm4, hg4⟩
      have hrr := hg4.obj Hr3.out (by simp)
      have fr4 := fld hrr; have ff4 := fldF hrr
      have Hr4 := hid hrr; have Hm4 := hid hm4; have Hg4 := hid hg4
      clear hrr hm4 hg4
      go_wp2_with fail
      have h5 := set2 _ _ (.slice xo4 (withM m c).doms.length xc4) (.slice co4 (withM m c).cons.length cc4) Hr4.out
      generalize ((w4.setCell ⟨w.heap.size + 1 + 1, 0, none⟩ (.slice xo4 (withM m c).doms.length xc4)).setCell ⟨w.heap.size + 1 + 1, 1, none⟩ (.slice co4 (withM m c).cons.length cc4)) = WE at h5 ⊢
      obtain ⟨h5, hG⟩ := h5
      have flE := fld h5
      have hz3 := (Hgw.out.trans Hg3.out).size
      have hz0 := Hs0.out
      have hz1 := lt_of_block Hr3.out
      refine bodyPost_ret (v := .tuple #[.agg #[.slice xo4 (withM m c).doms.length xc4, .slice co4 (withM m c).cons.length cc4], .bool true]) ?_ rfl ?_
      · simp [results, Tryz.results221, go_sem, flE]
      · refine ⟨_, _, by rw [hB], fun _ => Hm4.out.gr' hG (fun b hb hm => by have h1 := hm.1; simp at hb; omega) (fun b hl hm => ⟨by have h1 := hm.1; omega, Nat.lt_of_lt_of_le hm.2 hG.size⟩), fun h => (by rw [hB] at h; cases h), ((Hgw.out.trans Hg3.out).trans Hg4.out).step hG (fun i hi => .inr (by simp at hi; omega))⟩

end Go.Proofs.YtlekngkcifgonaaGreat
