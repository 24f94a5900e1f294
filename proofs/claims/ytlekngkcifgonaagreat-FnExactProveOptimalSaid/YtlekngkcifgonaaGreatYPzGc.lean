/-
  Walks: the generators of clauses and conjunctions; DrawNegateAll.
  Walks: the generator of CheckProof's arguments.
-/
import Derived.Test.YtlekngkcifgonaaGreatYVlMg
import Derived.Test.YtlekngkcifgonaaGreatYTrPrPv
import Derived.Deep.RegionHeldLaw
import Derived.Test.YtlekngkcifgonaaGreatYPy
import Derived.Test.YtlekngkcifgonaaGreatYG13
set_option linter.unusedVariables false
set_option linter.unusedSimpArgs false
namespace Go.Proofs.YtlekngkcifgonaaGreat
open Go.RowKit


end Go.Proofs.YtlekngkcifgonaaGreat

set_option linter.unusedVariables false
set_option linter.unusedSimpArgs false
namespace Go.Proofs.YtlekngkcifgonaaGreat
open Go.RowKit

/-! ### A list of clauses in a block of the call's own -/
def OwnK (B : Nat) (S : List Nat) (w : World) (g n c : Nat) (cls : List Cls) : Prop :=
  ∃ us : List Value, w.ownsRow B 110 1 (.slice (some ⟨g, 0, none⟩) n c) n us ∧ us.length = cls.length ∧ ∀ (i : Nat) u d, us[i]? = some u → cls[i]? = some d → LitsV S w u d
theorem OwnK.cell {B : Nat} {S : List Nat} {w : World} {g n c : Nat} {cls : List Cls} (h : OwnK B S w g n c cls) :
    n = cls.length ∧ (n ≤ c ∧ c ≤ 9223372036854775807) ∧ (B ≤ g ∧ g < w.heap.size) ∧ (∀ j, w.frozen? ⟨g, j, none⟩ = false) ∧ ∃ us : List Value, us.length = n ∧ (∀ (i : Nat) u, us[i]? = some u → w.cell? ⟨g, i, none⟩ = some u) ∧ (∀ (i : Nat) u d, us[i]? = some u → cls[i]? = some d → LitsV S w u d) ∧
      (∀ u ∈ us, u.oneCell' = true) := by
  obtain ⟨us, ⟨h0, h⟩, hl, hu⟩ := h
  rw [Nat.mul_one] at h0
  rcases h with ⟨e1, _⟩ | ⟨g', cap, cur, e1, hB, hg, h6, h7, h8, h9⟩
  · cases e1
  · cases e1
    refine ⟨by omega, ⟨h6, by simp only [maxLen] at h7; omega⟩, ⟨hB, lt_of_block hg⟩, fun j => fldF hg j, us, h0, fun i u hi => ?_, hu, fun u hm => ?_⟩
    · rw [fld hg i]
      have hil := (List.getElem?_eq_some_iff.1 hi).1
      have : (cur.toList.take (n * 1))[i]? = some u := by rw [h9]; exact hi
      rw [List.getElem?_take, if_pos (by omega)] at this
      simpa using this
    · obtain ⟨i, hi⟩ := List.mem_iff_getElem?.1 hm
      have hil := (List.getElem?_eq_some_iff.1 hi).1
      obtain ⟨d, hd⟩ := get_some (xs := cls) (k := i) (by omega)
      obtain ⟨x, y, rfl, -⟩ := (hu i u d hi hd).slice
      rfl
theorem OwnK.cls {B : Nat} {S : List Nat} {w : World} {g n c : Nat} {cls : List Cls} (h : OwnK B S w g n c cls) (hS : g ∉ S) : ClsV S w (.slice (some ⟨g, 0, none⟩) n c) cls := by
  obtain ⟨h1, h2, h3, h4, us, h5, h6, h7, h8⟩ := h.cell
  refine ⟨_, _, by rw [h1], ⟨by omega, h2.2, by simp⟩, fun i d hi => ?_⟩
  have hil := (List.getElem?_eq_some_iff.1 hi).1
  obtain ⟨u, hu⟩ := get_some (xs := us) (k := i) (by omega)
  exact ⟨g, 0, u, rfl, hS, by rw [Nat.zero_add]; exact h6 i u hu, h7 i u d hu hi⟩
theorem OwnK.gr {B : Nat} {S T : List Nat} {w w' : World} {g n c : Nat} {cls : List Cls} (h : OwnK B S w g n c cls) (hg : Gr T w w') (hT : ∀ b ∈ T, b ∈ S ∧ b < B) : OwnK B S w' g n c cls := by
  obtain ⟨us, ho, hl, hu⟩ := h
  refine ⟨us, hg.ownsRow ho (fun b hb => (hT b hb).2), hl, fun i u d hi hd => ?_⟩
  exact (hu i u d hi hd).gr (hg.sub (fun k _ hk => (hT k hk).1))
theorem ClsV.far {S S' : List Nat} {w w' : World} {v : Value} {cs : List Cls} (h : ClsV S w v cs) (hg : Gr S w w') (hS : ∀ b ∈ S', b ∈ S ∨ w.heap.size ≤ b) : ClsV S' w' v cs :=
  let ⟨ao, cap, e, hl, hc⟩ := h
  ⟨ao, cap, e, hl, fun i c hi => let ⟨b, o, u, e1, hs, h1, h2⟩ := hc i c hi; ⟨b, o, u, e1, fun hm => by
    have := World.block_lt_of_cell? w _ h1
    have h' : b < w.heap.size := this
    rcases hS b hm with h | h
    · exact hs h
    · omega, hg.cell h1 hs, h2.far hg hS⟩⟩
theorem OwnK.take {B : Nat} {S : List Nat} {w : World} {g n c : Nat} {cls : List Cls} (h : OwnK B S w g n c cls) (hS : g ∉ S) (k : Nat) (hk : k ≤ n) : ClsV S w (.slice (some ⟨g, 0, none⟩) k c) (cls.take k) := by
  obtain ⟨h1, h2, h3, h4, us, h5, h6, h7, h8⟩ := h.cell
  refine ⟨_, _, by rw [List.length_take, Nat.min_eq_left (by omega)], ⟨by rw [List.length_take]; omega, h2.2, by simp⟩, fun i d hi => ?_⟩
  rw [List.getElem?_take] at hi
  split at hi
  · have hil := (List.getElem?_eq_some_iff.1 hi).1
    obtain ⟨u, hu⟩ := get_some (xs := us) (k := i) (by omega)
    exact ⟨g, 0, u, rfl, hS, by rw [Nat.zero_add]; exact h6 i u hu, h7 i u d hu hi⟩
  · cases hi
/-- One of the clauses is another one. -/
theorem OwnK.put {B : Nat} {S : List Nat} {w : World} {g n c k : Nat} {cls : List Cls} {y : Cls} {u : Value} (h : OwnK B (g :: S) w g n c cls) (hS : g ∉ S) (hk : k < n) (hu : LitsV (g :: S) w u y) : ClsV S (w.setCell ⟨g, k, none⟩ u) (.slice (some ⟨g, 0, none⟩) n c) (cls.set k y) := by
  obtain ⟨h1, h2, h3, h4, us, h5, h6, h7, h8⟩ := h.cell
  have hgr : Gr (g :: S) w (w.setCell ⟨g, k, none⟩ u) := (Gr.refl _ _).setCell _ _ (.inl (by simp))
  refine ⟨_, _, by rw [List.length_set, h1], ⟨by rw [List.length_set]; omega, h2.2, by simp⟩, fun i d hi => ?_⟩
  by_cases hik : k = i
  · subst hik
    rw [List.getElem?_set_self (by omega)] at hi
    cases hi
    obtain ⟨u0, hu0⟩ := get_some (xs := us) (k := k) (by omega)
    exact ⟨g, 0, u, rfl, hS, by rw [Nat.zero_add]; exact World.cell?_setCell_same _ _ _ (h6 k u0 hu0), (hu.gr hgr).sub (fun b _ hb => by simp [hb])⟩
  · rw [List.getElem?_set_ne hik] at hi
    have hil := (List.getElem?_eq_some_iff.1 hi).1
    obtain ⟨v, hv⟩ := get_some (xs := us) (k := i) (by omega)
    exact ⟨g, 0, v, rfl, hS, by rw [Nat.zero_add, World.cell?_setCell_other _ _ _ _ (fun e => hik (by have := congrArg Addr.off e; omega))]; exact h6 i v hv, ((h7 i v d hv hi).gr hgr).sub (fun b _ hb => by simp [hb])⟩
/-- One of the clauses is dropped, in place. -/
theorem OwnK.cut {B : Nat} {S : List Nat} {w : World} {g n c k : Nat} {cls : List Cls} {us : List Value} (h : OwnK B (g :: S) w g n c cls) (hS : g ∉ S) (hk : k < n) (hu : us.length = n) (hc : ∀ (i : Nat) u, us[i]? = some u → w.cell? ⟨g, i, none⟩ = some u) :
    ClsV S (w.setCells g k (us.drop (k + 1))) (.slice (some ⟨g, 0, none⟩) (k + (n - (k + 1))) c) (cls.take k ++ cls.drop (k + 1)) ∧ Gr [g] w (w.setCells g k (us.drop (k + 1))) := by
  obtain ⟨h1, h2, h3, h4, us', h5, h6, h7, h8⟩ := h.cell
  have hus : us' = us := by
    refine List.ext_getElem? fun i => ?_
    by_cases hi : i < n
    · obtain ⟨a, ha⟩ := get_some (xs := us') (k := i) (by omega)
      obtain ⟨b, hb⟩ := get_some (xs := us) (k := i) (by omega)
      have e1 := h6 i a ha
      have e2 := hc i b hb
      rw [ha, hb]
      rw [e1] at e2
      exact e2
    · rw [List.getElem?_eq_none (by omega), List.getElem?_eq_none (by omega)]
  subst hus
  have key : ∀ (vs : List Value) (o : Nat) (W : World), Gr [g] W (W.setCells g o vs) := by
    intro vs
    induction vs with
    | nil => intro o W; exact Gr.refl _ _
    | cons v r ih => intro o W; exact ((Gr.refl _ _).setCell _ _ (.inl (by simp))).trans (ih (o + 1) _)
  have hgr := key (us'.drop (k + 1)) k w
  have hdl : (us'.drop (k + 1)).length = n - (k + 1) := by rw [List.length_drop, h5]
  refine ⟨⟨_, _, by rw [List.length_append, List.length_take, List.length_drop]; congr 1; omega, ⟨by rw [List.length_append, List.length_take, List.length_drop]; omega, h2.2, by simp⟩, fun i d hi => ?_⟩, hgr⟩
  have fin : ∀ {u d}, LitsV (g :: S) w u d → LitsV S (w.setCells g k (us'.drop (k + 1))) u d := fun h => (h.gr (hgr.sub (fun b _ hb => by simp at hb; simp [hb]))).sub (fun b _ hb => by simp [hb])
  have htl : (cls.take k).length = k := by rw [List.length_take]; omega
  by_cases hik : i < k
  · rw [List.getElem?_append_left (by omega), List.getElem?_take, if_pos hik] at hi
    have hil := (List.getElem?_eq_some_iff.1 hi).1
    obtain ⟨u, hu⟩ := get_some (xs := us') (k := i) (by omega)
    exact ⟨g, 0, u, rfl, hS, by rw [Nat.zero_add, World.cell?_setCells_out g _ _ _ _ (fun _ _ => .inl hik)]; exact h6 i u hu, fin (h7 i u d hu hi)⟩
  · rw [List.getElem?_append_right (by omega), htl, List.getElem?_drop] at hi
    have hil := (List.getElem?_eq_some_iff.1 hi).1
    obtain ⟨u, hu⟩ := get_some (xs := us') (k := k + 1 + (i - k)) (by omega)
    have hin := World.cell?_setCells_in g (us'.drop (k + 1)) k w (fun j hj => by
      obtain ⟨x, hx⟩ := get_some (xs := us') (k := k + j) (by omega)
      rw [h6 _ x hx]; rfl) (i - k) (by omega)
    rw [show k + (i - k) = i by omega] at hin
    have e : (us'.drop (k + 1))[i - k]'(by omega) = u := by
      have h9 : (us'.drop (k + 1))[i - k]? = some u := by rw [List.getElem?_drop]; exact hu
      rw [List.getElem?_eq_getElem (by omega)] at h9
      exact Option.some.inj h9
    rw [e] at hin
    exact ⟨g, 0, u, rfl, hS, by rw [Nat.zero_add]; exact hin, fin (h7 _ u d hu hi)⟩

theorem provO_short {m : Mod} {D : List Nat} (hD : validM m = true → VM m D) : ((provO m D).getD []).length ≤ 200 ∧ ∀ c ∈ (provO m D).getD [], c.length ≤ 100 := by
  cases hv : validM m
  · rw [provO_no hv]; simp
  · rw [provO_yes hv]
    cases hi : infO m.cons D with
    | none => simp
    | some a =>
      obtain ⟨h1, h2⟩ := infO_prf hi
      have hVM := hD hv
      refine ⟨h2, fun c hc => ?_⟩
      have := prf_valid _ D [] (Nat.lt_succ_self _) hVM.cons hVM.below (PathOk.nil D) hVM.len a h1 c hc
      unfold validCl at this
      rw [Bool.and_eq_true] at this
      have := (validClS_iff.1 this.2).2.2
      omega

end Go.Proofs.YtlekngkcifgonaaGreat
