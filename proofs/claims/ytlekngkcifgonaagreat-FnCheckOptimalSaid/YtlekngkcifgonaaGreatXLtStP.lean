/-
  Literals and clauses as plain data; how they are read in memory; the plain meaning of the checks on them. No program is mentioned.
  Plain laws of stores: larger domains have a larger fixpoint; two decisions in either order lead to the same domains. No program is mentioned.
-/
import Derived.Test.YtlekngkcifgonaaGreatXLib
import Derived.Test.YtlekngkcifgonaaGreatXFP
set_option linter.unusedVariables false
set_option linter.unusedSimpArgs false
namespace Go.Proofs.YtlekngkcifgonaaGreat
open Go.RowKit

structure Lit where
  var : Int
  val : Int
  neg : Bool
instance : DecidableEq Lit := fun a b =>
  decidable_of_iff (a.var = b.var ∧ a.val = b.val ∧ a.neg = b.neg) ⟨fun ⟨h1, h2, h3⟩ => by cases a; cases b; simp_all, fun h => by subst h; exact ⟨rfl, rfl, rfl⟩⟩
instance : Inhabited Lit := ⟨⟨0, 0, false⟩⟩
theorem Lit.ext' {a b : Lit} (h1 : a.var = b.var) (h2 : a.val = b.val) (h3 : a.neg = b.neg) : a = b := by cases a; cases b; simp_all
abbrev Cls := List Lit

/-- The cells of a list of literals, three each. -/
def LCells (S : List Nat) (w : World) (ao : Option Addr) (ls : Cls) : Prop :=
  ∀ i l, ls[i]? = some l → ∃ b o, ao = some ⟨b, o, none⟩ ∧ b ∉ S ∧
    (w.cell? ⟨b, o + i * 3, none⟩ = some (.int .i64 l.var) ∧ w.cell? ⟨b, o + i * 3 + 1, none⟩ = some (.int .i64 l.val) ∧ w.cell? ⟨b, o + i * 3 + 2, none⟩ = some (.bool l.neg))
def LitsV (S : List Nat) (w : World) (v : Value) (ls : Cls) : Prop :=
  ∃ ao cap, v = .slice ao ls.length cap ∧ (ls.length ≤ cap ∧ cap ≤ 9223372036854775807 ∧ (ao = none → cap = 0)) ∧ LCells S w ao ls
def KCells (S : List Nat) (w : World) (ao : Option Addr) (cs : List Cls) : Prop :=
  ∀ i c, cs[i]? = some c → ∃ b o v, ao = some ⟨b, o, none⟩ ∧ b ∉ S ∧ w.cell? ⟨b, o + i, none⟩ = some v ∧ LitsV S w v c
def ClsV (S : List Nat) (w : World) (v : Value) (cs : List Cls) : Prop :=
  ∃ ao cap, v = .slice ao cs.length cap ∧ (cs.length ≤ cap ∧ cap ≤ 9223372036854775807 ∧ (ao = none → cap = 0)) ∧ KCells S w ao cs
def litC (l : Lit) : List Value := [.int .i64 l.var, .int .i64 l.val, .bool l.neg]

theorem LCells.gr {S : List Nat} {w w' : World} {ao : Option Addr} {ls : Cls} (h : LCells S w ao ls) (hg : Gr S w w') : LCells S w' ao ls :=
  fun i l hi => let ⟨b, o, e, hs, h0, h1, h2⟩ := h i l hi; ⟨b, o, e, hs, hg.cell h0 hs, hg.cell h1 hs, hg.cell h2 hs⟩
theorem LitsV.gr {S : List Nat} {w w' : World} {v : Value} {ls : Cls} (h : LitsV S w v ls) (hg : Gr S w w') : LitsV S w' v ls :=
  let ⟨ao, cap, e, hl, hc⟩ := h; ⟨ao, cap, e, hl, hc.gr hg⟩
theorem ClsV.gr {S : List Nat} {w w' : World} {v : Value} {cs : List Cls} (h : ClsV S w v cs) (hg : Gr S w w') : ClsV S w' v cs :=
  let ⟨ao, cap, e, hl, hc⟩ := h
  ⟨ao, cap, e, hl, fun i c hi => let ⟨b, o, u, e1, hs, h1, h2⟩ := hc i c hi; ⟨b, o, u, e1, hs, hg.cell h1 hs, h2.gr hg⟩⟩
theorem LitsV.sub {S S' : List Nat} {w : World} {v : Value} {ls : Cls} (h : LitsV S w v ls) (hs : ∀ b, b < w.heap.size → b ∈ S' → b ∈ S) : LitsV S' w v ls :=
  let ⟨ao, cap, e, hl, hc⟩ := h
  ⟨ao, cap, e, hl, fun i l hi => let ⟨b, o, e, hn, h0, h1, h2⟩ := hc i l hi; ⟨b, o, e, fun hm => hn (hs b (World.block_lt_of_cell? w _ h0) hm), h0, h1, h2⟩⟩
theorem ClsV.sub {S S' : List Nat} {w : World} {v : Value} {cs : List Cls} (h : ClsV S w v cs) (hs : ∀ b, b < w.heap.size → b ∈ S' → b ∈ S) : ClsV S' w v cs :=
  let ⟨ao, cap, e, hl, hc⟩ := h
  ⟨ao, cap, e, hl, fun i c hi => let ⟨b, o, u, e1, hn, h1, h2⟩ := hc i c hi; ⟨b, o, u, e1, fun hm => hn (hs b (World.block_lt_of_cell? w _ h1) hm), h1, h2.sub hs⟩⟩
theorem LitsV.slice {S : List Nat} {w : World} {v : Value} {ls : Cls} (h : LitsV S w v ls) : ∃ ao cap, v = .slice ao ls.length cap ∧ (ls.length ≤ cap ∧ cap ≤ 9223372036854775807) := by
  obtain ⟨ao, cap, e, ⟨h1, h2, -⟩, -⟩ := h
  exact ⟨ao, cap, e, h1, h2⟩
theorem LitsV.at {S : List Nat} {w : World} {ao : Option Addr} {n cap : Nat} {ls : Cls} (h : LitsV S w (.slice ao n cap) ls) {i : Nat} {l : Lit} (hi : ls[i]? = some l) :
    ∃ b o, ao = some ⟨b, o, none⟩ ∧ b ∉ S ∧ w.cell? ⟨b, o + i * 3, none⟩ = some (.int .i64 l.var) ∧ w.cell? ⟨b, o + i * 3 + 1, none⟩ = some (.int .i64 l.val) ∧ w.cell? ⟨b, o + i * 3 + 2, none⟩ = some (.bool l.neg) := by
  obtain ⟨ao', cap', e, _, hc⟩ := h
  simp only [Value.slice.injEq] at e
  obtain ⟨rfl, _, _⟩ := e
  exact hc i l hi
theorem ClsV.slice {S : List Nat} {w : World} {v : Value} {cs : List Cls} (h : ClsV S w v cs) : ∃ ao cap, v = .slice ao cs.length cap ∧ (cs.length ≤ cap ∧ cap ≤ 9223372036854775807) := by
  obtain ⟨ao, cap, e, ⟨h1, h2, -⟩, -⟩ := h
  exact ⟨ao, cap, e, h1, h2⟩
theorem ClsV.at {S : List Nat} {w : World} {ao : Option Addr} {n cap : Nat} {cs : List Cls} (h : ClsV S w (.slice ao n cap) cs) {i : Nat} {c : Cls} (hi : cs[i]? = some c) :
    ∃ b o vo vc, ao = some ⟨b, o, none⟩ ∧ b ∉ S ∧ w.cell? ⟨b, o + i, none⟩ = some (.slice vo c.length vc) ∧ LitsV S w (.slice vo c.length vc) c := by
  obtain ⟨ao', cap', e, _, hc⟩ := h
  simp only [Value.slice.injEq] at e
  obtain ⟨rfl, _, _⟩ := e
  obtain ⟨b, o, v, e1, hs, h1, h2⟩ := hc i c hi
  obtain ⟨vo, vc, rfl, -⟩ := h2.slice
  exact ⟨b, o, vo, vc, e1, hs, h1, h2⟩
theorem LitsV.nil (S : List Nat) (w : World) : LitsV S w (.slice none 0 0) [] := ⟨none, 0, rfl, by simp, fun i l h => by simp at h⟩
theorem ClsV.nil (S : List Nat) (w : World) : ClsV S w (.slice none 0 0) [] := ⟨none, 0, rfl, by simp, fun i l h => by simp at h⟩

/-! ### The order of literals -/
def litLt (a b : Lit) : Bool := if a.var ≠ b.var then decide (a.var < b.var) else if a.val ≠ b.val then decide (a.val < b.val) else !a.neg && b.neg
theorem litLt_irrefl (a : Lit) : litLt a a = false := by unfold litLt; simp
theorem litLt_iff {a b : Lit} : litLt a b = true ↔ a.var < b.var ∨ (a.var = b.var ∧ (a.val < b.val ∨ (a.val = b.val ∧ a.neg = false ∧ b.neg = true))) := by
  unfold litLt
  by_cases h1 : a.var = b.var
  · rw [if_neg (by simpa using h1)]
    by_cases h2 : a.val = b.val
    · rw [if_neg (by simpa using h2)]
      simp only [Bool.and_eq_true, Bool.not_eq_true']
      constructor
      · rintro ⟨h3, h4⟩; exact .inr ⟨h1, .inr ⟨h2, h3, h4⟩⟩
      · rintro (h3 | ⟨-, h3 | ⟨-, h3, h4⟩⟩)
        · omega
        · omega
        · exact ⟨h3, h4⟩
    · rw [if_pos (by simpa using h2)]
      simp only [decide_eq_true_eq]
      constructor
      · intro h3; exact .inr ⟨h1, .inl h3⟩
      · rintro (h3 | ⟨-, h3 | ⟨h4, -⟩⟩)
        · omega
        · exact h3
        · exact absurd h4 h2
  · rw [if_pos (by simpa using h1)]
    simp only [decide_eq_true_eq]
    constructor
    · exact .inl
    · rintro (h3 | ⟨h3, -⟩)
      · exact h3
      · exact absurd h3 h1
theorem litLt_trans {a b c : Lit} (h : litLt a b = true) (k : litLt b c = true) : litLt a c = true := by
  rw [litLt_iff] at *
  rcases h with h | ⟨h1, h | ⟨h2, h3, h4⟩⟩ <;> rcases k with k | ⟨k1, k | ⟨k2, k3, k4⟩⟩
  · exact .inl (by omega)
  · exact .inl (by omega)
  · exact .inl (by omega)
  · exact .inl (by omega)
  · exact .inr ⟨by omega, .inl (by omega)⟩
  · exact .inr ⟨by omega, .inl (by omega)⟩
  · exact .inl (by omega)
  · exact .inr ⟨by omega, .inl (by omega)⟩
  · rw [h4] at k3; cases k3
theorem litLt_tri (a b : Lit) : litLt a b = true ∨ a = b ∨ litLt b a = true := by
  rw [litLt_iff, litLt_iff]
  rcases Int.lt_trichotomy a.var b.var with h | h | h
  · exact .inl (.inl h)
  · rcases Int.lt_trichotomy a.val b.val with k | k | k
    · exact .inl (.inr ⟨h, .inl k⟩)
    · cases ha : a.neg <;> cases hb : b.neg
      · exact .inr (.inl (Lit.ext' h k (by rw [ha, hb])))
      · exact .inl (.inr ⟨h, .inr ⟨k, rfl, rfl⟩⟩)
      · exact .inr (.inr (.inr ⟨h.symm, .inr ⟨k.symm, rfl, rfl⟩⟩))
      · exact .inr (.inl (Lit.ext' h k (by rw [ha, hb])))
    · exact .inr (.inr (.inr ⟨h.symm, .inl k⟩))
  · exact .inr (.inr (.inl h))
theorem litLt_asymm {a b : Lit} (h : litLt a b = true) : litLt b a = false := by
  cases hb : litLt b a
  · rfl
  · have := litLt_trans h hb; rw [litLt_irrefl] at this; cases this
def negL (l : Lit) : Lit := ⟨l.var, l.val, !l.neg⟩
theorem negL_negL (l : Lit) : negL (negL l) = l := by cases l; simp [negL]
/-- Literals of n variables. -/
def litOk (n : Int) (l : Lit) : Bool := inB 0 (n - 1) l.var && inB 0 5 l.val
/-- In strictly ascending order. -/
def ascB : Cls → Bool
  | a :: b :: r => litLt a b && ascB (b :: r)
  | _ => true
/-- As the reference has it: without a look at the number of variables. -/
def validClS (c : Cls) (n : Int) : Bool := c.all (litOk n) && ascB c && decide (c.length ≤ 12)
def validCl (c : Cls) (n : Int) : Bool := inB 1 4 n && validClS c n
theorem ascB_iff {c : Cls} : ascB c = true ↔ c.Pairwise fun a b => litLt a b = true := by
  induction c with
  | nil => simp [ascB]
  | cons a r ih =>
    cases r with
    | nil => simp [ascB]
    | cons b r =>
      simp only [ascB, Bool.and_eq_true, ih]
      constructor
      · rintro ⟨h1, h2⟩
        refine List.pairwise_cons.2 ⟨fun x hx => ?_, h2⟩
        rcases List.mem_cons.1 hx with rfl | hx
        · exact h1
        · exact litLt_trans h1 ((List.pairwise_cons.1 h2).1 x hx)
      · intro h
        have := List.pairwise_cons.1 h
        exact ⟨this.1 b (List.mem_cons_self ..), this.2⟩

/-! ### Insertion into an ascending list -/
def insL (l : Lit) : Cls → Cls
  | [] => [l]
  | a :: r => if litLt a l then a :: insL l r else if a = l then a :: r else l :: a :: r
theorem mem_insL {l x : Lit} {c : Cls} : x ∈ insL l c ↔ x = l ∨ x ∈ c := by
  induction c with
  | nil => simp [insL]
  | cons a r ih =>
    unfold insL
    split
    · rw [List.mem_cons, ih, List.mem_cons]
      constructor
      · rintro (h | h | h) <;> simp [h]
      · rintro (h | h | h) <;> simp [h]
    · split
      · rename_i h1 h2; subst h2; simp
      · simp
theorem insL_asc {l : Lit} {c : Cls} (h : c.Pairwise fun a b => litLt a b = true) : (insL l c).Pairwise fun a b => litLt a b = true := by
  induction c with
  | nil => simp [insL]
  | cons a r ih =>
    obtain ⟨h1, h2⟩ := List.pairwise_cons.1 h
    unfold insL
    split
    · rename_i hal
      refine List.pairwise_cons.2 ⟨fun x hx => ?_, ih h2⟩
      rcases mem_insL.1 hx with rfl | hx
      · exact hal
      · exact h1 x hx
    · split
      · exact h
      · rename_i h3 h4
        have hla : litLt l a = true := by
          rcases litLt_tri a l with h5 | h5 | h5
          · exact absurd h5 h3
          · exact absurd h5 h4
          · exact h5
        refine List.pairwise_cons.2 ⟨fun x hx => ?_, h⟩
        rcases List.mem_cons.1 hx with rfl | hx
        · exact hla
        · exact litLt_trans hla (h1 x hx)
/-- Two ascending lists with the same members are one. -/
theorem asc_ext {c d : Cls} (hc : c.Pairwise fun a b => litLt a b = true) (hd : d.Pairwise fun a b => litLt a b = true) (h : ∀ x, x ∈ c ↔ x ∈ d) : c = d := by
  induction c generalizing d with
  | nil =>
    cases d with
    | nil => rfl
    | cons b r => exact absurd ((h b).2 (List.mem_cons_self ..)) (by simp)
  | cons a r ih =>
    cases d with
    | nil => exact absurd ((h a).1 (List.mem_cons_self ..)) (by simp)
    | cons b s =>
      obtain ⟨h1, h2⟩ := List.pairwise_cons.1 hc
      obtain ⟨k1, k2⟩ := List.pairwise_cons.1 hd
      have hab : a = b := by
        rcases List.mem_cons.1 ((h a).1 (List.mem_cons_self ..)) with e | e
        · exact e
        · rcases List.mem_cons.1 ((h b).2 (List.mem_cons_self ..)) with e' | e'
          · exact e'.symm
          · have := litLt_trans (h1 b e') (k1 a e); rw [litLt_irrefl] at this; cases this
      subst hab
      congr 1
      refine ih h2 k2 fun x => ?_
      have := h x
      rw [List.mem_cons, List.mem_cons] at this
      constructor
      · intro hx
        rcases this.1 (.inr hx) with e | e
        · subst e; have := h1 x hx; rw [litLt_irrefl] at this; cases this
        · exact e
      · intro hx
        rcases this.2 (.inr hx) with e | e
        · subst e; have := k1 x hx; rw [litLt_irrefl] at this; cases this
        · exact e
/-- The members of a list, ascending, each once. -/
def sortL (c : Cls) : Cls := c.foldl (fun d l => insL l d) []
theorem foldl_ins (c : Cls) : ∀ d : Cls, (d.Pairwise fun a b => litLt a b = true) → ((c.foldl (fun d l => insL l d) d).Pairwise fun a b => litLt a b = true) ∧ ∀ x, x ∈ c.foldl (fun d l => insL l d) d ↔ x ∈ d ∨ x ∈ c := by
  induction c with
  | nil => intro d h; exact ⟨h, fun x => by simp⟩
  | cons a r ih =>
    intro d h
    obtain ⟨h1, h2⟩ := ih (insL a d) (insL_asc h)
    refine ⟨h1, fun x => ?_⟩
    rw [List.foldl_cons, h2 x, mem_insL, List.mem_cons]
    constructor
    · rintro ((h | h) | h) <;> simp [h]
    · rintro (h | h | h) <;> simp [h]
theorem sortL_asc (c : Cls) : (sortL c).Pairwise fun a b => litLt a b = true := (foldl_ins c [] List.Pairwise.nil).1
theorem mem_sortL {c : Cls} {x : Lit} : x ∈ sortL c ↔ x ∈ c := by
  have := (foldl_ins c [] List.Pairwise.nil).2 x
  unfold sortL
  rw [this]; simp
theorem asc_nodup {c : Cls} (h : c.Pairwise fun a b => litLt a b = true) : c.Nodup := h.imp fun {a b} h e => by subst e; rw [litLt_irrefl] at h; cases h
theorem len_of_mem {c d : Cls} (hc : c.Nodup) (h : ∀ x ∈ c, x ∈ d) : c.length ≤ d.length := by
  induction c generalizing d with
  | nil => simp
  | cons a r ih =>
    obtain ⟨h1, h2⟩ := List.nodup_cons.1 hc
    have ha := h a (List.mem_cons_self ..)
    have : r.length ≤ (d.erase a).length := ih h2 fun x hx => (List.mem_erase_of_ne (by rintro rfl; exact h1 hx)).2 (h x (List.mem_cons_of_mem _ hx))
    rw [List.length_erase_of_mem ha] at this
    have hp := List.length_pos_of_mem ha
    rw [List.length_cons]; omega
theorem sortL_len (c : Cls) : (sortL c).length ≤ c.length := len_of_mem (asc_nodup (sortL_asc c)) fun x hx => mem_sortL.1 hx
/-- The negations of literals, ascending. -/
def negsL (c : Cls) : Cls := sortL (c.map negL)
theorem mem_negsL {c : Cls} {x : Lit} : x ∈ negsL c ↔ negL x ∈ c := by
  unfold negsL
  rw [mem_sortL, List.mem_map]
  constructor
  · rintro ⟨y, hy, rfl⟩; rwa [negL_negL]
  · intro h; exact ⟨negL x, h, negL_negL x⟩
theorem negsL_len (c : Cls) : (negsL c).length ≤ c.length := by
  have := sortL_len (c.map negL)
  rwa [List.length_map] at this
theorem validClS_iff {c : Cls} {n : Int} : validClS c n = true ↔ (∀ l ∈ c, litOk n l = true) ∧ (c.Pairwise fun a b => litLt a b = true) ∧ c.length ≤ 12 := by
  unfold validClS
  rw [Bool.and_eq_true, Bool.and_eq_true, List.all_eq_true, ascB_iff, decide_eq_true_eq, and_assoc]
/-- A literal is true of a value list. -/
def trueB (l : Lit) (x : List Int) : Bool := (x.getD l.var.toNat 0 == l.val) != l.neg
def holdsB (c : Cls) (x : List Int) : Bool := c.any fun l => trueB l x
end Go.Proofs.YtlekngkcifgonaaGreat

set_option linter.unusedVariables false
set_option linter.unusedSimpArgs false
namespace Go.Proofs.YtlekngkcifgonaaGreat
open Go.RowKit

theorem Sub.word {D E : List Nat} (h : Sub D E) (vars : List Int) : Sub (wordN vars D) (wordN vars E) := by
  refine ⟨by rw [wordN_len, wordN_len], fun i n hb => ?_⟩
  cases hv : vars[i]? with
  | none =>
    rw [List.getD_eq_getElem?_getD, List.getElem?_eq_none (by rw [wordN_len]; exact List.getElem?_eq_none_iff.1 hv)] at hb
    simp at hb
  | some v =>
    rw [List.getD_eq_getElem?_getD, wordN_get _ _ _ _ hv] at hb ⊢
    exact h.2 _ _ hb
theorem filt_mono {c : Con} {D E : List Nat} (hc : VC c D.length) (h : Sub D E) : Sub (filt c D) (filt c E) := by
  have hc' : VC c E.length := by rw [← h.1]; exact hc
  refine ⟨by rw [filt_len, filt_len]; exact h.1, fun i n hb => ?_⟩
  rcases var_cases c i with hi | ⟨k, v, hk, rfl⟩
  · rw [filt_other hi] at hb ⊢
    exact h.2 _ _ hb
  · obtain ⟨t, ht, h1, h2⟩ := (filt_at hc hk n).1 hb
    exact (filt_at hc' hk n).2 ⟨t, In.mono ht (h.word c.vars), h1, h2⟩
theorem stepF_mono {cs : List Con} {D E : List Nat} (hc : VCs cs D.length) (h : Sub D E) : Sub (stepF cs D) (stepF cs E) := by
  induction cs generalizing D E with
  | nil => exact h
  | cons c r ih =>
    simp only [stepF, List.foldl_cons]
    exact ih (fun c' hc' => by rw [filt_len]; exact hc c' (List.mem_cons_of_mem _ hc')) (filt_mono (hc c (List.mem_cons_self ..)) h)
theorem Sub.zero {D E : List Nat} (h : Sub D E) (h0 : 0 ∈ E) : 0 ∈ D := by
  obtain ⟨i, hi⟩ := List.mem_iff_getElem?.1 h0
  have hil : i < D.length := by have := (List.getElem?_eq_some_iff.1 hi).1; have := h.1; omega
  have e : D.getD i 0 = 0 := by
    refine Nat.eq_of_testBit_eq fun n => ?_
    rw [Nat.zero_testBit]
    cases hb : (D.getD i 0).testBit n
    · rfl
    · have := h.2 i n hb
      rw [List.getD_eq_getElem?_getD, hi] at this
      simp at this
  rw [List.getD_eq_getElem?_getD, List.getElem?_eq_getElem hil] at e
  simp at e
  rw [← e]
  exact List.getElem_mem hil
theorem fix_ge {cs : List Con} {D F : List Nat} (hc : VCs cs D.length) (h0 : 0 ∉ F) (hs : Sub F D) (he : stepF cs F = F) : Sub F (fix cs D) := by
  refine fix_ind (cs := cs) (fun D R => Sub F D → Sub F R) ?_ ?_ ?_ D hc hs
  · intro D _ hz h
    exact absurd (h.zero hz) h0
  · intro D _ _ _ h; exact h
  · intro D R hD _ ih h
    refine ih ?_
    rw [← he]
    exact stepF_mono (by rw [h.1]; exact hD) h
/-- A domain is cut by a set. -/
def andAt (D : List Nat) (i d : Nat) : List Nat := D.set i (D.getD i 0 &&& d)
theorem andAt_len (D : List Nat) (i d : Nat) : (andAt D i d).length = D.length := by simp [andAt]
theorem andAt_get (D : List Nat) (i d k : Nat) : (andAt D i d).getD k 0 = if k = i then D.getD i 0 &&& d else D.getD k 0 := by
  unfold andAt
  simp only [List.getD_eq_getElem?_getD, List.getElem?_set]
  by_cases h : i = k
  · subst h
    rw [if_pos rfl, if_pos rfl]
    by_cases hl : i < D.length
    · rw [if_pos hl]; rfl
    · rw [if_neg hl, List.getElem?_eq_none (by omega)]; simp
  · rw [if_neg h, if_neg (fun e => h e.symm)]
theorem andAt_bit {D : List Nat} {i d k n : Nat} : ((andAt D i d).getD k 0).testBit n = true ↔ (D.getD k 0).testBit n = true ∧ (k = i → d.testBit n = true) := by
  rw [andAt_get]
  by_cases h : k = i
  · subst h; rw [if_pos rfl, Nat.testBit_and, Bool.and_eq_true]; simp
  · rw [if_neg h]; simp [h]
theorem andAt_sub (D : List Nat) (i d : Nat) : Sub (andAt D i d) D := ⟨andAt_len _ _ _, fun k n h => (andAt_bit.1 h).1⟩
theorem andAt_below {D : List Nat} (h : Below64 D) (i d : Nat) : Below64 (andAt D i d) := (andAt_sub D i d).below h
end Go.Proofs.YtlekngkcifgonaaGreat
