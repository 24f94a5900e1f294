/-
  Walks: the set of the values that make a literal true.
  Propagation with clauses, in plain mathematics. No program is mentioned.
  Building a proof, in plain mathematics: the steps of a search that fails. No program is mentioned.
-/
import Derived.Test.YtlekngkcifgonaaGreatXLtStP
import Derived.Test.YtlekngkcifgonaaGreatXA
set_option linter.unusedVariables false
set_option linter.unusedSimpArgs false
namespace Go.Proofs.YtlekngkcifgonaaGreat
open Go.RowKit

def litD (l : Lit) : Nat := if l.neg then 63 - 2 ^ l.val.toNat else 2 ^ l.val.toNat
theorem litOk_iff {n : Int} {l : Lit} : litOk n l = true ↔ (0 ≤ l.var ∧ l.var ≤ n - 1) ∧ 0 ≤ l.val ∧ l.val ≤ 5 := by
  unfold litOk
  rw [Bool.and_eq_true, inB_iff, inB_iff]
theorem litD_lt (l : Lit) (h : 0 ≤ l.val ∧ l.val ≤ 5) : litD l < 64 := by
  obtain ⟨a, b, c⟩ := l
  have : b = 0 ∨ b = 1 ∨ b = 2 ∨ b = 3 ∨ b = 4 ∨ b = 5 := by simp at h; omega
  rcases this with rfl | rfl | rfl | rfl | rfl | rfl <;> cases c <;> simp [litD]

set_option maxRecDepth 100000 in
set_option maxHeartbeats 2000000 in
theorem trues_c (l : Lit) (w : World) (h : 0 ≤ l.val ∧ l.val ≤ 5) :
    Calls Tryz.prog 177 #[.agg #[.int .i64 l.var, .int .i64 l.val, .bool l.neg]] w fun e w' => e = .returned (.int .i64 (litD l : Nat)) ∧ Gr [] w w' := by
  obtain ⟨a, b, c⟩ := l
  have hb : b = 0 ∨ b = 1 ∨ b = 2 ∨ b = 3 ∨ b = 4 ∨ b = 5 := by simp at h; omega
  have hg0 : Gr [] w (w.alloc (.cells #[.int .i64 a, .int .i64 b, .bool c] 45)) := (Gr.refl _ _).alloc _
  have fb := fld (heap_alloc_new w (.cells #[.int .i64 a, .int .i64 b, .bool c] 45))
  have Hg0 := hid hg0
  clear hg0 h
  rcases hb with rfl | rfl | rfl | rfl | rfl | rfl <;> cases c
  all_goals
    go_enter Tryz.func177, Tryz.ntmps177
    go_wp2_with fail
    go_ret
    exact ⟨by rfl, Hg0.out⟩
set_option maxRecDepth 100000 in
set_option maxHeartbeats 2000000 in
theorem literalDomain_c (l : Lit) (w : World) (h : 0 ≤ l.val ∧ l.val ≤ 5) :
    Calls Tryz.prog 100 #[.agg #[.int .i64 l.var, .int .i64 l.val, .bool l.neg]] w fun e w' => e = .returned (.int .i64 (litD l : Nat)) ∧ Gr [] w w' := by
  obtain ⟨a, b, c⟩ := l
  have hb : b = 0 ∨ b = 1 ∨ b = 2 ∨ b = 3 ∨ b = 4 ∨ b = 5 := by simp at h; omega
  have hg0 : Gr [] w (w.alloc (.cells #[.int .i64 a, .int .i64 b, .bool c] 45)) := (Gr.refl _ _).alloc _
  have fb := fld (heap_alloc_new w (.cells #[.int .i64 a, .int .i64 b, .bool c] 45))
  have Hg0 := hid hg0
  clear hg0 h
  rcases hb with rfl | rfl | rfl | rfl | rfl | rfl <;> cases c
  all_goals
    go_enter Tryz.func100, Tryz.ntmps100
    go_wp2_with fail
    go_ret
    exact ⟨by rfl, Hg0.out⟩

def litDn (b : Nat) (c : Bool) : Nat := if c then 63 - 2 ^ b else 2 ^ b
theorem litDn_bit : ∀ (b v : Fin 6) (c : Bool), (litDn b.val c).testBit v.val = ((v.val == b.val) != c) := by decide +kernel
theorem litD_bit (l : Lit) (v : Nat) (h : 0 ≤ l.val ∧ l.val ≤ 5) (hv : v < 6) : (litD l).testBit v = (((v : Int) == l.val) != l.neg) := by
  obtain ⟨b, hb⟩ := Int.eq_ofNat_of_zero_le h.1
  have h1 := litDn_bit ⟨b, by omega⟩ ⟨v, hv⟩ l.neg
  have e : litD l = litDn b l.neg := by unfold litD litDn; rw [hb, Int.toNat_natCast]
  rw [e, h1, hb]
  congr 1
  rw [Bool.eq_iff_iff]
  simp
  omega
end Go.Proofs.YtlekngkcifgonaaGreat

set_option linter.unusedVariables false
set_option linter.unusedSimpArgs false
namespace Go.Proofs.YtlekngkcifgonaaGreat
open Go.RowKit

/-- A literal that is not false on the domains. -/
def opn (D : List Nat) (l : Lit) : Bool := (D.getD l.var.toNat 0 &&& litD l) != 0
def unitF (c : Cls) (D : List Nat) : List Nat :=
  match c.filter (opn D) with
  | [] => zeros D.length
  | [l] => andAt D l.var.toNat (litD l)
  | _ => D
theorem zeros_subD (D : List Nat) : Sub (zeros D.length) D := by
  refine ⟨by simp [zeros], fun k n h => ?_⟩
  unfold zeros at h
  rw [List.getD_eq_getElem?_getD, List.getElem?_replicate] at h
  split at h <;> simp at h
theorem unitF_sub (c : Cls) (D : List Nat) : Sub (unitF c D) D := by
  unfold unitF
  split
  · exact zeros_subD D
  · exact andAt_sub _ _ _
  · exact Sub.refl D
theorem unitF_len (c : Cls) (D : List Nat) : (unitF c D).length = D.length := (unitF_sub c D).1
def clsF (cls : List Cls) (D : List Nat) : List Nat := cls.foldl (fun D c => unitF c D) D
theorem clsF_sub (cls : List Cls) : ∀ D : List Nat, Sub (clsF cls D) D := by
  induction cls with
  | nil => intro D; exact Sub.refl D
  | cons c r ih => intro D; exact (ih (unitF c D)).trans (unitF_sub c D)
theorem clsF_len (cls : List Cls) (D : List Nat) : (clsF cls D).length = D.length := (clsF_sub cls D).1
theorem clsF_snoc {cls : List Cls} {n : Nat} {c : Cls} (h : cls[n]? = some c) (D : List Nat) : clsF (cls.take (n + 1)) D = unitF c (clsF (cls.take n) D) := by
  unfold clsF
  rw [List.take_add_one, h, List.foldl_append]
  rfl
def stepC (cs : List Con) (cls : List Cls) (D : List Nat) : List Nat := clsF cls (fix cs D)
theorem stepC_sub {cs : List Con} {cls : List Cls} {D : List Nat} (h : VCs cs D.length) : Sub (stepC cs cls D) D := (clsF_sub cls _).trans (fix_sub h)
theorem stepC_len {cs : List Con} {cls : List Cls} {D : List Nat} (h : VCs cs D.length) : (stepC cs cls D).length = D.length := (stepC_sub h).1
theorem stepC_below {cs : List Con} {cls : List Cls} {D : List Nat} (h : VCs cs D.length) (hb : Below64 D) : Below64 (stepC cs cls D) := (stepC_sub h).below hb
theorem stepC_lt {cs : List Con} {cls : List Cls} {D : List Nat} (h : VCs cs D.length) (hs : stepC cs cls D ≠ D) : (stepC cs cls D).sum < D.sum := sum_lt (stepC_sub h) hs
def fixCn (cs : List Con) (cls : List Cls) : Nat → List Nat → List Nat
  | 0, D => D
  | n + 1, D => if 0 ∈ D then zeros D.length else if stepC cs cls D = D then D else fixCn cs cls n (stepC cs cls D)
def fixC (cs : List Con) (cls : List Cls) (D : List Nat) : List Nat := fixCn cs cls (D.sum + 1) D
theorem fixCn_eq {cs : List Con} {cls : List Cls} : ∀ (n m : Nat) (D : List Nat), VCs cs D.length → D.sum < n → D.sum < m → fixCn cs cls n D = fixCn cs cls m D
  | 0, _, D, _, h, _ => by omega
  | n + 1, 0, D, _, _, h => by omega
  | n + 1, m + 1, D, hv, h1, h2 => by
    unfold fixCn
    split
    · rfl
    · split
      · rfl
      · rename_i h3 h4
        have hlt := stepC_lt hv h4
        exact fixCn_eq n m _ (by rw [stepC_len hv]; exact hv) (by omega) (by omega)
theorem fixC_eq {cs : List Con} {cls : List Cls} {D : List Nat} (h : VCs cs D.length) : fixC cs cls D = if 0 ∈ D then zeros D.length else if stepC cs cls D = D then D else fixC cs cls (stepC cs cls D) := by
  conv => lhs; unfold fixC; unfold fixCn
  split
  · rfl
  · split
    · rfl
    · rename_i h3 h4
      have hlt := stepC_lt h h4
      exact fixCn_eq _ _ _ (by rw [stepC_len h]; exact h) hlt (by omega)
theorem fixC_zero {cs : List Con} {cls : List Cls} {D : List Nat} (h : VCs cs D.length) (h0 : 0 ∈ D) : fixC cs cls D = zeros D.length := by rw [fixC_eq h, if_pos h0]
theorem fixC_done {cs : List Con} {cls : List Cls} {D : List Nat} (h : VCs cs D.length) (h0 : 0 ∉ D) (hs : stepC cs cls D = D) : fixC cs cls D = D := by rw [fixC_eq h, if_neg h0, if_pos hs]
theorem fixC_more {cs : List Con} {cls : List Cls} {D : List Nat} (h : VCs cs D.length) (h0 : 0 ∉ D) (hs : stepC cs cls D ≠ D) : fixC cs cls D = fixC cs cls (stepC cs cls D) := by rw [fixC_eq h, if_neg h0, if_neg hs]
theorem fixC_ind {cs : List Con} {cls : List Cls} (P : List Nat → List Nat → Prop) (hz : ∀ D, VCs cs D.length → 0 ∈ D → P D (zeros D.length)) (he : ∀ D, VCs cs D.length → 0 ∉ D → stepC cs cls D = D → P D D)
    (hs : ∀ D E, VCs cs D.length → 0 ∉ D → P (stepC cs cls D) E → P D E) : ∀ (n : Nat) (D : List Nat), VCs cs D.length → D.sum < n → P D (fixC cs cls D)
  | 0, D, _, h => by omega
  | n + 1, D, hv, h => by
    rw [fixC_eq hv]
    split
    · rename_i h0; exact hz D hv h0
    · rename_i h0
      split
      · rename_i h1; exact he D hv h0 h1
      · rename_i h1
        have hlt := stepC_lt hv h1
        exact hs D _ hv h0 (fixC_ind P hz he hs n _ (by rw [stepC_len hv]; exact hv) (by omega))
theorem fixC_sub {cs : List Con} {cls : List Cls} {D : List Nat} (h : VCs cs D.length) : Sub (fixC cs cls D) D :=
  fixC_ind (fun D E => Sub E D) (fun D _ _ => zeros_subD D) (fun D _ _ _ => Sub.refl D) (fun D E hv _ hE => hE.trans (stepC_sub hv)) _ D h (Nat.lt_succ_self _)
theorem fixC_len {cs : List Con} {cls : List Cls} {D : List Nat} (h : VCs cs D.length) : (fixC cs cls D).length = D.length := (fixC_sub h).1
/-- Propagation with clauses leaves nothing. -/
def refB (cs : List Con) (cls : List Cls) (D : List Nat) : Bool := (fixC cs cls D).getD 0 0 == 0
theorem refB_zero {cs : List Con} {cls : List Cls} {D : List Nat} (h : VCs cs D.length) (hl : 0 < D.length) (h0 : 0 ∈ D) : refB cs cls D = true := by
  unfold refB
  rw [fixC_zero h h0, List.getD_eq_getElem?_getD]
  simp [zeros, hl]
theorem refB_done {cs : List Con} {cls : List Cls} {D : List Nat} (h : VCs cs D.length) (hl : 0 < D.length) (h0 : 0 ∉ D) (hs : stepC cs cls D = D) : refB cs cls D = false := by
  unfold refB
  rw [fixC_done h h0 hs]
  cases D with
  | nil => simp at hl
  | cons d r => simp at h0 ⊢; omega
theorem refB_more {cs : List Con} {cls : List Cls} {D : List Nat} (h : VCs cs D.length) (h0 : 0 ∉ D) : refB cs cls D = refB cs cls (stepC cs cls D) := by
  by_cases hs : stepC cs cls D = D
  · rw [hs]
  · unfold refB; rw [fixC_more h h0 hs]
theorem zeros_mem {n : Nat} (h : 0 < n) : 0 ∈ zeros n := by unfold zeros; exact List.mem_replicate.2 ⟨by omega, rfl⟩
theorem unitF_zeros (c : Cls) (n : Nat) : unitF c (zeros n) = zeros n := by
  have hz : ∀ l, opn (zeros n) l = false := fun l => by
    unfold opn zeros
    rw [List.getD_eq_getElem?_getD, List.getElem?_replicate]
    split <;> simp
  unfold unitF
  rw [List.filter_eq_nil_iff.2 (fun l _ => by rw [hz l]; simp)]
  simp [zeros]
theorem clsF_zeros (cls : List Cls) (n : Nat) : clsF cls (zeros n) = zeros n := by
  induction cls with
  | nil => rfl
  | cons c r ih => show clsF r (unitF c (zeros n)) = _; rw [unitF_zeros, ih]
theorem stepC_zero {cs : List Con} {cls : List Cls} {D : List Nat} (h : VCs cs D.length) (hl : 0 < D.length) (h0 : 0 ∈ D) : 0 ∈ stepC cs cls D := by
  unfold stepC
  rw [fix_zero h h0, clsF_zeros]
  exact zeros_mem hl
theorem clsF_below {cls : List Cls} {D : List Nat} (h : Below64 D) : Below64 (clsF cls D) := (clsF_sub cls D).below h
/-! ### The literals that are not false -/
def opens (D : List Nat) (c : Cls) : Cls := c.filter (opn D)
theorem opens_snoc {D : List Nat} {c : Cls} {n : Nat} {l : Lit} (h : c[n]? = some l) : opens D (c.take (n + 1)) = opens D (c.take n) ++ (if opn D l then [l] else []) := by
  unfold opens
  rw [List.take_add_one, h, List.filter_append]
  congr 1
  show List.filter (opn D) [l] = _
  cases hb : opn D l <;> simp [hb]
theorem opens_le (D : List Nat) (c : Cls) (n : Nat) : (opens D (c.take n)).length ≤ (opens D c).length := ((List.take_sublist n c).filter _).length_le
theorem opens_take (D : List Nat) (c : Cls) (n : Nat) : (opens D (c.take n)).length ≤ n := Nat.le_trans (List.length_filter_le _ _) (List.length_take_le _ _)
theorem unitF_0 {c : Cls} {D : List Nat} (h : opens D c = []) : unitF c D = zeros D.length := by unfold opens at h; unfold unitF; rw [h]
theorem unitF_1 {c : Cls} {D : List Nat} {l : Lit} (h : opens D c = [l]) : unitF c D = andAt D l.var.toNat (litD l) := by unfold opens at h; unfold unitF; rw [h]
theorem unitF_2 {c : Cls} {D : List Nat} (h : 2 ≤ (opens D c).length) : unitF c D = D := by
  unfold opens at h
  unfold unitF
  split
  · rename_i e; rw [e] at h; simp at h
  · rename_i e; rw [e] at h; simp at h
  · rfl
theorem opens_mem {D : List Nat} {c : Cls} {l : Lit} (h : l ∈ opens D c) : l ∈ c := (List.mem_filter.1 h).1
theorem opens_last {D : List Nat} {c : Cls} {l : Lit} (h : (opens D c).length = 1) (hl : opens D c ≠ [] → (opens D c).getLast? = some l) : opens D c = [l] := by
  match e : opens D c, h with
  | [x], _ =>
    rw [e] at hl
    have := hl (by simp)
    simp at this
    rw [this]
theorem refB_empty {cs : List Con} {cls : List Cls} {D : List Nat} (h : VCs cs D.length) (hl : 0 < D.length) (h0 : 0 ∈ stepC cs cls D) : refB cs cls D = true := by
  by_cases hd : 0 ∈ D
  · exact refB_zero h hl hd
  · rw [refB_more h hd]
    exact refB_zero (by rw [stepC_len h]; exact h) (by rw [stepC_len h]; exact hl) h0
end Go.Proofs.YtlekngkcifgonaaGreat

set_option linter.unusedVariables false
set_option linter.unusedSimpArgs false
namespace Go.Proofs.YtlekngkcifgonaaGreat
open Go.RowKit

def cat2 : Option (List Cls) → Option (List Cls) → Option (List Cls)
  | some x, some y => some (x ++ y)
  | _, _ => none
theorem cat2_assoc (a b c : Option (List Cls)) : cat2 (cat2 a b) c = cat2 a (cat2 b c) := by
  cases a <;> cases b <;> cases c <;> simp [cat2]
theorem cat2_none (a : Option (List Cls)) : cat2 a none = none := by cases a <;> rfl
theorem cat2_nil (a : Option (List Cls)) : cat2 (some []) a = a := by cases a <;> rfl
theorem cat2_nil' (a : Option (List Cls)) : cat2 a (some []) = a := by cases a <;> simp [cat2]
theorem cat2_some {a b : Option (List Cls)} {z : List Cls} (h : cat2 a b = some z) : ∃ x y, a = some x ∧ b = some y ∧ z = x ++ y := by
  cases a with
  | none => cases h
  | some x =>
    cases b with
    | none => cases h
    | some y => cases h; exact ⟨x, y, rfl, rfl, rfl⟩
def coll (f : Int → Option (List Cls)) : List Int → Option (List Cls)
  | [] => some []
  | v :: r => cat2 (f v) (coll f r)
theorem coll_app (f : Int → Option (List Cls)) (xs ys : List Int) : coll f (xs ++ ys) = cat2 (coll f xs) (coll f ys) := by
  induction xs with
  | nil => rw [List.nil_append, coll, cat2_nil]
  | cons v r ih => rw [List.cons_append, coll, coll, ih, cat2_assoc]
theorem coll_take {f : Int → Option (List Cls)} {vs : List Int} {j : Nat} {v : Int} (h : vs[j]? = some v) : coll f (vs.take (j + 1)) = cat2 (coll f (vs.take j)) (f v) := by
  rw [List.take_add_one, h, coll_app, Option.toList_some, coll, coll, cat2_nil']
theorem coll_drop (f : Int → Option (List Cls)) (vs : List Int) (j : Nat) : coll f vs = cat2 (coll f (vs.take j)) (coll f (vs.drop j)) := by rw [← coll_app, List.take_append_drop]
theorem coll_cong {f g : Int → Option (List Cls)} {vs : List Int} (h : ∀ v ∈ vs, f v = g v) : coll f vs = coll g vs := by
  induction vs with
  | nil => rfl
  | cons v r ih => rw [coll, coll, h v (List.mem_cons_self ..), ih fun u hu => h u (List.mem_cons_of_mem _ hu)]
theorem coll_len {f : Int → Option (List Cls)} {B : Nat} : ∀ {vs : List Int}, (∀ v ∈ vs, ∀ a, f v = some a → a.length ≤ B) → ∀ a, coll f vs = some a → a.length ≤ vs.length * B
  | [], _, a, h => by cases h; simp
  | v :: r, hB, a, h => by
    obtain ⟨x, y, h1, h2, rfl⟩ := cat2_some h
    have k1 := hB v (List.mem_cons_self ..) x h1
    have k2 := coll_len (fun u hu => hB u (List.mem_cons_of_mem _ hu)) y h2
    rw [List.length_append, List.length_cons, Nat.add_mul]; omega
theorem coll_mem {f : Int → Option (List Cls)} : ∀ {vs : List Int} {a : List Cls} {c : Cls}, coll f vs = some a → c ∈ a → ∃ v ∈ vs, ∃ b, f v = some b ∧ c ∈ b
  | [], a, c, h, hc => by cases h; simp at hc
  | v :: r, a, c, h, hc => by
    obtain ⟨x, y, h1, h2, rfl⟩ := cat2_some h
    rcases List.mem_append.1 hc with hc | hc
    · exact ⟨v, List.mem_cons_self .., x, h1, hc⟩
    · obtain ⟨u, hu, b, h3, h4⟩ := coll_mem h2 hc
      exact ⟨u, List.mem_cons_of_mem _ hu, b, h3, h4⟩
theorem coll_all {f : Int → Option (List Cls)} : ∀ {vs : List Int} {a : List Cls} {v : Int}, coll f vs = some a → v ∈ vs → ∃ b, f v = some b
  | [], a, v, h, hv => by simp at hv
  | u :: r, a, v, h, hv => by
    obtain ⟨x, y, h1, h2, rfl⟩ := cat2_some h
    rcases List.mem_cons.1 hv with rfl | hv
    · exact ⟨x, h1⟩
    · exact coll_all h2 hv

/-! ### The reference's bound -/
def okP (n : Nat) : Option (List Cls) → Bool
  | none => false
  | some a => decide (n + a.length ≤ 200)
theorem okP_iff {n : Nat} {r : Option (List Cls)} : okP n r = true ↔ ∃ a, r = some a ∧ n + a.length ≤ 200 := by
  cases r with
  | none => simp [okP]
  | some a => simp [okP]
theorem okP_cat (n : Nat) (x : List Cls) (b : Option (List Cls)) : okP n (cat2 (some x) b) = okP (n + x.length) b := by
  cases b with
  | none => rfl
  | some y => simp [okP, cat2, Nat.add_assoc]
theorem okP_no {n : Nat} {a b : Option (List Cls)} (h : okP n a = false) : okP n (cat2 a b) = false := by
  cases hb : okP n (cat2 a b)
  · rfl
  · obtain ⟨z, h1, h2⟩ := okP_iff.1 hb
    obtain ⟨x, y, rfl, rfl, rfl⟩ := cat2_some h1
    rw [List.length_append] at h2
    have : okP n (some x) = true := okP_iff.2 ⟨x, rfl, by omega⟩
    rw [h] at this; cases this
theorem okP_take {n : Nat} {f : Int → Option (List Cls)} {vs : List Int} {j : Nat} (h : okP n (coll f (vs.take j)) = false) : okP n (coll f vs) = false := by
  rw [coll_drop f vs j]; exact okP_no h

/-! ### The search -/
def kid (E : List Nat) (v : Int) : List Nat := E.set (openAt E) (2 ^ v.toNat)
def dcs (E : List Nat) (v : Int) : Lit := ⟨(openAt E : Nat), v, false⟩
def opv (E : List Nat) : List Int := vals (E.getD (openAt E) 0)
def prfN (cs : List Con) : Nat → List Nat → Cls → Option (List Cls)
  | 0, _, _ => none
  | k + 1, D, p =>
    if 0 ∈ fix cs D then some [negsL p]
    else if openAt (fix cs D) = D.length then none
    else cat2 (coll (fun v => prfN cs k (kid (fix cs D) v) (p ++ [dcs (fix cs D) v])) (opv (fix cs D))) (some [negsL p])
def prf (cs : List Con) (D : List Nat) (p : Cls) : Option (List Cls) := prfN cs (D.sum + 1) D p
theorem kid_len (E : List Nat) (v : Int) : (kid E v).length = E.length := by simp [kid]
theorem opv_mem {E : List Nat} {v : Int} (h : v ∈ opv E) : ∃ u : Nat, v = u ∧ u < 6 ∧ (E.getD (openAt E) 0).testBit u = true := mem_vals.1 h
theorem opv_open {E : List Nat} {v : Int} (h : v ∈ opv E) : openAt E < E.length := by
  obtain ⟨u, -, -, hb⟩ := opv_mem h
  rcases Nat.lt_or_ge (openAt E) E.length with h | h
  · exact h
  · rw [List.getD_eq_getElem?_getD, List.getElem?_eq_none h] at hb
    simp at hb
theorem kid_sub {E : List Nat} {v : Int} (h : v ∈ opv E) : Sub (kid E v) E := by
  have ho := opv_open h
  obtain ⟨u, rfl, hu, hb⟩ := opv_mem h
  obtain ⟨d, hd⟩ := get_some ho
  rw [List.getD_eq_getElem?_getD, hd] at hb
  exact set_sub hd hb
theorem kid_lt {E : List Nat} {v : Int} (h : v ∈ opv E) : (kid E v).sum < E.sum := by
  have ho := opv_open h
  refine sum_lt (kid_sub h) fun e => ?_
  obtain ⟨u, rfl, hu, hb⟩ := opv_mem h
  obtain ⟨d, hd⟩ := get_some ho
  have h1 := congrArg (fun l => l[openAt E]?) e
  unfold kid at h1
  simp only [List.getElem?_set_self ho, hd, Int.toNat_natCast, Option.some.injEq] at h1
  have h2 := openAt_at hd
  rw [← h1, vals_two_pow hu] at h2
  exact h2 rfl
theorem sum_le {D E : List Nat} (h : Sub D E) : D.sum ≤ E.sum := by
  by_cases e : D = E
  · rw [e]; exact Nat.le_refl _
  · exact Nat.le_of_lt (sum_lt h e)
theorem fix_kid_lt {cs : List Con} {D : List Nat} (hv : VCs cs D.length) {v : Int} (h : v ∈ opv (fix cs D)) : (kid (fix cs D) v).sum < D.sum := Nat.lt_of_lt_of_le (kid_lt h) (sum_le (fix_sub hv))
theorem fix_kid_len {cs : List Con} {D : List Nat} (hv : VCs cs D.length) (v : Int) : (kid (fix cs D) v).length = D.length := by rw [kid_len, fix_len hv]
theorem prfN_eq {cs : List Con} : ∀ (n m : Nat) (D : List Nat) (p : Cls), VCs cs D.length → D.sum < n → D.sum < m → prfN cs n D p = prfN cs m D p
  | 0, _, D, _, _, h, _ => by omega
  | n + 1, 0, D, _, _, _, h => by omega
  | n + 1, m + 1, D, p, hv, h1, h2 => by
    unfold prfN
    split
    · rfl
    · split
      · rfl
      · congr 1
        refine coll_cong fun v hm => ?_
        have hlt := fix_kid_lt hv hm
        exact prfN_eq n m _ _ (by rw [fix_kid_len hv]; exact hv) (by omega) (by omega)
theorem prf_zero {cs : List Con} {D : List Nat} {p : Cls} (h0 : 0 ∈ fix cs D) : prf cs D p = some [negsL p] := by unfold prf prfN; rw [if_pos h0]
theorem prf_none {cs : List Con} {D : List Nat} {p : Cls} (h0 : 0 ∉ fix cs D) (ho : openAt (fix cs D) = D.length) : prf cs D p = none := by unfold prf prfN; rw [if_neg h0, if_pos ho]
theorem prf_more {cs : List Con} {D : List Nat} {p : Cls} (hv : VCs cs D.length) (h0 : 0 ∉ fix cs D) (ho : openAt (fix cs D) ≠ D.length) :
    prf cs D p = cat2 (coll (fun v => prf cs (kid (fix cs D) v) (p ++ [dcs (fix cs D) v])) (opv (fix cs D))) (some [negsL p]) := by
  conv => lhs; unfold prf; unfold prfN
  rw [if_neg h0, if_neg ho]
  congr 1
  refine coll_cong fun v hm => ?_
  have hlt := fix_kid_lt hv hm
  exact prfN_eq _ _ _ _ (by rw [fix_kid_len hv]; exact hv) hlt (by omega)

/-! ### The path of decisions -/
theorem nodup_len {α : Type} [DecidableEq α] {c d : List α} (hc : c.Nodup) (h : ∀ x ∈ c, x ∈ d) : c.length ≤ d.length := by
  induction c generalizing d with
  | nil => simp
  | cons a r ih =>
    obtain ⟨h1, h2⟩ := List.nodup_cons.1 hc
    have ha := h a (List.mem_cons_self ..)
    have : r.length ≤ (d.erase a).length := ih h2 fun x hx => (List.mem_erase_of_ne (by rintro rfl; exact h1 hx)).2 (h x (List.mem_cons_of_mem _ hx))
    rw [List.length_erase_of_mem ha] at this
    have hp := List.length_pos_of_mem ha
    rw [List.length_cons]; omega
structure PathOk (D : List Nat) (p : Cls) : Prop where
  nd : (p.map Lit.var).Nodup
  ok : ∀ l ∈ p, litOk D.length l = true
  pos : ∀ l ∈ p, l.neg = false
  one : ∀ l ∈ p, ∀ n, (D.getD l.var.toNat 0).testBit n = true → (n : Int) = l.val
theorem PathOk.nil (D : List Nat) : PathOk D [] := ⟨by simp, by simp, by simp, by simp⟩
theorem PathOk.sub {D E : List Nat} {p : Cls} (h : PathOk D p) (hs : Sub E D) : PathOk E p :=
  ⟨h.nd, by rw [hs.1]; exact h.ok, h.pos, fun l hl n hb => h.one l hl n (hs.2 _ _ hb)⟩
theorem PathOk.nodup {D : List Nat} {p : Cls} (h : PathOk D p) : p.Nodup := by
  have := h.nd
  rw [List.nodup_iff_pairwise_ne, List.pairwise_map] at this
  exact this.imp fun hab e => hab (by rw [e])
theorem PathOk.len {D : List Nat} {p : Cls} (h : PathOk D p) : p.length ≤ D.length := by
  have hn : (p.map fun l => l.var.toNat).Nodup := by
    have := h.nd
    rw [List.nodup_iff_pairwise_ne, List.pairwise_map] at this ⊢
    refine this.imp_of_mem fun {a b} ha hb hab e => hab ?_
    have h1 := (litOk_iff.1 (h.ok a ha)).1
    have h2 := (litOk_iff.1 (h.ok b hb)).1
    omega
  have h3 : (p.map fun l => l.var.toNat).length ≤ (List.range D.length).length := nodup_len hn fun x hx => by
    obtain ⟨l, hl, rfl⟩ := List.mem_map.1 hx
    have h1 := (litOk_iff.1 (h.ok l hl)).1
    exact List.mem_range.2 (by omega)
  simpa using h3
theorem PathOk.snoc {E : List Nat} {p : Cls} (h : PathOk E p) (h0 : 0 ∉ E) (hb : Below64 E) {v : Int} (hv : v ∈ opv E) : PathOk (kid E v) (p ++ [dcs E v]) := by
  have ho := opv_open hv
  have hv' := hv
  have hs := h.sub (kid_sub hv)
  obtain ⟨u, rfl, hu, hbit⟩ := opv_mem hv
  obtain ⟨d, hd⟩ := get_some ho
  have hne := openAt_at hd
  have hnv : ∀ l ∈ p, l.var ≠ (openAt E : Nat) := by
    intro l hl e
    have h1 := h.one l hl
    rw [e, Int.toNat_natCast, List.getD_eq_getElem?_getD, hd] at h1
    refine hne ?_
    have h2 : ∀ x ∈ vals d, x = l.val := fun x hx => by
      obtain ⟨n, rfl, -, hn⟩ := mem_vals.1 hx
      exact h1 n hn
    rw [List.getD_eq_getElem?_getD, hd] at hbit
    have h3 : (u : Int) ∈ vals d := mem_vals.2 ⟨u, rfl, hu, hbit⟩
    have h4 : (vals d).Nodup := (vals_sorted d).imp fun h e => by omega
    match hvd : vals d, h3 with
    | [x], _ => rfl
    | x :: y :: r, _ =>
      rw [hvd] at h2 h4
      have e1 := h2 x (by simp)
      have e2 := h2 y (by simp)
      rw [e1, e2] at h4
      simp at h4
  refine ⟨?_, ?_, ?_, ?_⟩
  · rw [List.map_append, List.map_cons, List.map_nil, List.nodup_append]
    refine ⟨h.nd, by simp, fun a ha b hb e => ?_⟩
    obtain ⟨l, hl, rfl⟩ := List.mem_map.1 ha
    simp only [List.mem_singleton] at hb
    exact hnv l hl (by rw [e, hb]; rfl)
  · intro l hl
    rcases List.mem_append.1 hl with hl | hl
    · exact hs.ok l hl
    · simp only [List.mem_singleton] at hl
      subst hl
      refine litOk_iff.2 ⟨⟨by simp [dcs], ?_⟩, by simp [dcs], ?_⟩
      · rw [kid_len]; simp only [dcs]; omega
      · simp only [dcs]; omega
  · intro l hl
    rcases List.mem_append.1 hl with hl | hl
    · exact h.pos l hl
    · simp only [List.mem_singleton] at hl
      subst hl; rfl
  · intro l hl n hn
    rcases List.mem_append.1 hl with hl | hl
    · exact hs.one l hl n hn
    · simp only [List.mem_singleton] at hl
      subst hl
      simp only [dcs, Int.toNat_natCast, kid] at hn ⊢
      rw [List.getD_eq_getElem?_getD, List.getElem?_set_self ho] at hn
      simp only [Option.getD_some, Nat.testBit_two_pow] at hn
      have := of_decide_eq_true hn
      omega
theorem kid_path {cs : List Con} {D : List Nat} {p : Cls} (h : PathOk D p) (hc : VCs cs D.length) (hb : Below64 D) (h0 : 0 ∉ fix cs D) {v : Int} (hv : v ∈ opv (fix cs D)) : PathOk (kid (fix cs D) v) (p ++ [dcs (fix cs D) v]) :=
  (h.sub (fix_sub hc)).snoc h0 (fix_below hc hb) hv
theorem kid_below {cs : List Con} {D : List Nat} (hc : VCs cs D.length) (hb : Below64 D) {v : Int} (hv : v ∈ opv (fix cs D)) : Below64 (kid (fix cs D) v) := (kid_sub hv).below (fix_below hc hb)
theorem opv_len (E : List Nat) : (opv E).length ≤ 6 := vals_length _
theorem prf_len {cs : List Con} : ∀ (n : Nat) (D : List Nat) (p : Cls), D.sum < n → VCs cs D.length → Below64 D → PathOk D p → ∀ a, prf cs D p = some a → a.length ≤ 7 ^ (D.length - p.length)
  | 0, D, _, h, _, _, _, _, _ => by omega
  | n + 1, D, p, h, hv, hb, hp, a, ha => by
    have h1 : 1 ≤ 7 ^ (D.length - p.length) := Nat.pos_of_ne_zero (by simp)
    by_cases h0 : 0 ∈ fix cs D
    · rw [prf_zero h0] at ha; cases ha; simpa using h1
    · by_cases ho : openAt (fix cs D) = D.length
      · rw [prf_none h0 ho] at ha; cases ha
      · rw [prf_more hv h0 ho] at ha
        obtain ⟨x, y, hx, hy, rfl⟩ := cat2_some ha
        cases hy
        obtain ⟨B, hB⟩ : ∃ B, B = 7 ^ (D.length - (p.length + 1)) := ⟨_, rfl⟩
        have hl := coll_len (B := B) (fun v hm b hf => by
          have := prf_len n _ _ (by have := fix_kid_lt hv hm; omega) (by rw [fix_kid_len hv]; exact hv) (kid_below hv hb hm) (kid_path hp hv hb h0 hm) b hf
          rw [fix_kid_len hv, List.length_append, List.length_singleton, ← hB] at this
          exact this) x hx
        have h6 := opv_len (fix cs D)
        have hx6 : x.length ≤ 6 * B := Nat.le_trans hl (Nat.mul_le_mul_right _ h6)
        rw [List.length_append, List.length_singleton]
        have hB1 : 1 ≤ B := by rw [hB]; exact Nat.pos_of_ne_zero (by simp)
        by_cases hlt : p.length < D.length
        · have e : D.length - p.length = (D.length - (p.length + 1)) + 1 := by omega
          rw [e, Nat.pow_succ, ← hB]; omega
        · have hpl := hp.len
          have : opv (fix cs D) = [] := by
            cases hvs : opv (fix cs D) with
            | nil => rfl
            | cons v r =>
              have hk := (kid_path hp hv hb h0 (v := v) (by rw [hvs]; simp)).len
              rw [List.length_append, List.length_singleton, fix_kid_len hv] at hk
              omega
          rw [this] at hl
          simp at hl
          subst hl
          simpa using h1
/-- Each step is a clause. -/
theorem prf_valid {cs : List Con} : ∀ (n : Nat) (D : List Nat) (p : Cls), D.sum < n → VCs cs D.length → Below64 D → PathOk D p → (1 ≤ D.length ∧ D.length ≤ 4) → ∀ a, prf cs D p = some a → ∀ c ∈ a, validCl c D.length = true
  | 0, D, _, h, _, _, _, _, _, _ => by omega
  | n + 1, D, p, h, hv, hb, hp, hd, a, ha => by
    have hneg : validCl (negsL p) D.length = true := by
      unfold validCl
      rw [Bool.and_eq_true]
      refine ⟨inB_iff.2 (by omega), validClS_iff.2 ⟨fun l hl => ?_, sortL_asc _, Nat.le_trans (negsL_len p) (by have := hp.len; omega)⟩⟩
      exact hp.ok (negL l) (mem_negsL.1 hl)
    by_cases h0 : 0 ∈ fix cs D
    · rw [prf_zero h0] at ha; cases ha; intro c hc; simp at hc; subst hc; exact hneg
    · by_cases ho : openAt (fix cs D) = D.length
      · rw [prf_none h0 ho] at ha; cases ha
      · rw [prf_more hv h0 ho] at ha
        obtain ⟨x, y, hx, hy, rfl⟩ := cat2_some ha
        cases hy
        intro c hc
        rcases List.mem_append.1 hc with hc | hc
        · obtain ⟨v, hm, b, hf, hcb⟩ := coll_mem hx hc
          have := prf_valid n _ _ (by have := fix_kid_lt hv hm; omega) (by rw [fix_kid_len hv]; exact hv) (kid_below hv hb hm) (kid_path hp hv hb h0 hm) (by rw [fix_kid_len hv]; exact hd) b hf c hcb
          rwa [fix_kid_len hv] at this
        · simp at hc; subst hc; exact hneg
theorem prf_last {cs : List Con} {D : List Nat} {p : Cls} (hv : VCs cs D.length) {a : List Cls} (ha : prf cs D p = some a) : ∃ b, a = b ++ [negsL p] := by
  by_cases h0 : 0 ∈ fix cs D
  · rw [prf_zero h0] at ha; cases ha; exact ⟨[], rfl⟩
  · by_cases ho : openAt (fix cs D) = D.length
    · rw [prf_none h0 ho] at ha; cases ha
    · rw [prf_more hv h0 ho] at ha
      obtain ⟨x, y, hx, hy, rfl⟩ := cat2_some ha
      cases hy
      exact ⟨x, rfl⟩
/-- What ProveInfeasible answers, the model being valid. -/
def infO (cs : List Con) (D : List Nat) : Option (List Cls) := match prf cs D [] with
  | none => none
  | some a => if a.length ≤ 200 then some a else none
theorem infO_ok (cs : List Con) (D : List Nat) : (infO cs D).isSome = okP 0 (prf cs D []) := by
  unfold infO
  cases prf cs D [] with
  | none => rfl
  | some a =>
    simp only [okP, Nat.zero_add]
    by_cases h : a.length ≤ 200
    · rw [if_pos h, decide_eq_true h]; rfl
    · rw [if_neg h, decide_eq_false h]; rfl
theorem infO_no {cs : List Con} {D : List Nat} (h : prf cs D [] = none) : infO cs D = none := by unfold infO; rw [h]
theorem infO_many {cs : List Con} {D : List Nat} {a : List Cls} (h : prf cs D [] = some a) (hl : 200 < a.length) : infO cs D = none := by unfold infO; rw [h]; simp; omega
theorem infO_some {cs : List Con} {D : List Nat} {a : List Cls} (h : prf cs D [] = some a) (hl : a.length ≤ 200) : infO cs D = some a := by unfold infO; rw [h]; simp; omega
theorem infO_okP {cs : List Con} {D : List Nat} (h : okP 0 (prf cs D []) = false) : infO cs D = none := by
  have := infO_ok cs D
  rw [h] at this
  cases hi : infO cs D with
  | none => rfl
  | some a => rw [hi] at this; cases this
theorem infO_prf {cs : List Con} {D : List Nat} {a : List Cls} (h : infO cs D = some a) : prf cs D [] = some a ∧ a.length ≤ 200 := by
  unfold infO at h
  cases hp : prf cs D [] with
  | none => rw [hp] at h; cases h
  | some b =>
    rw [hp] at h
    simp only at h
    split at h
    · cases h; exact ⟨rfl, by assumption⟩
    · cases h
def provO (m : Mod) (D : List Nat) : Option (List Cls) := if validM m then infO m.cons D else none
end Go.Proofs.YtlekngkcifgonaaGreat
