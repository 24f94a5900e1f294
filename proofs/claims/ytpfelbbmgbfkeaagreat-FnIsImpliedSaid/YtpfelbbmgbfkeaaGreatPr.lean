/-
  Propagation with clauses, in plain mathematics. No program is mentioned.
-/
import Derived.Test.YtpfelbbmgbfkeaaGreatStP
import Derived.Test.YtpfelbbmgbfkeaaGreatTr
set_option linter.unusedVariables false
set_option linter.unusedSimpArgs false
namespace Go.Proofs.YtpfelbbmgbfkeaaGreat
open Go.RowKit

/-- A literal that is not false on the domains. -/
def opn (D : List Nat) (l : Lit) : Bool := (D.getD l.var.toNat 0 &&& litD l) != 0
def unitF (c : Cls) (D : List Nat) : List Nat :=
  match c.filter (opn D) with
  | [] => zeros D.length
  | [l] => andAt D l.var.toNat (litD l)
  | _ => D
theorem zeros_subD (D : List Nat) : Sub (zeros D.length) D := by
  refine ⟨by simp [zeros], fun k n h => ?_⟩
  unfold zeros at h
  rw [List.getD_eq_getElem?_getD, List.getElem?_replicate] at h
  split at h <;> simp at h
theorem unitF_sub (c : Cls) (D : List Nat) : Sub (unitF c D) D := by
  unfold unitF
  split
  · exact zeros_subD D
  · exact andAt_sub _ _ _
  · exact Sub.refl D
theorem unitF_len (c : Cls) (D : List Nat) : (unitF c D).length = D.length := (unitF_sub c D).1
def clsF (cls : List Cls) (D : List Nat) : List Nat := cls.foldl (fun D c => unitF c D) D
theorem clsF_sub (cls : List Cls) : ∀ D : List Nat, Sub (clsF cls D) D := by
  induction cls with
  | nil => intro D; exact Sub.refl D
  | cons c r ih => intro D; exact (ih (unitF c D)).trans (unitF_sub c D)
theorem clsF_len (cls : List Cls) (D : List Nat) : (clsF cls D).length = D.length := (clsF_sub cls D).1
theorem clsF_snoc {cls : List Cls} {n : Nat} {c : Cls} (h : cls[n]? = some c) (D : List Nat) : clsF (cls.take (n + 1)) D = unitF c (clsF (cls.take n) D) := by
  unfold clsF
  rw [List.take_add_one, h, List.foldl_append]
  rfl
def stepC (cs : List Con) (cls : List Cls) (D : List Nat) : List Nat := clsF cls (fix cs D)
theorem stepC_sub {cs : List Con} {cls : List Cls} {D : List Nat} (h : VCs cs D.length) : Sub (stepC cs cls D) D := (clsF_sub cls _).trans (fix_sub h)
theorem stepC_len {cs : List Con} {cls : List Cls} {D : List Nat} (h : VCs cs D.length) : (stepC cs cls D).length = D.length := (stepC_sub h).1
theorem stepC_below {cs : List Con} {cls : List Cls} {D : List Nat} (h : VCs cs D.length) (hb : Below64 D) : Below64 (stepC cs cls D) := (stepC_sub h).below hb
theorem stepC_lt {cs : List Con} {cls : List Cls} {D : List Nat} (h : VCs cs D.length) (hs : stepC cs cls D ≠ D) : (stepC cs cls D).sum < D.sum := sum_lt (stepC_sub h) hs
def fixCn (cs : List Con) (cls : List Cls) : Nat → List Nat → List Nat
  | 0, D => D
  | n + 1, D => if 0 ∈ D then zeros D.length else if stepC cs cls D = D then D else fixCn cs cls n (stepC cs cls D)
def fixC (cs : List Con) (cls : List Cls) (D : List Nat) : List Nat := fixCn cs cls (D.sum + 1) D
theorem fixCn_eq {cs : List Con} {cls : List Cls} : ∀ (n m : Nat) (D : List Nat), VCs cs D.length → D.sum < n → D.sum < m → fixCn cs cls n D = fixCn cs cls m D
  | 0, _, D, _, h, _ => by omega
  | n + 1, 0, D, _, _, h => by omega
  | n + 1, m + 1, D, hv, h1, h2 => by
    unfold fixCn
    split
    · rfl
    · split
      · rfl
      · rename_i h3 h4
        have hlt := stepC_lt hv h4
        exact fixCn_eq n m _ (by rw [stepC_len hv]; exact hv) (by omega) (by omega)
theorem fixC_eq {cs : List Con} {cls : List Cls} {D : List Nat} (h : VCs cs D.length) : fixC cs cls D = if 0 ∈ D then zeros D.length else if stepC cs cls D = D then D else fixC cs cls (stepC cs cls D) := by
  conv => lhs; unfold fixC; unfold fixCn
  split
  · rfl
  · split
    · rfl
    · rename_i h3 h4
      have hlt := stepC_lt h h4
      exact fixCn_eq _ _ _ (by rw [stepC_len h]; exact h) hlt (by omega)
theorem fixC_zero {cs : List Con} {cls : List Cls} {D : List Nat} (h : VCs cs D.length) (h0 : 0 ∈ D) : fixC cs cls D = zeros D.length := by rw [fixC_eq h, if_pos h0]
theorem fixC_done {cs : List Con} {cls : List Cls} {D : List Nat} (h : VCs cs D.length) (h0 : 0 ∉ D) (hs : stepC cs cls D = D) : fixC cs cls D = D := by rw [fixC_eq h, if_neg h0, if_pos hs]
theorem fixC_more {cs : List Con} {cls : List Cls} {D : List Nat} (h : VCs cs D.length) (h0 : 0 ∉ D) (hs : stepC cs cls D ≠ D) : fixC cs cls D = fixC cs cls (stepC cs cls D) := by rw [fixC_eq h, if_neg h0, if_neg hs]
theorem fixC_ind {cs : List Con} {cls : List Cls} (P : List Nat → List Nat → Prop) (hz : ∀ D, VCs cs D.length → 0 ∈ D → P D (zeros D.length)) (he : ∀ D, VCs cs D.length → 0 ∉ D → stepC cs cls D = D → P D D)
    (hs : ∀ D E, VCs cs D.length → 0 ∉ D → P (stepC cs cls D) E → P D E) : ∀ (n : Nat) (D : List Nat), VCs cs D.length → D.sum < n → P D (fixC cs cls D)
  | 0, D, _, h => by omega
  | n + 1, D, hv, h => by
    rw [fixC_eq hv]
    split
    · rename_i h0; exact hz D hv h0
    · rename_i h0
      split
      · rename_i h1; exact he D hv h0 h1
      · rename_i h1
        have hlt := stepC_lt hv h1
        exact hs D _ hv h0 (fixC_ind P hz he hs n _ (by rw [stepC_len hv]; exact hv) (by omega))
theorem fixC_sub {cs : List Con} {cls : List Cls} {D : List Nat} (h : VCs cs D.length) : Sub (fixC cs cls D) D :=
  fixC_ind (fun D E => Sub E D) (fun D _ _ => zeros_subD D) (fun D _ _ _ => Sub.refl D) (fun D E hv _ hE => hE.trans (stepC_sub hv)) _ D h (Nat.lt_succ_self _)
theorem fixC_len {cs : List Con} {cls : List Cls} {D : List Nat} (h : VCs cs D.length) : (fixC cs cls D).length = D.length := (fixC_sub h).1
/-- Propagation with clauses leaves nothing. -/
def refB (cs : List Con) (cls : List Cls) (D : List Nat) : Bool := (fixC cs cls D).getD 0 0 == 0
theorem refB_zero {cs : List Con} {cls : List Cls} {D : List Nat} (h : VCs cs D.length) (hl : 0 < D.length) (h0 : 0 ∈ D) : refB cs cls D = true := by
  unfold refB
  rw [fixC_zero h h0, List.getD_eq_getElem?_getD]
  simp [zeros, hl]
theorem refB_done {cs : List Con} {cls : List Cls} {D : List Nat} (h : VCs cs D.length) (hl : 0 < D.length) (h0 : 0 ∉ D) (hs : stepC cs cls D = D) : refB cs cls D = false := by
  unfold refB
  rw [fixC_done h h0 hs]
  cases D with
  | nil => simp at hl
  | cons d r => simp at h0 ⊢; omega
theorem refB_more {cs : List Con} {cls : List Cls} {D : List Nat} (h : VCs cs D.length) (h0 : 0 ∉ D) : refB cs cls D = refB cs cls (stepC cs cls D) := by
  by_cases hs : stepC cs cls D = D
  · rw [hs]
  · unfold refB; rw [fixC_more h h0 hs]
theorem zeros_mem {n : Nat} (h : 0 < n) : 0 ∈ zeros n := by unfold zeros; exact List.mem_replicate.2 ⟨by omega, rfl⟩
theorem unitF_zeros (c : Cls) (n : Nat) : unitF c (zeros n) = zeros n := by
  have hz : ∀ l, opn (zeros n) l = false := fun l => by
    unfold opn zeros
    rw [List.getD_eq_getElem?_getD, List.getElem?_replicate]
    split <;> simp
  unfold unitF
  rw [List.filter_eq_nil_iff.2 (fun l _ => by rw [hz l]; simp)]
  simp [zeros]
theorem clsF_zeros (cls : List Cls) (n : Nat) : clsF cls (zeros n) = zeros n := by
  induction cls with
  | nil => rfl
  | cons c r ih => show clsF r (unitF c (zeros n)) = _; rw [unitF_zeros, ih]
theorem stepC_zero {cs : List Con} {cls : List Cls} {D : List Nat} (h : VCs cs D.length) (hl : 0 < D.length) (h0 : 0 ∈ D) : 0 ∈ stepC cs cls D := by
  unfold stepC
  rw [fix_zero h h0, clsF_zeros]
  exact zeros_mem hl
theorem unitF_below {c : Cls} {D : List Nat} (h : Below64 D) : Below64 (unitF c D) := (unitF_sub c D).below h
theorem clsF_below {cls : List Cls} {D : List Nat} (h : Below64 D) : Below64 (clsF cls D) := (clsF_sub cls D).below h
/-! ### The literals that are not false -/
def opens (D : List Nat) (c : Cls) : Cls := c.filter (opn D)
theorem opens_snoc {D : List Nat} {c : Cls} {n : Nat} {l : Lit} (h : c[n]? = some l) : opens D (c.take (n + 1)) = opens D (c.take n) ++ (if opn D l then [l] else []) := by
  unfold opens
  rw [List.take_add_one, h, List.filter_append]
  congr 1
  show List.filter (opn D) [l] = _
  cases hb : opn D l <;> simp [hb]
theorem opens_le (D : List Nat) (c : Cls) (n : Nat) : (opens D (c.take n)).length ≤ (opens D c).length := ((List.take_sublist n c).filter _).length_le
theorem opens_take (D : List Nat) (c : Cls) (n : Nat) : (opens D (c.take n)).length ≤ n := Nat.le_trans (List.length_filter_le _ _) (List.length_take_le _ _)
theorem unitF_0 {c : Cls} {D : List Nat} (h : opens D c = []) : unitF c D = zeros D.length := by unfold opens at h; unfold unitF; rw [h]
theorem unitF_1 {c : Cls} {D : List Nat} {l : Lit} (h : opens D c = [l]) : unitF c D = andAt D l.var.toNat (litD l) := by unfold opens at h; unfold unitF; rw [h]
theorem unitF_2 {c : Cls} {D : List Nat} (h : 2 ≤ (opens D c).length) : unitF c D = D := by
  unfold opens at h
  unfold unitF
  split
  · rename_i e; rw [e] at h; simp at h
  · rename_i e; rw [e] at h; simp at h
  · rfl
theorem opens_mem {D : List Nat} {c : Cls} {l : Lit} (h : l ∈ opens D c) : l ∈ c := (List.mem_filter.1 h).1
theorem opens_last {D : List Nat} {c : Cls} {l : Lit} (h : (opens D c).length = 1) (hl : opens D c ≠ [] → (opens D c).getLast? = some l) : opens D c = [l] := by
  match e : opens D c, h with
  | [x], _ =>
    rw [e] at hl
    have := hl (by simp)
    simp at this
    rw [this]
theorem refB_empty {cs : List Con} {cls : List Cls} {D : List Nat} (h : VCs cs D.length) (hl : 0 < D.length) (h0 : 0 ∈ stepC cs cls D) : refB cs cls D = true := by
  by_cases hd : 0 ∈ D
  · exact refB_zero h hl hd
  · rw [refB_more h hd]
    exact refB_zero (by rw [stepC_len h]; exact h) (by rw [stepC_len h]; exact hl) h0
end Go.Proofs.YtpfelbbmgbfkeaaGreat
