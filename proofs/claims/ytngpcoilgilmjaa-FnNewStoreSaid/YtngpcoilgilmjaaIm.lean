/-
  Plain laws of improvement: domains narrowed to a solution's values keep the solutions that agree with it.
  Plain laws of improvement: the first of the least, and local search by pairs of variables.
  Walks of the program's improvement.
-/
import Derived.Test.YtngpcoilgilmjaaRq
import Derived.Test.YtngpcoilgilmjaaIsB
import Derived.Test.YtngpcoilgilmjaaNsP
import Derived.Test.YtngpcoilgilmjaaOb
set_option linter.unusedVariables false
set_option linter.unusedSimpArgs false
namespace Go.Proofs.Ytngpcoilgilmjaa
open Go.RowKit

theorem tups_set {E : List Nat} {i k e : Nat} (he : E[i]? = some e) (hk : e.testBit k = true) (hk6 : k < 6) : tups (E.set i (2 ^ k)) = (tups E).filter fun y => y.getD i 0 == (k : Int) := by
  rw [tups_sub (set_sub he hk)]
  apply List.filter_congr
  intro y hy
  rw [Bool.eq_iff_iff, decide_eq_true_iff, beq_iff_eq]
  obtain ⟨hl, hall⟩ := mem_tups.1 hy
  have hi := (List.getElem?_eq_some_iff.1 he).1
  obtain ⟨v, hv⟩ := get_some (xs := y) (k := i) (by omega)
  rw [getD_here hv]
  constructor
  · intro h
    obtain ⟨-, h2⟩ := mem_tups.1 h
    obtain ⟨d, hd, hvd⟩ := h2 i v hv
    rw [List.getElem?_set_self hi] at hd
    cases hd
    rw [vals_two_pow hk6] at hvd
    simpa using hvd
  · intro e1
    refine mem_tups.2 ⟨by rw [List.length_set]; exact hl, fun j u hu => ?_⟩
    by_cases hij : i = j
    · subst hij
      rw [hv] at hu; cases hu
      exact ⟨2 ^ k, by rw [List.getElem?_set_self hi], by rw [vals_two_pow hk6, e1]; simp⟩
    · obtain ⟨d, hd, hud⟩ := hall j u hu
      exact ⟨d, by rw [List.getElem?_set_ne hij]; exact hd, hud⟩
theorem sols_set {cs : List Con} {E : List Nat} {i k e : Nat} (he : E[i]? = some e) (hk : e.testBit k = true) (hk6 : k < 6) : sols cs (E.set i (2 ^ k)) = (sols cs E).filter fun y => y.getD i 0 == (k : Int) := by
  unfold sols
  rw [tups_set he hk hk6, List.filter_filter, List.filter_filter]
  congr 1
  funext y
  exact Bool.and_comm _ _
/-- The first n domains narrowed to the values of x, but for those where 'on' holds. -/
def narI (on : Nat → Bool) (x : List Int) : Nat → List Nat → List Nat
  | 0, D => D
  | n + 1, D => if on n then narI on x n D else (narI on x n D).set n (2 ^ (x.getD n 0).toNat)
theorem narI_len (on : Nat → Bool) (x : List Int) (n : Nat) (D : List Nat) : (narI on x n D).length = D.length := by
  induction n with
  | zero => rfl
  | succ n ih => unfold narI; split <;> simp [ih]
theorem narI_get (on : Nat → Bool) (x : List Int) (n j : Nat) (D : List Nat) (h : n ≤ j) : (narI on x n D)[j]? = D[j]? := by
  induction n with
  | zero => rfl
  | succ n ih =>
    unfold narI
    split
    · exact ih (by omega)
    · rw [List.getElem?_set_ne (by omega)]; exact ih (by omega)
theorem tup_bit {D : List Nat} {x : List Int} (hx : x ∈ tups D) {n : Nat} (hn : n < D.length) : ∃ k d, x[n]? = some ((k : Nat) : Int) ∧ D[n]? = some d ∧ k < 6 ∧ d.testBit k = true := by
  obtain ⟨hl, hall⟩ := mem_tups.1 hx
  obtain ⟨v, hv⟩ := get_some (xs := x) (k := n) (by omega)
  obtain ⟨d, hd, hvd⟩ := hall n v hv
  obtain ⟨k, rfl, hk, hb⟩ := mem_vals.1 hvd
  exact ⟨k, d, hv, hd, hk, hb⟩
theorem narI_below {on : Nat → Bool} {x : List Int} {D : List Nat} (hx : x ∈ tups D) (hD : Below64 D) : ∀ n, n ≤ D.length → Below64 (narI on x n D)
  | 0, _ => hD
  | n + 1, h => by
    have ih := narI_below (on := on) hx hD n (by omega)
    unfold narI
    split
    · exact ih
    · obtain ⟨k, d, hk, _, hk6, _⟩ := tup_bit hx (n := n) (by omega)
      rw [getD_here hk, Int.toNat_natCast]
      intro e he
      rcases List.mem_or_eq_of_mem_set he with he | he
      · exact ih e he
      · have : 2 ^ k < 2 ^ 6 := Nat.pow_lt_pow_right (by omega) hk6
        omega
theorem narI_sols {cs : List Con} {on : Nat → Bool} {x : List Int} {D : List Nat} (hx : x ∈ tups D) : ∀ n, n ≤ D.length → sols cs (narI on x n D) = (sols cs D).filter fun y => agI (fun i => !on i) x y n
  | 0, _ => by
    rw [List.filter_eq_self.2 (fun y _ => agI_zero _ _ _)]; rfl
  | n + 1, h => by
    have ih := narI_sols (cs := cs) (on := on) hx n (by omega)
    obtain ⟨k, d, hk, hd, hk6, hb⟩ := tup_bit hx (n := n) (by omega)
    unfold narI
    cases ho : on n
    · rw [if_neg (by simp), getD_here hk, Int.toNat_natCast, sols_set (by rw [narI_get _ _ _ _ _ (Nat.le_refl _)]; exact hd) hb hk6, ih, List.filter_filter]
      apply List.filter_congr
      intro y hy
      obtain ⟨v, hv⟩ := get_some (xs := y) (k := n) (by rw [(solv hy).1]; omega)
      rw [agI_succ (fun i => !on i) hv hk, getD_here hv, ho]
      simp only [Bool.not_false, Bool.true_and, bne, Bool.not_not]
      exact Bool.and_comm _ _
    · rw [if_pos rfl, ih]
      apply List.filter_congr
      intro y hy
      obtain ⟨v, hv⟩ := get_some (xs := y) (k := n) (by rw [(solv hy).1]; omega)
      rw [agI_succ (fun i => !on i) hv hk, ho]
      simp
theorem narI_vm {m : Mod} {D : List Nat} {on : Nat → Bool} {x : List Int} (hVM : VM m D) (hx : x ∈ tups D) : VM ⟨ints (narI on x D.length D), m.cons⟩ (narI on x D.length D) :=
  ⟨rfl, by rw [narI_len]; exact hVM.len, narI_below hx hVM.below _ (Nat.le_refl _), by rw [narI_len]; exact hVM.cons, hVM.many⟩

/-! ### The best one that agrees -/
def agrL (cs : List Con) (D : List Nat) (x fr : List Int) : List (List Int) := (sols cs D).filter fun y => agI (fun i => !onL fr i) x y y.length
theorem agrL_nar {cs : List Con} {D : List Nat} {x fr : List Int} (hx : x ∈ tups D) : sols cs (narI (onL fr) x D.length D) = agrL cs D x fr := by
  rw [narI_sols hx _ (Nat.le_refl _)]
  unfold agrL
  apply List.filter_congr
  intro y hy
  rw [(solv hy).1]
def impO (m : Mod) (D : List Nat) (o x fr : List Int) : Option (List Int) :=
  if validM m && (objB o m.doms.length && (isB m.cons D x && frB fr m.doms.length)) then some ((bestO (dot o) (agrL m.cons D x fr)).getD []) else none
theorem impO_no {m : Mod} {D : List Nat} {o x fr : List Int} (h : (validM m && (objB o m.doms.length && (isB m.cons D x && frB fr m.doms.length))) = false) : impO m D o x fr = none := by unfold impO; rw [h]; rfl
theorem impO_yes {m : Mod} {D : List Nat} {o x fr : List Int} (h : (validM m && (objB o m.doms.length && (isB m.cons D x && frB fr m.doms.length))) = true) : impO m D o x fr = some ((bestO (dot o) (agrL m.cons D x fr)).getD []) := by unfold impO; rw [h]; rfl
theorem agrL_mem {cs : List Con} {D : List Nat} {x fr y : List Int} (h : y ∈ agrL cs D x fr) : y ∈ sols cs D := (List.mem_filter.1 h).1
theorem agrL_self {cs : List Con} {D : List Nat} {x fr : List Int} (h : x ∈ sols cs D) : x ∈ agrL cs D x fr := List.mem_filter.2 ⟨h, agI_self _ _ _⟩
theorem impO_len (m : Mod) (o x fr : List Int) (D : List Nat) (hD : validM m = true → VM m D) : ((impO m D o x fr).getD []).length ≤ 1000000 := by
  cases h : (validM m && (objB o m.doms.length && (isB m.cons D x && frB fr m.doms.length)))
  · rw [impO_no h]; simp
  · rw [impO_yes h]
    rw [Bool.and_eq_true] at h
    have hv := hD h.1
    cases hb : bestO (dot o) (agrL m.cons D x fr) with
    | none => simp
    | some y =>
      have h1 := (solv (agrL_mem (bestO_mem hb))).1
      have := hv.len.2
      simp only [Option.getD_some]; omega
end Go.Proofs.Ytngpcoilgilmjaa

set_option linter.unusedVariables false
set_option linter.unusedSimpArgs false
namespace Go.Proofs.Ytngpcoilgilmjaa
open Go.RowKit

theorem foldl_first {cost : List Int → Int} : ∀ (zs : List (List Int)) (o : Option (List Int)) (y : List Int), zs.Pairwise (fun x y => lexB x y = true) → (∀ z, o = some z → ∀ x ∈ zs, lexB z x = true) → zs.foldl (bstep cost) o = some y →
    (∀ z, o = some z → cost y < cost z ∨ y = z) ∧ ∀ x ∈ zs, cost y < cost x ∨ (cost y = cost x ∧ (y = x ∨ lexB y x = true))
  | [], o, y, _, _, h => ⟨fun z hz => by simp at h; rw [h] at hz; simp at hz; exact .inr hz, by simp⟩
  | x :: r, o, y, hs, ho, h => by
    rw [List.foldl_cons] at h
    rw [List.pairwise_cons] at hs
    cases o with
    | none =>
      obtain ⟨h1, h2⟩ := foldl_first r (bstep cost none x) y hs.2 (fun z hz w hw => by simp [bstep] at hz; subst hz; exact hs.1 w hw) h
      refine ⟨by simp, fun z hz => ?_⟩
      rcases List.mem_cons.1 hz with rfl | hz
      · rcases h1 _ rfl with h3 | h3
        · exact .inl h3
        · exact .inr ⟨by rw [h3], .inl h3⟩
      · exact h2 z hz
    | some q =>
      by_cases hlt : cost x < cost q
      · have e : bstep cost (some q) x = some x := by unfold bstep; simp only; rw [if_pos hlt]
        rw [e] at h
        obtain ⟨h1, h2⟩ := foldl_first r (some x) y hs.2 (fun z hz w hw => by simp at hz; subst hz; exact hs.1 w hw) h
        have h3 := h1 x rfl
        refine ⟨fun z hz => by simp at hz; subst hz; rcases h3 with h3 | rfl <;> left <;> omega, fun z hz => ?_⟩
        rcases List.mem_cons.1 hz with rfl | hz
        · rcases h3 with h3 | rfl
          · exact .inl h3
          · exact .inr ⟨rfl, .inl rfl⟩
        · exact h2 z hz
      · have e : bstep cost (some q) x = some q := by unfold bstep; simp only; rw [if_neg hlt]
        rw [e] at h
        obtain ⟨h1, h2⟩ := foldl_first r (some q) y hs.2 (fun z hz w hw => ho z hz w (List.mem_cons_of_mem _ hw)) h
        refine ⟨h1, fun z hz => ?_⟩
        rcases List.mem_cons.1 hz with rfl | hz
        · rcases h1 q rfl with h3 | rfl
          · left; omega
          · by_cases he : cost y = cost z
            · exact .inr ⟨he, .inr (ho y rfl z (List.mem_cons_self ..))⟩
            · left; omega
        · exact h2 z hz
theorem bestO_first {cost : List Int → Int} {zs : List (List Int)} {y : List Int} (hs : zs.Pairwise fun x y => lexB x y = true) (h : bestO cost zs = some y) : ∀ x ∈ zs, cost y < cost x ∨ (cost y = cost x ∧ (y = x ∨ lexB y x = true)) :=
  (foldl_first zs none y hs (by simp) h).2
theorem agrL_sorted (cs : List Con) (D : List Nat) (x fr : List Int) : (agrL cs D x fr).Pairwise fun x y => lexB x y = true := (sols_sorted cs D).filter _
theorem bestO_isSome {cost : List Int → Int} {zs : List (List Int)} {x : List Int} (h : x ∈ zs) : ∃ y, bestO cost zs = some y := by
  cases hb : bestO cost zs with
  | none => rw [bestO_none hb] at h; simp at h
  | some y => exact ⟨y, rfl⟩

/-! ### One step -/
def stp (cs : List Con) (D : List Nat) (o x fr : List Int) : List Int := (bestO (dot o) (agrL cs D x fr)).getD []
theorem stp_eq {cs : List Con} {D : List Nat} {o x fr : List Int} (hx : x ∈ sols cs D) : bestO (dot o) (agrL cs D x fr) = some (stp cs D o x fr) := by
  obtain ⟨y, hy⟩ := bestO_isSome (cost := dot o) (agrL_self (fr := fr) hx)
  unfold stp
  rw [hy]; rfl
theorem stp_agr {cs : List Con} {D : List Nat} {o x fr : List Int} (hx : x ∈ sols cs D) : stp cs D o x fr ∈ agrL cs D x fr := bestO_mem (stp_eq hx)
theorem stp_mem {cs : List Con} {D : List Nat} {o x fr : List Int} (hx : x ∈ sols cs D) : stp cs D o x fr ∈ sols cs D := agrL_mem (stp_agr hx)
theorem stp_first {cs : List Con} {D : List Nat} {o x fr : List Int} (hx : x ∈ sols cs D) : ∀ z ∈ agrL cs D x fr, dot o (stp cs D o x fr) < dot o z ∨ (dot o (stp cs D o x fr) = dot o z ∧ (stp cs D o x fr = z ∨ lexB (stp cs D o x fr) z = true)) :=
  bestO_first (agrL_sorted _ _ _ _) (stp_eq hx)
theorem stp_le {cs : List Con} {D : List Nat} {o x fr : List Int} (hx : x ∈ sols cs D) : dot o (stp cs D o x fr) ≤ dot o x := by
  rcases stp_first (o := o) (fr := fr) hx x (agrL_self hx) with h | h <;> omega
theorem stp_keeps {cs : List Con} {D : List Nat} {o x fr : List Int} (hx : x ∈ sols cs D) {i : Nat} (hi : i < D.length) (hf : onL fr i = false) : (stp cs D o x fr).getD i 0 = x.getD i 0 := by
  have h1 := (List.mem_filter.1 (stp_agr (o := o) (fr := fr) hx)).2
  have hl := (solv (stp_mem (o := o) (fr := fr) hx)).1
  have h2 := List.all_eq_true.1 h1 i (List.mem_range.2 (by omega))
  simp only [hf] at h2
  simpa [bne] using h2
theorem sols_ext {cs : List Con} {D : List Nat} {x y : List Int} (hx : x ∈ sols cs D) (hy : y ∈ sols cs D) (h : ∀ i, i < D.length → x.getD i 0 = y.getD i 0) : x = y := by
  have h1 := (solv hx).1; have h2 := (solv hy).1
  apply List.ext_getElem (by omega)
  intro i a b
  have := h i (by omega)
  simpa [List.getD_eq_getElem?_getD, List.getElem?_eq_getElem a, List.getElem?_eq_getElem b] using this
/-- Nothing free: nothing changes. -/
theorem stp_nil {cs : List Con} {D : List Nat} {o x : List Int} (hx : x ∈ sols cs D) : stp cs D o x [] = x :=
  sols_ext (stp_mem hx) hx fun i hi => stp_keeps hx hi (by simp [onL])
/-- All free: the best of all. -/
theorem agrL_all {cs : List Con} {D : List Nat} {x fr : List Int} (hf : ∀ i, i < D.length → onL fr i = true) : agrL cs D x fr = sols cs D := by
  unfold agrL
  rw [List.filter_eq_self]
  intro y hy
  unfold agI
  rw [List.all_eq_true]
  intro i hi
  simp only [hf i (by have := (solv hy).1; have := List.mem_range.1 hi; omega)]
  rfl

/-! ### The rank -/
def rk (cs : List Con) (D : List Nat) (o x : List Int) : Nat := (dot o x + 1000000).toNat * ((sols cs D).length + 1) + (sols cs D).idxOf x
theorem idx_le {cs : List Con} {D : List Nat} {x : List Int} (hx : x ∈ sols cs D) : (sols cs D).idxOf x < (sols cs D).length := List.idxOf_lt_length_iff.2 hx
theorem idx_lex {l : List (List Int)} (hs : l.Pairwise fun x y => lexB x y = true) {x y : List Int} (hx : x ∈ l) (hy : y ∈ l) (h : lexB y x = true) : l.idxOf y < l.idxOf x := by
  have i1 := List.idxOf_lt_length_iff.2 hx; have i2 := List.idxOf_lt_length_iff.2 hy
  have e1 : l[l.idxOf x] = x := List.getElem_idxOf i1
  have e2 : l[l.idxOf y] = y := List.getElem_idxOf i2
  rcases Nat.lt_trichotomy (l.idxOf y) (l.idxOf x) with h1 | h1 | h1
  · exact h1
  · exfalso
    have : x = y := by
      have e3 : l[l.idxOf x] = l[l.idxOf y] := by simp only [h1]
      rw [e1, e2] at e3; exact e3
    subst this
    rw [lexB_irrefl] at h; cases h
  · exfalso
    have := List.pairwise_iff_getElem.1 hs _ _ i1 i2 h1
    rw [e1, e2] at this
    rw [lexB_asymm this] at h; cases h
theorem rk_step {cs : List Con} {D : List Nat} {o x y : List Int} (hx : x ∈ sols cs D) (hy : y ∈ sols cs D) (hb : -1000000 ≤ dot o y) (h : dot o y < dot o x ∨ (dot o y = dot o x ∧ (y = x ∨ lexB y x = true))) :
    rk cs D o y ≤ rk cs D o x ∧ (rk cs D o y = rk cs D o x → y = x) := by
  have i1 := idx_le hx; have i2 := idx_le hy
  unfold rk
  rcases h with h | ⟨h, h2⟩
  · have h3 : (dot o y + 1000000).toNat + 1 ≤ (dot o x + 1000000).toNat := by omega
    have h4 := Nat.mul_le_mul_right ((sols cs D).length + 1) h3
    rw [Nat.add_mul] at h4
    exact ⟨by omega, fun e => by omega⟩
  · rw [h]
    rcases h2 with rfl | h2
    · exact ⟨Nat.le_refl _, fun _ => rfl⟩
    · have := idx_lex (sols_sorted cs D) hx hy h2
      exact ⟨by omega, fun e => by omega⟩
theorem rk_dot {cs : List Con} {D : List Nat} {o x y : List Int} (hx : x ∈ sols cs D) (hb : -1000000 ≤ dot o x) (h : rk cs D o y ≤ rk cs D o x) : dot o y ≤ dot o x := by
  have i1 := idx_le hx
  unfold rk at h
  rcases Int.lt_or_le (dot o x) (dot o y) with h1 | h1
  · exfalso
    have h3 : (dot o x + 1000000).toNat + 1 ≤ (dot o y + 1000000).toNat := by omega
    have h4 := Nat.mul_le_mul_right ((sols cs D).length + 1) h3
    rw [Nat.add_mul] at h4
    omega
  · exact h1
/-- The objective is bounded on the solutions. -/
def LowB (cs : List Con) (D : List Nat) (o : List Int) : Prop := ∀ y ∈ sols cs D, -1000000 ≤ dot o y
theorem stp_rk {cs : List Con} {D : List Nat} {o x : List Int} (hb : LowB cs D o) (hx : x ∈ sols cs D) (fr : List Int) :
    rk cs D o (stp cs D o x fr) ≤ rk cs D o x ∧ (rk cs D o (stp cs D o x fr) = rk cs D o x → stp cs D o x fr = x) :=
  rk_step hx (stp_mem hx) (hb _ (stp_mem hx)) (stp_first hx x (agrL_self hx))

/-! ### A round -/
def inn (cs : List Con) (D : List Nat) (o : List Int) (i : Nat) (x : List Int) : Nat → List Int
  | 0 => x
  | k + 1 => stp cs D o (inn cs D o i x k) [(i : Int), ((i + 1 + k : Nat) : Int)]
def outr (cs : List Con) (D : List Nat) (o x : List Int) : Nat → List Int
  | 0 => x
  | i + 1 => inn cs D o i (outr cs D o x i) (D.length - (i + 1))
def rnd (cs : List Con) (D : List Nat) (o x : List Int) : List Int := outr cs D o x D.length
def itr (cs : List Con) (D : List Nat) (o x : List Int) : Nat → List Int
  | 0 => x
  | k + 1 => rnd cs D o (itr cs D o x k)
theorem inn_ok {cs : List Con} {D : List Nat} {o x : List Int} (hb : LowB cs D o) (i : Nat) (hx : x ∈ sols cs D) : ∀ k, inn cs D o i x k ∈ sols cs D ∧ rk cs D o (inn cs D o i x k) ≤ rk cs D o x ∧
    (rk cs D o (inn cs D o i x k) = rk cs D o x → inn cs D o i x k = x ∧ ∀ t, t < k → stp cs D o x [(i : Int), ((i + 1 + t : Nat) : Int)] = x)
  | 0 => ⟨hx, Nat.le_refl _, fun _ => ⟨rfl, fun t h => by omega⟩⟩
  | k + 1 => by
    obtain ⟨h1, h2, h3⟩ := inn_ok hb i hx k
    obtain ⟨h4, h5⟩ := stp_rk hb h1 [(i : Int), ((i + 1 + k : Nat) : Int)]
    refine ⟨stp_mem h1, Nat.le_trans h4 h2, fun e => ?_⟩
    have e' : rk cs D o (stp cs D o (inn cs D o i x k) [(i : Int), ((i + 1 + k : Nat) : Int)]) = rk cs D o x := e
    obtain ⟨h6, h7⟩ := h3 (by omega)
    have h8 := h5 (by omega)
    refine ⟨by show stp cs D o (inn cs D o i x k) _ = x; rw [h8, h6], fun t ht => ?_⟩
    by_cases he : t = k
    · subst he; rw [h6] at h8; exact h8
    · exact h7 t (by omega)
theorem outr_ok {cs : List Con} {D : List Nat} {o x : List Int} (hb : LowB cs D o) (hx : x ∈ sols cs D) : ∀ n, outr cs D o x n ∈ sols cs D ∧ rk cs D o (outr cs D o x n) ≤ rk cs D o x ∧
    (rk cs D o (outr cs D o x n) = rk cs D o x → outr cs D o x n = x ∧ ∀ i, i < n → ∀ t, t < D.length - (i + 1) → stp cs D o x [(i : Int), ((i + 1 + t : Nat) : Int)] = x)
  | 0 => ⟨hx, Nat.le_refl _, fun _ => ⟨rfl, fun t h => by omega⟩⟩
  | n + 1 => by
    obtain ⟨h1, h2, h3⟩ := outr_ok hb hx n
    obtain ⟨h4, h5, h6⟩ := inn_ok hb n h1 (D.length - (n + 1))
    refine ⟨h4, Nat.le_trans h5 h2, fun e => ?_⟩
    have e' : rk cs D o (inn cs D o n (outr cs D o x n) (D.length - (n + 1))) = rk cs D o x := e
    obtain ⟨h7, h8⟩ := h3 (by omega)
    obtain ⟨h9, h10⟩ := h6 (by omega)
    refine ⟨by show inn cs D o n (outr cs D o x n) _ = x; rw [h9, h7], fun i hi t ht => ?_⟩
    by_cases he : i = n
    · subst he; rw [h7] at h10; exact h10 t ht
    · exact h8 i (by omega) t ht
theorem rnd_ok {cs : List Con} {D : List Nat} {o x : List Int} (hb : LowB cs D o) (hx : x ∈ sols cs D) : rnd cs D o x ∈ sols cs D ∧ rk cs D o (rnd cs D o x) ≤ rk cs D o x ∧ (rk cs D o (rnd cs D o x) = rk cs D o x → rnd cs D o x = x) :=
  let h := outr_ok hb hx D.length
  ⟨h.1, h.2.1, fun e => (h.2.2 e).1⟩
/-- A solution that a round leaves alone: no pair improves it. -/
theorem rnd_fix {cs : List Con} {D : List Nat} {o x : List Int} (hb : LowB cs D o) (hx : x ∈ sols cs D) (h : rnd cs D o x = x) {i j : Nat} (hi : i < j) (hj : j < D.length) : stp cs D o x [(i : Int), (j : Int)] = x := by
  obtain ⟨-, -, h3⟩ := outr_ok hb hx D.length
  have := (h3 (by rw [show outr cs D o x D.length = x from h])).2 i (by omega) (j - (i + 1)) (by omega)
  rwa [show i + 1 + (j - (i + 1)) = j by omega] at this
theorem itr_ok {cs : List Con} {D : List Nat} {o x : List Int} (hb : LowB cs D o) (hx : x ∈ sols cs D) : ∀ k, itr cs D o x k ∈ sols cs D ∧ rk cs D o (itr cs D o x k) ≤ rk cs D o x
  | 0 => ⟨hx, Nat.le_refl _⟩
  | k + 1 => let h := itr_ok hb hx k; let h2 := rnd_ok hb h.1; ⟨h2.1, Nat.le_trans h2.2.1 h.2⟩
theorem itr_stay {cs : List Con} {D : List Nat} {o x : List Int} {k : Nat} (h : rnd cs D o (itr cs D o x k) = itr cs D o x k) : ∀ d, itr cs D o x (k + d) = itr cs D o x k
  | 0 => rfl
  | d + 1 => by
    show rnd cs D o (itr cs D o x (k + d)) = _
    rw [itr_stay h d, h]
theorem itr_one {cs : List Con} {D : List Nat} {o x : List Int} {k l : Nat} (h : rnd cs D o (itr cs D o x k) = itr cs D o x k) (h' : rnd cs D o (itr cs D o x l) = itr cs D o x l) : itr cs D o x k = itr cs D o x l := by
  rcases Nat.le_total k l with hl | hl
  · obtain ⟨d, rfl⟩ := Nat.le.dest hl; exact (itr_stay h d).symm
  · obtain ⟨d, rfl⟩ := Nat.le.dest hl; exact itr_stay h' d
open Classical in
/-- What local search ends in. -/
noncomputable def locL (cs : List Con) (D : List Nat) (o x : List Int) : List Int := if h : ∃ k, rnd cs D o (itr cs D o x k) = itr cs D o x k then itr cs D o x h.choose else []
theorem locL_eq {cs : List Con} {D : List Nat} {o x : List Int} {k : Nat} (h : rnd cs D o (itr cs D o x k) = itr cs D o x k) : locL cs D o x = itr cs D o x k := by
  have he : ∃ k, rnd cs D o (itr cs D o x k) = itr cs D o x k := ⟨k, h⟩
  unfold locL
  rw [dif_pos he]
  exact itr_one he.choose_spec h
theorem loc_ends {cs : List Con} {D : List Nat} {o x : List Int} (hb : LowB cs D o) (hx : x ∈ sols cs D) : ∃ k, rnd cs D o (itr cs D o x k) = itr cs D o x k := by
  have : ∀ n k, rk cs D o (itr cs D o x k) ≤ n → ∃ k, rnd cs D o (itr cs D o x k) = itr cs D o x k := by
    intro n
    induction n with
    | zero =>
      intro k hk
      obtain ⟨h1, h2, h3⟩ := rnd_ok hb (itr_ok hb hx k).1
      exact ⟨k, h3 (by omega)⟩
    | succ n ih =>
      intro k hk
      obtain ⟨h1, h2, h3⟩ := rnd_ok hb (itr_ok hb hx k).1
      by_cases he : rk cs D o (rnd cs D o (itr cs D o x k)) = rk cs D o (itr cs D o x k)
      · exact ⟨k, h3 he⟩
      · exact ih (k + 1) (by show rk cs D o (rnd cs D o (itr cs D o x k)) ≤ n; omega)
  exact this _ 0 (Nat.le_refl _)
theorem locL_fix {cs : List Con} {D : List Nat} {o x : List Int} (hb : LowB cs D o) (hx : x ∈ sols cs D) : locL cs D o x ∈ sols cs D ∧ rnd cs D o (locL cs D o x) = locL cs D o x ∧ dot o (locL cs D o x) ≤ dot o x := by
  obtain ⟨k, hk⟩ := loc_ends hb hx
  rw [locL_eq hk]
  obtain ⟨h1, h2⟩ := itr_ok hb hx k
  exact ⟨h1, hk, rk_dot hx (hb x hx) h2⟩
theorem locL_self {cs : List Con} {D : List Nat} {o x : List Int} (h : rnd cs D o x = x) : locL cs D o x = x := locL_eq (k := 0) h
noncomputable def locO (m : Mod) (D : List Nat) (o x : List Int) : Option (List Int) := if validM m && (objB o m.doms.length && isB m.cons D x) then some (locL m.cons D o x) else none
theorem locO_no {m : Mod} {D : List Nat} {o x : List Int} (h : (validM m && (objB o m.doms.length && isB m.cons D x)) = false) : locO m D o x = none := by unfold locO; rw [h]; rfl
theorem locO_yes {m : Mod} {D : List Nat} {o x : List Int} (h : (validM m && (objB o m.doms.length && isB m.cons D x)) = true) : locO m D o x = some (locL m.cons D o x) := by unfold locO; rw [h]; rfl
theorem dot_low {o x : List Int} (h9 : ∀ y ∈ o, -9 ≤ y ∧ y ≤ 9) (h5 : ∀ y ∈ x, 0 ≤ y ∧ y ≤ 5) (hl : o.length ≤ 1000) : -1000000 ≤ dot o x := by
  have key : ∀ (o x : List Int), (∀ y ∈ o, -9 ≤ y ∧ y ≤ 9) → (∀ y ∈ x, 0 ≤ y ∧ y ≤ 5) → -(45 * (o.length : Int)) ≤ dot o x := by
    intro o
    induction o with
    | nil => intro x _ _; cases x <;> simp [dot]
    | cons a o ih =>
      intro x h9 h5
      cases x with
      | nil => simp [dot]; omega
      | cons b x =>
        have h1 := ih x (fun y hy => h9 y (List.mem_cons_of_mem _ hy)) (fun y hy => h5 y (List.mem_cons_of_mem _ hy))
        have ha := h9 a (List.mem_cons_self ..); have hb := h5 b (List.mem_cons_self ..)
        have h2 : -45 ≤ a * b := by
          have : a * b ≥ -9 * b := Int.mul_le_mul_of_nonneg_right ha.1 hb.1
          omega
        have e : dot (a :: o) (b :: x) = a * b + dot o x := by simp [dot]
        rw [e, List.length_cons]; push_cast; omega
  have := key o x h9 h5
  omega
theorem lowB_of {m : Mod} {D : List Nat} {o : List Int} (hVM : VM m D) (ho : objB o m.doms.length = true) : LowB m.cons D o := fun y hy => by
  have h1 := obj_len ho
  have h2 : m.doms.length = D.length := by rw [hVM.doms, ints_len]
  have h3 := hVM.len.2
  exact dot_low h1.2 (solv hy).2 (by omega)
theorem locO_len (m : Mod) (o x : List Int) (D : List Nat) (hD : validM m = true → VM m D) : ((locO m D o x).getD []).length ≤ 1000000 := by
  cases h : (validM m && (objB o m.doms.length && isB m.cons D x))
  · rw [locO_no h]; simp
  · rw [locO_yes h]
    simp only [Bool.and_eq_true] at h
    have hv := hD h.1
    have h1 := (solv (locL_fix (lowB_of hv h.2.1) (of_decide_eq_true h.2.2)).1).1
    have := hv.len.2
    simp only [Option.getD_some]; omega
end Go.Proofs.Ytngpcoilgilmjaa

set_option linter.unusedVariables false
set_option linter.unusedSimpArgs false
namespace Go.Proofs.Ytngpcoilgilmjaa
open Go.RowKit



end Go.Proofs.Ytngpcoilgilmjaa
