/-
  Filtering and propagation, in plain mathematics.
  More on filtering and propagation, in plain mathematics.
  Solutions, in plain mathematics: all lists of values of the domains that satisfy the constraints, the least ones first.
  More small lemmas on readings. No program is mentioned.
  Readings of constraints with their slices laid open. No program is mentioned.
  Lists of the call's own whose elements lead to further memory: rows of numbers, constraints. No program is mentioned.
  Appends inside a region that draws its order. No program is mentioned.
  An element of an owned list replaced. No program is mentioned.
-/
import Derived.Test.YtmonhpoogfdpoaaGreatXLib
import Derived.Test.YtmonhpoogfdpoaaGreatXHJ
import Derived.StillTailTactics
import Derived.Deep.OwnRows
import Derived.Deep.AppendLies
import Derived.Deep.RegionLaw
set_option linter.unusedVariables false
namespace Go.Proofs.YtmonhpoogfdpoaaGreat

/-- The numbers of a list, as integers. -/
def ints (D : List Nat) : List Int := D.map fun n : Nat => (n : Int)
theorem ints_len (D : List Nat) : (ints D).length = D.length := by simp [ints]
theorem ints_get (D : List Nat) (i : Nat) : (ints D)[i]? = (D[i]?).map fun n : Nat => (n : Int) := by simp [ints]
theorem ints_inj {D E : List Nat} : ints D = ints E ↔ D = E := by
  constructor
  · intro h
    refine List.ext_getElem? fun i => ?_
    have := congrArg (fun l => l[i]?) h
    simp only [ints_get] at this
    cases h1 : D[i]? <;> cases h2 : E[i]? <;> simp_all <;> omega
  · rintro rfl; rfl

/-- Each value of a list gets its bit. -/
def addT (acc : List Nat) (x : List Int) : List Nat := List.zipWith (fun a v => a ||| 2 ^ v.toNat) acc x
def suppFold (sat : List Int → Bool) (acc : List Nat) (ts : List (List Int)) : List Nat := ts.foldl (fun a t => if sat t then addT a t else a) acc
def supp (sat : List Int → Bool) (k : Nat) (ts : List (List Int)) : List Nat := suppFold sat (List.replicate k 0) ts
def wordN (vars : List Int) (D : List Nat) : List Nat := vars.map fun v => D.getD v.toNat 0
def setAll : List Int → List Nat → List Nat → List Nat
  | v :: vs, s :: ss, D => setAll vs ss (D.set v.toNat s)
  | _, _, D => D
def tups (D : List Nat) : List (List Int) := tupsL (D.map vals)
def filt (c : Con) (D : List Nat) : List Nat := setAll c.vars (supp (satB c) c.vars.length (tups (wordN c.vars D))) D

theorem wordN_ints (vars : List Int) (D : List Nat) : word vars (ints D) = ints (wordN vars D) := by
  unfold word wordN ints
  simp only [List.map_map]
  congr 1
  funext v
  simp only [Function.comp, List.getD_eq_getElem?_getD, List.getElem?_map]
  cases D[v.toNat]? <;> simp
theorem wordN_len (vars : List Int) (D : List Nat) : (wordN vars D).length = vars.length := by simp [wordN]
theorem addT_len {acc : List Nat} {x : List Int} (h : x.length = acc.length) : (addT acc x).length = acc.length := by simp [addT, h]
theorem suppFold_len (sat : List Int → Bool) (acc : List Nat) (ts : List (List Int)) (h : ∀ t ∈ ts, t.length = acc.length) : (suppFold sat acc ts).length = acc.length := by
  induction ts generalizing acc with
  | nil => rfl
  | cons t r ih =>
    simp only [suppFold, List.foldl_cons]
    have h1 := h t (by simp)
    split
    · have := ih (addT acc t) (fun u hu => by rw [addT_len h1]; exact h u (by simp [hu]))
      simp only [suppFold] at this
      rw [this, addT_len h1]
    · exact ih acc (fun u hu => h u (by simp [hu]))
theorem tups_len {D : List Nat} {t : List Int} (h : t ∈ tups D) : t.length = D.length := by simpa using tupsL_len h
theorem supp_len (sat : List Int → Bool) (D : List Nat) : (supp sat D.length (tups D)).length = D.length := by
  unfold supp
  rw [suppFold_len]
  · simp
  · intro t ht; simpa using tups_len ht
theorem supp_snoc (sat : List Int → Bool) (k : Nat) (pre : List (List Int)) (x : List Int) : supp sat k (pre ++ [x]) = if sat x then addT (supp sat k pre) x else supp sat k pre := by
  simp [supp, suppFold, List.foldl_append]
theorem setAll_len (vs : List Int) (ss D : List Nat) : (setAll vs ss D).length = D.length := by
  induction vs generalizing ss D with
  | nil => simp [setAll]
  | cons v vs ih =>
    cases ss with
    | nil => simp [setAll]
    | cons s ss => simp [setAll, ih]
theorem filt_len (c : Con) (D : List Nat) : (filt c D).length = D.length := setAll_len _ _ _

theorem setAll_other (vs : List Int) (ss D : List Nat) (i : Nat) (h : ∀ v ∈ vs, v.toNat ≠ i) : (setAll vs ss D)[i]? = D[i]? := by
  induction vs generalizing ss D with
  | nil => simp [setAll]
  | cons v vs ih =>
    cases ss with
    | nil => simp [setAll]
    | cons s ss =>
      simp only [setAll]
      rw [ih _ _ (fun u hu => h u (by simp [hu])), List.getElem?_set_ne (h v (by simp))]
theorem setAll_at (vs : List Int) (ss D : List Nat) (k : Nat) (v : Int) (s : Nat) (hv : vs[k]? = some v) (hs : ss[k]? = some s) (hd : vs.Nodup) (hr : ∀ v ∈ vs, 0 ≤ v ∧ v < D.length) : (setAll vs ss D)[v.toNat]? = some s := by
  induction vs generalizing ss D k with
  | nil => simp at hv
  | cons u vs ih =>
    cases ss with
    | nil => simp at hs
    | cons s' ss =>
      simp only [setAll]
      have hd' := List.nodup_cons.1 hd
      cases k with
      | zero =>
        simp at hv hs
        subst hv hs
        have h0 := hr u (by simp)
        rw [setAll_other]
        · rw [List.getElem?_set_self (by omega)]
        · intro w hw e
          have h1 := hr w (by simp [hw])
          have : w = u := by omega
          subst this; exact hd'.1 hw
      | succ k => exact ih ss (D.set u.toNat s') k (by simpa using hv) (by simpa using hs) hd'.2 (fun w hw => by simpa using hr w (by simp [hw]))

theorem mem_vals {d : Nat} {v : Int} : v ∈ vals d ↔ ∃ n : Nat, v = n ∧ n < 6 ∧ d.testBit n = true := by
  unfold vals valsBelow
  simp only [List.mem_map, List.mem_filter, List.mem_range]
  constructor
  · rintro ⟨n, ⟨h1, h2⟩, rfl⟩; exact ⟨n, rfl, h1, h2⟩
  · rintro ⟨n, rfl, h1, h2⟩; exact ⟨n, ⟨h1, h2⟩, rfl⟩
theorem mem_tups {D : List Nat} {t : List Int} : t ∈ tups D ↔ t.length = D.length ∧ ∀ (i : Nat) v, t[i]? = some v → ∃ d, D[i]? = some d ∧ v ∈ vals d := by
  unfold tups
  rw [mem_tupsL]
  simp only [List.length_map]
  refine and_congr_right fun _ => ?_
  refine forall_congr' fun i => forall_congr' fun v => imp_congr_right fun _ => ?_
  simp only [List.getElem?_map]
  cases D[i]? <;> simp
theorem tups_val {D : List Nat} {t : List Int} (h : t ∈ tups D) : ∀ x ∈ t, 0 ≤ x ∧ x ≤ 5 := by
  intro x hx
  obtain ⟨i, hi⟩ := List.mem_iff_getElem?.1 hx
  obtain ⟨d, _, hv⟩ := (mem_tups.1 h).2 i x hi
  obtain ⟨n, rfl, h1, _⟩ := mem_vals.1 hv
  omega

theorem addT_get (acc : List Nat) (x : List Int) (i : Nat) (hl : x.length = acc.length) : (addT acc x).getD i 0 = if h : i < acc.length then acc.getD i 0 ||| 2 ^ (x.getD i 0).toNat else 0 := by
  unfold addT
  simp only [List.getD_eq_getElem?_getD, List.getElem?_zipWith]
  by_cases h : i < acc.length
  · have h2 : i < x.length := by omega
    simp [h, h2]
  · simp [h]
theorem suppFold_bit (sat : List Int → Bool) (acc : List Nat) (ts : List (List Int)) (h : ∀ t ∈ ts, t.length = acc.length) (i : Nat) (hi : i < acc.length) (n : Nat) :
    ((suppFold sat acc ts).getD i 0).testBit n = true ↔ (acc.getD i 0).testBit n = true ∨ ∃ t ∈ ts, sat t = true ∧ (t.getD i 0).toNat = n := by
  induction ts generalizing acc with
  | nil => simp [suppFold]
  | cons t r ih =>
    have h1 := h t (by simp)
    simp only [suppFold, List.foldl_cons]
    by_cases hs : sat t = true
    · rw [if_pos hs]
      have := ih (addT acc t) (fun u hu => by rw [addT_len h1]; exact h u (by simp [hu])) (by rw [addT_len h1]; exact hi)
      simp only [suppFold] at this
      rw [this, addT_get _ _ _ h1, dif_pos hi, Nat.testBit_or, Bool.or_eq_true, Nat.testBit_two_pow]
      simp only [decide_eq_true_eq, List.mem_cons, exists_eq_or_imp, hs, true_and]
      constructor
      · rintro ((a | a) | a)
        · exact .inl a
        · exact .inr (.inl a)
        · exact .inr (.inr a)
      · rintro (a | a | a)
        · exact .inl (.inl a)
        · exact .inl (.inr a)
        · exact .inr a
    · rw [if_neg hs]
      have := ih acc (fun u hu => h u (by simp [hu])) hi
      simp only [suppFold] at this
      rw [this]
      simp [hs]
theorem supp_bit (sat : List Int → Bool) (D : List Nat) (i : Nat) (hi : i < D.length) (n : Nat) :
    ((supp sat D.length (tups D)).getD i 0).testBit n = true ↔ ∃ t ∈ tups D, sat t = true ∧ (t.getD i 0).toNat = n := by
  unfold supp
  rw [suppFold_bit _ _ _ (fun t ht => by simpa using tups_len ht) i (by simpa using hi)]
  simp [List.getD_eq_getElem?_getD, hi]

/-- What a valid constraint is, for n variables. -/
structure VC (c : Con) (n : Nat) : Prop where
  n4 : 1 ≤ n ∧ n ≤ 4
  k : 1 ≤ c.vars.length ∧ c.vars.length ≤ n
  rng : ∀ v ∈ c.vars, 0 ≤ v ∧ v < n
  nd : c.vars.Nodup
  fits : fitsB c = true
theorem validCon_iff {c : Con} {n : Nat} : validCon c n = true ↔ VC c n := by
  unfold validCon validConS distinctB
  simp only [Bool.and_eq_true, inB_iff, allB_iff, decide_eq_true_eq]
  constructor
  · rintro ⟨h1, ⟨⟨h2, h3⟩, h4⟩, h5⟩
    exact ⟨by omega, by omega, fun v hv => by have := h3 v hv; omega, h4, h5⟩
  · rintro ⟨h1, h2, h3, h4, h5⟩
    exact ⟨by omega, ⟨⟨by omega, fun v hv => by have := h3 v hv; omega⟩, h4⟩, h5⟩

/-- Domains, one below the other. -/
def Sub (D E : List Nat) : Prop := D.length = E.length ∧ ∀ i n, (D.getD i 0).testBit n = true → (E.getD i 0).testBit n = true
theorem Sub.refl (D : List Nat) : Sub D D := ⟨rfl, fun _ _ h => h⟩
theorem Sub.trans {D E F : List Nat} (h : Sub D E) (k : Sub E F) : Sub D F := ⟨h.1.trans k.1, fun i n x => k.2 i n (h.2 i n x)⟩
theorem Sub.antisymm {D E : List Nat} (h : Sub D E) (k : Sub E D) : D = E := by
  refine List.ext_getElem? fun i => ?_
  by_cases hi : i < D.length
  · have hi' : i < E.length := by have := h.1; omega
    have e : D.getD i 0 = E.getD i 0 := by
      refine Nat.eq_of_testBit_eq fun n => ?_
      rw [Bool.eq_iff_iff]
      exact ⟨h.2 i n, k.2 i n⟩
    simp only [List.getD_eq_getElem?_getD, List.getElem?_eq_getElem hi, List.getElem?_eq_getElem hi', Option.getD_some] at e
    rw [List.getElem?_eq_getElem hi, List.getElem?_eq_getElem hi', e]
  · have hi' : ¬ i < E.length := by have := h.1; omega
    rw [List.getElem?_eq_none (by omega), List.getElem?_eq_none (by omega)]
def Below64 (D : List Nat) : Prop := ∀ d ∈ D, d < 64
theorem lt64_iff {d : Nat} : d < 64 ↔ ∀ n, d.testBit n = true → n < 6 := by
  constructor
  · intro h n hn
    have := Nat.ge_two_pow_of_testBit hn
    by_cases h6 : n < 6
    · exact h6
    · have : 2 ^ 6 ≤ 2 ^ n := Nat.pow_le_pow_right (by omega) (by omega)
      omega
  · intro h
    have : d < 2 ^ 6 := Nat.lt_pow_two_of_testBit d fun i hi => by
      cases hb : d.testBit i
      · rfl
      · have := h i hb; omega
    simpa using this
theorem Sub.below {D E : List Nat} (h : Sub D E) (hE : Below64 E) : Below64 D := by
  intro d hd
  obtain ⟨i, hi⟩ := List.mem_iff_getElem?.1 hd
  have hi' : i < E.length := by have := (List.getElem?_eq_some_iff.1 hi).1; have := h.1; omega
  rw [lt64_iff]
  intro n hn
  have e : D.getD i 0 = d := by simp [List.getD_eq_getElem?_getD, hi]
  have := h.2 i n (by rw [e]; exact hn)
  have h64 := hE (E.getD i 0) (by simp [List.getD_eq_getElem?_getD, hi'])
  exact lt64_iff.1 h64 n this
theorem le_of_bits {a b : Nat} (h : ∀ n, a.testBit n = true → b.testBit n = true) : a ≤ b := by
  have : a &&& b = a := by
    refine Nat.eq_of_testBit_eq fun n => ?_
    rw [Nat.testBit_and]
    cases ha : a.testBit n
    · rfl
    · simp [h n ha]
  rw [← this]; exact Nat.and_le_right
theorem sum_lt {D E : List Nat} (h : Sub D E) (hne : D ≠ E) : D.sum < E.sum := by
  induction D generalizing E with
  | nil =>
    have := h.1
    cases E with
    | nil => exact absurd rfl hne
    | cons e E => simp at this
  | cons d D ih =>
    cases E with
    | nil => have := h.1; simp at this
    | cons e E =>
      have hde : d ≤ e := le_of_bits fun n hn => by simpa using h.2 0 n (by simpa using hn)
      have hs : Sub D E := ⟨by simpa using h.1, fun i n hn => by simpa using h.2 (i + 1) n (by simpa using hn)⟩
      simp only [List.sum_cons]
      by_cases hDE : D = E
      · subst hDE
        have : d ≠ e := fun e' => hne (by rw [e'])
        omega
      · have := ih hs hDE; omega

theorem wordN_get (vars : List Int) (D : List Nat) (k : Nat) (v : Int) (hv : vars[k]? = some v) : (wordN vars D)[k]? = some (D.getD v.toNat 0) := by simp [wordN, hv]
theorem Below64.word {D : List Nat} (h : Below64 D) (vars : List Int) : Below64 (wordN vars D) := by
  intro d hd
  unfold wordN at hd
  obtain ⟨v, _, rfl⟩ := List.mem_map.1 hd
  by_cases hl : v.toNat < D.length
  · exact h _ (by simp [List.getD_eq_getElem?_getD, hl])
  · simp [List.getD_eq_getElem?_getD, hl]
/-- A bit of a filtered domain. -/
theorem filt_at {c : Con} {D : List Nat} (hc : VC c D.length) {k : Nat} {v : Int} (hv : c.vars[k]? = some v) (n : Nat) :
    ((filt c D).getD v.toNat 0).testBit n = true ↔ ∃ t ∈ tups (wordN c.vars D), satB c t = true ∧ (t.getD k 0).toNat = n := by
  have hk := (List.getElem?_eq_some_iff.1 hv).1
  have hsl := supp_len (satB c) (wordN c.vars D)
  rw [wordN_len] at hsl
  obtain ⟨s, hs⟩ := get_some (xs := supp (satB c) c.vars.length (tups (wordN c.vars D))) (k := k) (by rw [hsl]; exact hk)
  have h1 := setAll_at c.vars _ D k v s hv hs hc.nd hc.rng
  have e : (filt c D).getD v.toNat 0 = (supp (satB c) c.vars.length (tups (wordN c.vars D))).getD k 0 := by
    unfold filt
    simp [List.getD_eq_getElem?_getD, h1, hs]
  rw [e]
  have := supp_bit (satB c) (wordN c.vars D) k (by rw [wordN_len]; exact hk) n
  rw [wordN_len] at this
  exact this
theorem filt_other {c : Con} {D : List Nat} {i : Nat} (h : ∀ v ∈ c.vars, v.toNat ≠ i) : (filt c D).getD i 0 = D.getD i 0 := by
  unfold filt
  rw [List.getD_eq_getElem?_getD, setAll_other _ _ _ _ h, ← List.getD_eq_getElem?_getD]
theorem var_cases (c : Con) (i : Nat) : (∀ v ∈ c.vars, v.toNat ≠ i) ∨ ∃ (k : Nat) (v : Int), c.vars[k]? = some v ∧ v.toNat = i := by
  by_cases h : ∃ v ∈ c.vars, v.toNat = i
  · obtain ⟨v, hv, e⟩ := h
    obtain ⟨k, hk⟩ := List.mem_iff_getElem?.1 hv
    exact .inr ⟨k, v, hk, e⟩
  · exact .inl fun v hv e => h ⟨v, hv, e⟩
theorem filt_sub {c : Con} {D : List Nat} (hc : VC c D.length) : Sub (filt c D) D := by
  refine ⟨filt_len _ _, fun i n hn => ?_⟩
  rcases var_cases c i with h | ⟨k, v, hk, rfl⟩
  · rwa [filt_other h] at hn
  · obtain ⟨t, ht, _, e⟩ := (filt_at hc hk n).1 hn
    have hkl := (List.getElem?_eq_some_iff.1 hk).1
    obtain ⟨x, hx⟩ := get_some (xs := t) (k := k) (by rw [tups_len ht, wordN_len]; exact hkl)
    obtain ⟨d, hd, hv⟩ := (mem_tups.1 ht).2 k x hx
    rw [wordN_get _ _ _ _ hk] at hd
    obtain ⟨m, rfl, _, hm⟩ := mem_vals.1 hv
    have : (t.getD k 0).toNat = m := by simp [List.getD_eq_getElem?_getD, hx]
    cases hd
    rw [← e, this]; exact hm
/-- A list of values, one of each domain. -/
def In (x : List Int) (D : List Nat) : Prop := x ∈ tups D
theorem In.get {x : List Int} {D : List Nat} (h : In x D) {i : Nat} (hi : i < D.length) : ∃ n : Nat, x[i]? = some (n : Int) ∧ n < 6 ∧ (D.getD i 0).testBit n = true := by
  obtain ⟨v, hv⟩ := get_some (xs := x) (k := i) (by rw [tups_len h]; exact hi)
  obtain ⟨d, hd, hm⟩ := (mem_tups.1 h).2 i v hv
  obtain ⟨n, rfl, h1, h2⟩ := mem_vals.1 hm
  exact ⟨n, hv, h1, by simp [List.getD_eq_getElem?_getD, hd, h2]⟩
theorem In.of {x : List Int} {D : List Nat} (hl : x.length = D.length) (h : ∀ i, i < D.length → ∃ n : Nat, x[i]? = some (n : Int) ∧ n < 6 ∧ (D.getD i 0).testBit n = true) : In x D := by
  refine mem_tups.2 ⟨hl, fun i v hv => ?_⟩
  have hi := (List.getElem?_eq_some_iff.1 hv).1
  obtain ⟨n, hn, h6, hb⟩ := h i (by omega)
  rw [hv] at hn; cases hn
  obtain ⟨d, hd⟩ := get_some (xs := D) (k := i) (by omega)
  exact ⟨d, hd, mem_vals.2 ⟨n, rfl, h6, by simpa [List.getD_eq_getElem?_getD, hd] using hb⟩⟩
theorem In.mono {x : List Int} {D E : List Nat} (h : In x D) (hs : Sub D E) : In x E :=
  In.of (by rw [tups_len h, hs.1]) fun i hi => let ⟨n, h1, h2, h3⟩ := h.get (by rw [hs.1]; exact hi); ⟨n, h1, h2, hs.2 i n h3⟩
theorem In.word {x : List Int} {D : List Nat} {c : Con} (h : In x D) (hc : VC c D.length) : In (Go.Proofs.YtmonhpoogfdpoaaGreat.word c.vars x) (wordN c.vars D) := by
  refine In.of (by simp [Go.Proofs.YtmonhpoogfdpoaaGreat.word, wordN]) fun k hk => ?_
  rw [wordN_len] at hk
  obtain ⟨v, hv⟩ := get_some hk
  have hr := hc.rng v (List.mem_of_getElem? hv)
  obtain ⟨n, h1, h2, h3⟩ := h.get (i := v.toNat) (by omega)
  refine ⟨n, by simp [Go.Proofs.YtmonhpoogfdpoaaGreat.word, hv, h1], h2, ?_⟩
  rw [List.getD_eq_getElem?_getD, wordN_get _ _ _ _ hv]; simpa using h3
/-- Filtering loses no list that satisfies the constraint. -/
theorem In.filt {x : List Int} {D : List Nat} {c : Con} (h : In x D) (hc : VC c D.length) (hs : satB c (Go.Proofs.YtmonhpoogfdpoaaGreat.word c.vars x) = true) : In x (filt c D) := by
  refine In.of (by rw [filt_len]; exact tups_len h) fun i hi => ?_
  rw [filt_len] at hi
  obtain ⟨n, h1, h2, h3⟩ := h.get hi
  refine ⟨n, h1, h2, ?_⟩
  rcases var_cases c i with hv | ⟨k, v, hk, rfl⟩
  · rw [filt_other hv]; exact h3
  · refine (filt_at hc hk n).2 ⟨_, h.word hc, hs, ?_⟩
    simp [List.getD_eq_getElem?_getD, Go.Proofs.YtmonhpoogfdpoaaGreat.word, hk, h1]

/-! ### Propagation -/
def stepF (cs : List Con) (D : List Nat) : List Nat := cs.foldl (fun D c => filt c D) D
def zeros (n : Nat) : List Nat := List.replicate n 0
def fixN (cs : List Con) : Nat → List Nat → List Nat
  | 0, D => D
  | f + 1, D => if 0 ∈ D then zeros D.length else if stepF cs D = D then D else fixN cs f (stepF cs D)
def fix (cs : List Con) (D : List Nat) : List Nat := fixN cs (D.sum + 1) D
def VCs (cs : List Con) (n : Nat) : Prop := ∀ c ∈ cs, VC c n
theorem stepF_sub {cs : List Con} {D : List Nat} (h : VCs cs D.length) : Sub (stepF cs D) D := by
  induction cs generalizing D with
  | nil => exact Sub.refl _
  | cons c r ih =>
    simp only [stepF, List.foldl_cons]
    have h1 := filt_sub (h c (by simp))
    exact (ih (fun c' hc' => by rw [filt_len]; exact h c' (by simp [hc']))).trans h1
theorem stepF_len {cs : List Con} (D : List Nat) : (stepF cs D).length = D.length := by
  induction cs generalizing D with
  | nil => rfl
  | cons c r ih => simp only [stepF, List.foldl_cons]; exact (ih _).trans (filt_len _ _)
theorem fixN_enough {cs : List Con} {D : List Nat} (h : VCs cs D.length) (f g : Nat) (hf : D.sum < f) (hg : D.sum < g) : fixN cs f D = fixN cs g D := by
  induction f generalizing D g with
  | zero => omega
  | succ f ih =>
    cases g with
    | zero => omega
    | succ g =>
      simp only [fixN]
      split
      · rfl
      · split
        · rfl
        · rename_i hne
          have := sum_lt (stepF_sub h) hne
          exact ih (by rw [stepF_len]; exact h) g (by omega) (by omega)
theorem fix_eq {cs : List Con} {D : List Nat} (h : VCs cs D.length) : fix cs D = if 0 ∈ D then zeros D.length else if stepF cs D = D then D else fix cs (stepF cs D) := by
  unfold fix
  rw [fixN]
  split
  · rfl
  · split
    · rfl
    · rename_i hne
      have := sum_lt (stepF_sub h) hne
      exact fixN_enough (by rw [stepF_len]; exact h) _ _ (by omega) (by omega)
theorem fixN_ind {cs : List Con} (P : List Nat → List Nat → Prop) (hz : ∀ D, VCs cs D.length → 0 ∈ D → P D (zeros D.length)) (he : ∀ D, VCs cs D.length → 0 ∉ D → stepF cs D = D → P D D)
    (hs : ∀ D E, VCs cs D.length → 0 ∉ D → P (stepF cs D) E → P D E) (f : Nat) (D : List Nat) (h : VCs cs D.length) (hf : D.sum < f) : P D (fixN cs f D) := by
  induction f generalizing D with
  | zero => omega
  | succ f ih =>
    simp only [fixN]
    split
    · exact hz D h ‹_›
    · split
      · exact he D h ‹_› ‹_›
      · rename_i hne
        have := sum_lt (stepF_sub h) hne
        exact hs D _ h ‹_› (ih _ (by rw [stepF_len]; exact h) (by omega))
theorem fix_ind {cs : List Con} (P : List Nat → List Nat → Prop) (hz : ∀ D, VCs cs D.length → 0 ∈ D → P D (zeros D.length)) (he : ∀ D, VCs cs D.length → 0 ∉ D → stepF cs D = D → P D D)
    (hs : ∀ D E, VCs cs D.length → 0 ∉ D → P (stepF cs D) E → P D E) (D : List Nat) (h : VCs cs D.length) : P D (fix cs D) := fixN_ind P hz he hs _ D h (by omega)
theorem zeros_sub (D : List Nat) : Sub (zeros D.length) D := ⟨by simp [zeros], fun i n h => by
  by_cases hi : i < D.length <;> simp [zeros, List.getD_eq_getElem?_getD, hi] at h⟩
theorem fix_sub {cs : List Con} {D : List Nat} (h : VCs cs D.length) : Sub (fix cs D) D :=
  fix_ind (fun D E => Sub E D) (fun D _ _ => zeros_sub D) (fun D _ _ _ => Sub.refl D) (fun D E hv _ hs => hs.trans (stepF_sub hv)) D h
theorem fix_len {cs : List Con} {D : List Nat} (h : VCs cs D.length) : (fix cs D).length = D.length := (fix_sub h).1
/-- Which lists solve the constraints. -/
def Sol (cs : List Con) (x : List Int) : Prop := ∀ c ∈ cs, satB c (word c.vars x) = true
theorem In.step {x : List Int} {D : List Nat} {cs : List Con} (h : In x D) (hc : VCs cs D.length) (hs : Sol cs x) : In x (stepF cs D) := by
  induction cs generalizing D with
  | nil => exact h
  | cons c r ih =>
    simp only [stepF, List.foldl_cons]
    exact ih (h.filt (hc c (by simp)) (hs c (by simp))) (fun c' hc' => by rw [filt_len]; exact hc c' (by simp [hc'])) (fun c' hc' => hs c' (by simp [hc']))
theorem In.nonzero {x : List Int} {D : List Nat} (h : In x D) : 0 ∉ D := by
  intro h0
  obtain ⟨i, hi⟩ := List.mem_iff_getElem?.1 h0
  obtain ⟨n, _, _, hb⟩ := h.get (List.getElem?_eq_some_iff.1 hi).1
  simp [List.getD_eq_getElem?_getD, hi] at hb
/-- Propagation loses no solution. -/
theorem In.fix {x : List Int} {D : List Nat} {cs : List Con} (h : In x D) (hc : VCs cs D.length) (hs : Sol cs x) : In x (fix cs D) :=
  fix_ind (fun D E => In x D → In x E) (fun D _ h0 hx => absurd h0 hx.nonzero) (fun D _ _ _ hx => hx) (fun D E hv _ ih hx => ih (hx.step hv hs)) D hc h
end Go.Proofs.YtmonhpoogfdpoaaGreat

namespace Go.Proofs.YtmonhpoogfdpoaaGreat
theorem stepF_snoc {cs : List Con} {n : Nat} {c : Con} (h : cs[n]? = some c) (D : List Nat) : stepF (cs.take (n + 1)) D = filt c (stepF (cs.take n) D) := by
  unfold stepF
  obtain ⟨h1, rfl⟩ := List.getElem?_eq_some_iff.1 h
  rw [List.take_succ_eq_append_getElem h1, List.foldl_append]; rfl
theorem VCs.take {cs : List Con} {n : Nat} (h : VCs cs n) (k : Nat) : VCs (cs.take k) n := fun c hc => h c (List.mem_of_mem_take hc)
theorem stepF_below {cs : List Con} {D : List Nat} (h : VCs cs D.length) (hb : Below64 D) : Below64 (stepF cs D) := (stepF_sub h).below hb
theorem fix_below {cs : List Con} {D : List Nat} (h : VCs cs D.length) (hb : Below64 D) : Below64 (fix cs D) := (fix_sub h).below hb
theorem fix_zero {cs : List Con} {D : List Nat} (h : VCs cs D.length) (h0 : 0 ∈ D) : fix cs D = zeros D.length := by rw [fix_eq h, if_pos h0]
theorem fix_done {cs : List Con} {D : List Nat} (h : VCs cs D.length) (h0 : 0 ∉ D) (hs : stepF cs D = D) : fix cs D = D := by rw [fix_eq h, if_neg h0, if_pos hs]
theorem fix_more {cs : List Con} {D : List Nat} (h : VCs cs D.length) (h0 : 0 ∉ D) (hs : stepF cs D ≠ D) : fix cs D = fix cs (stepF cs D) := by rw [fix_eq h, if_neg h0, if_neg hs]
theorem stepF_lt {cs : List Con} {D : List Nat} (h : VCs cs D.length) (hs : stepF cs D ≠ D) : (stepF cs D).sum < D.sum := sum_lt (stepF_sub h) hs
end Go.Proofs.YtmonhpoogfdpoaaGreat

namespace Go.Proofs.YtmonhpoogfdpoaaGreat

def solB (cs : List Con) (x : List Int) : Bool := cs.all fun c => satB c (word c.vars x)
theorem solB_iff {cs : List Con} {x : List Int} : solB cs x = true ↔ Sol cs x := by simp [solB, Sol]
def sols (cs : List Con) (D : List Nat) : List (List Int) := (tups D).filter (solB cs)
theorem mem_sols {cs : List Con} {D : List Nat} {x : List Int} : x ∈ sols cs D ↔ In x D ∧ Sol cs x := by
  unfold sols; rw [List.mem_filter, solB_iff]; rfl

theorem tups_nil : tups [] = [[]] := rfl
theorem tups_cons (d : Nat) (D : List Nat) : tups (d :: D) = (vals d).flatMap fun v => (tups D).map fun t => v :: t := rfl
theorem mem_tups_cons {d : Nat} {D : List Nat} {v : Int} {t : List Int} : v :: t ∈ tups (d :: D) ↔ v ∈ vals d ∧ t ∈ tups D := by
  rw [tups_cons]; simp
theorem vals_sub {d e : Nat} (h : ∀ n, e.testBit n = true → d.testBit n = true) : vals e = (vals d).filter fun v => decide (v ∈ vals e) := by
  have : ∀ n : Nat, decide ((n : Int) ∈ vals e) = (decide (n < 6) && e.testBit n) := by
    intro n
    rw [Bool.eq_iff_iff, decide_eq_true_eq, mem_vals]
    constructor
    · rintro ⟨m, hm, h1, h2⟩
      have : n = m := by omega
      subst this; simp [h1, h2]
    · intro hh
      simp at hh
      exact ⟨n, rfl, hh.1, hh.2⟩
  conv => rhs; unfold vals valsBelow
  rw [List.filter_map, List.filter_filter]
  unfold vals valsBelow
  congr 1
  refine List.filter_congr fun n hn => ?_
  have hn6 := List.mem_range.1 hn
  simp only [Function.comp]
  have := this n
  unfold vals valsBelow at this
  rw [this]
  simp only [hn6, decide_true, Bool.true_and]
  cases he : e.testBit n
  · simp
  · simp [h n he]
theorem tups_sub {D E : List Nat} (h : Sub E D) : tups E = (tups D).filter fun x => decide (x ∈ tups E) := by
  induction D generalizing E with
  | nil =>
    have : E = [] := List.eq_nil_of_length_eq_zero h.1
    subst this; rfl
  | cons d D ih =>
    cases E with
    | nil => have := h.1; simp at this
    | cons e E =>
      have hs : Sub E D := ⟨by simpa using h.1, fun i n hn => by simpa using h.2 (i + 1) n (by simpa using hn)⟩
      have h0 : ∀ n, e.testBit n = true → d.testBit n = true := fun n hn => by simpa using h.2 0 n (by simpa using hn)
      rw [tups_cons d D, List.filter_flatMap]
      have e1 : ∀ v : Int, ((tups D).map fun t => v :: t).filter (fun x => decide (x ∈ tups (e :: E))) = if v ∈ vals e then (tups E).map fun t => v :: t else [] := by
        intro v
        rw [List.filter_map]
        split
        · rename_i hv
          congr 1
          rw [ih hs]
          refine List.filter_congr fun t _ => ?_
          simp only [Function.comp, mem_tups_cons, hv, true_and]
        · rename_i hv
          simp only [Function.comp_def, mem_tups_cons, hv, false_and, decide_false]; simp
      simp only [e1]
      rw [tups_cons]
      conv => lhs; rw [vals_sub h0]
      clear ih e1
      generalize vals d = l
      induction l with
      | nil => rfl
      | cons v l ih2 =>
        simp only [List.filter_cons, List.flatMap_cons]
        by_cases hv : v ∈ vals e
        · simp only [hv, decide_true, if_true, List.flatMap_cons, ih2]
        · simp only [hv, decide_false, if_false, List.nil_append]
          exact ih2
theorem sols_sub {cs : List Con} {D E : List Nat} (h : Sub E D) (hk : ∀ x, In x D → Sol cs x → In x E) : sols cs E = sols cs D := by
  unfold sols
  rw [tups_sub h, List.filter_filter]
  refine List.filter_congr fun x hx => ?_
  cases hs : solB cs x
  · rfl
  · have := hk x hx (solB_iff.1 hs)
    simpa using (show x ∈ tups E from this)
theorem sols_fix {cs : List Con} {D : List Nat} (h : VCs cs D.length) : sols cs (fix cs D) = sols cs D := sols_sub (fix_sub h) fun _ hx hs => hx.fix h hs

/-- The order of lists. -/
def lexB : List Int → List Int → Bool
  | a :: r, b :: s => if a = b then lexB r s else decide (a < b)
  | _, _ => false
theorem vals_length (d : Nat) : (vals d).length ≤ 6 := valsBelow_len d 6
theorem tups_length (D : List Nat) : (tups D).length ≤ 6 ^ D.length := by
  induction D with
  | nil => simp [tups_nil]
  | cons d D ih =>
    rw [tups_cons]
    have : ∀ l : List Int, (l.flatMap fun v => (tups D).map fun t => v :: t).length = l.length * (tups D).length := by
      intro l
      induction l with
      | nil => simp
      | cons a l ih => simp [ih, Nat.succ_mul]; omega
    rw [this, List.length_cons, Nat.pow_succ, Nat.mul_comm]
    exact Nat.mul_le_mul ih (vals_length d)
end Go.Proofs.YtmonhpoogfdpoaaGreat

namespace Go.Proofs.YtmonhpoogfdpoaaGreat
open Go.RowKit

theorem heap3 (w : World) (a b c : Obj) : (((w.alloc a).alloc b).alloc c).heap[w.heap.size]? = some a ∧ (((w.alloc a).alloc b).alloc c).heap[w.heap.size + 1]? = some b ∧ (((w.alloc a).alloc b).alloc c).heap[w.heap.size + 2]? = some c := by
  refine ⟨?_, ?_, ?_⟩
  · exact (((Gr.refl [] (w.alloc a)).alloc b).alloc c).obj (heap_alloc_new _ _) (by simp)
  · have := ((Gr.refl [] ((w.alloc a).alloc b)).alloc c).obj (heap_alloc_new _ _) (by simp)
    rwa [World.size_alloc] at this
  · have := heap_alloc_new ((w.alloc a).alloc b) c
    rwa [World.size_alloc, World.size_alloc] at this
theorem own_made {B g : Nat} {W : World} {e : TypeId} {n : Nat} (h : W.heap[g]? = some (.cells (madeCells #[.int .i64 0] n) e (0, 0))) (hB : B ≤ g) (hn : n ≤ 1000000000000) :
    Own B W e (.slice (some ⟨g, 0, none⟩) n n) (List.replicate n 0) := by
  have e1 : (madeCells #[Value.int .i64 0] n).toList = (List.replicate n (0 : Int)).map (Value.int .i64) := by rw [List.map_replicate]; exact toList_madeCells_one _ _
  have e2 : (madeCells #[Value.int .i64 0] n).size = n := by
    have := congrArg List.length e1
    simpa using this
  refine ⟨by simp, .inr ⟨g, n, _, by simp, hB, h, by simp, by simp only [maxLen]; omega, by simpa using e2, ?_⟩⟩
  rw [e1]; simp
theorem CCells.at {S : List Nat} {w : World} {ao : Option Addr} {cs : List Con} (h : CCells S w ao cs) {k : Nat} {c : Con} (hi : cs[k]? = some c) :
    ∃ b o vv av rv, ao = some ⟨b, o, none⟩ ∧ b ∉ S ∧ (w.cell? ⟨b, o + k * 5, none⟩ = some (.int .i64 c.kind) ∧ w.cell? ⟨b, o + k * 5 + 1, none⟩ = some vv ∧ w.cell? ⟨b, o + k * 5 + 2, none⟩ = some av ∧
     w.cell? ⟨b, o + k * 5 + 3, none⟩ = some (.int .i64 c.bound) ∧ w.cell? ⟨b, o + k * 5 + 4, none⟩ = some rv) ∧ ConV S w (.agg #[.int .i64 c.kind, vv, av, .int .i64 c.bound, rv]) c := by
  obtain ⟨b, o, vv, av, rv, e, hs, hc, h1, h2, h3⟩ := h k c hi
  exact ⟨b, o, vv, av, rv, e, hs, hc, vv, av, rv, rfl, h1, h2, h3⟩
theorem ConsV.open {S : List Nat} {w : World} {v : Value} {cs : List Con} (h : ConsV S w v cs) : ∃ ao cap, v = .slice ao cs.length cap ∧ (cs.length ≤ cap ∧ cap ≤ 9223372036854775807) ∧ CCells S w ao cs :=
  let ⟨ao, cap, e, ⟨h1, h2, _⟩, hc⟩ := h; ⟨ao, cap, e, ⟨h1, h2⟩, hc⟩
theorem Nums.cells {S : List Nat} {w : World} {k : IntKind} {ao : Option Addr} {n cap : Nat} {xs : List Int} (h : Nums S w k (.slice ao n cap) xs) : Cells S w k ao xs := by
  obtain ⟨ao', cap', e, _, hc⟩ := h
  cases e; exact hc
theorem Nums.at {S : List Nat} {w : World} {k : IntKind} {ao : Option Addr} {n cap : Nat} {xs : List Int} (h : Nums S w k (.slice ao n cap) xs) {i : Nat} {x : Int} (hi : xs[i]? = some x) :
    ∃ b o, ao = some ⟨b, o, none⟩ ∧ b ∉ S ∧ w.cell? ⟨b, o + i, none⟩ = some (.int k x) := h.cells i x hi
theorem Nums.len {S : List Nat} {w : World} {k : IntKind} {ao : Option Addr} {n cap : Nat} {xs : List Int} (h : Nums S w k (.slice ao n cap) xs) : n = xs.length ∧ n ≤ cap ∧ cap ≤ 9223372036854775807 ∧ (ao = none → cap = 0) := by
  obtain ⟨ao', cap', e, h1, _⟩ := h
  cases e; exact ⟨rfl, h1⟩
/-- What an owned list of one cell or more is, when its slice is known. -/
theorem Own.at {B : Nat} {w : World} {e : TypeId} {g n cap : Nat} {xs : List Int} (h : Own B w e (.slice (some ⟨g, 0, none⟩) n cap) xs) {i : Nat} {x : Int} (hi : xs[i]? = some x) :
    w.cell? ⟨g, i, none⟩ = some (.int .i64 x) ∧ w.frozen? ⟨g, i, none⟩ = false := by
  obtain ⟨g', c', e1, _, h1, h2⟩ := h.open (Nat.lt_of_le_of_lt (Nat.zero_le i) (List.getElem?_eq_some_iff.1 hi).1)
  simp only [Value.slice.injEq, Option.some.injEq, Addr.mk.injEq] at e1
  obtain ⟨⟨rfl, _⟩, _⟩ := e1
  exact ⟨h1 i x hi, h2 i⟩
theorem OwnC.at {B : Nat} {w : World} {e : TypeId} {g n cap : Nat} {xs : List Int} (h : OwnC B w e (.slice (some ⟨g, 0, none⟩) n cap) xs) {i : Nat} {x : Int} (hi : xs[i]? = some x) :
    w.cell? ⟨g, i, none⟩ = some (.int .i64 x) ∧ w.frozen? ⟨g, i, none⟩ = false := by
  have hil := (List.getElem?_eq_some_iff.1 hi).1
  rcases h with ⟨h1, _⟩ | ⟨g', cap', cur, e1, h2, h3, h4, h5, h6, h7⟩
  · cases h1
  · cases e1
    have e2 := congrArg (fun t => t[i]?) h7
    simp only [List.getElem?_take, hil, if_true, List.getElem?_map, hi] at e2
    have e3 : cur[i]? = some (.int .i64 x) := by simpa using e2
    exact ⟨by simp [World.cell?, h3, e3], by simp [World.frozen?, h3]⟩
theorem OwnC.block {B : Nat} {w : World} {e : TypeId} {g n cap : Nat} {xs : List Int} (h : OwnC B w e (.slice (some ⟨g, 0, none⟩) n cap) xs) : B ≤ g ∧ g < w.heap.size := by
  rcases h with ⟨h1, _⟩ | ⟨g', cap', cur, e1, h2, h3, _⟩
  · cases h1
  · cases e1; exact ⟨h2, lt_of_block h3⟩
theorem OwnC.open {B : Nat} {w : World} {e : TypeId} {v : Value} {xs : List Int} (h : OwnC B w e v xs) (h0 : 0 < xs.length) : ∃ g cap, v = .slice (some ⟨g, 0, none⟩) xs.length cap := by
  rcases h with ⟨_, rfl⟩ | ⟨g', cap', cur, e1, _⟩
  · simp at h0
  · exact ⟨_, _, e1⟩
theorem OwnC.le {B B' : Nat} {w : World} {e : TypeId} {v : Value} {xs : List Int} (h : OwnC B w e v xs) (hB : B' ≤ B) : OwnC B' w e v xs := by
  rcases h with h | ⟨g', cap', cur, e1, h2, r⟩
  · exact .inl h
  · exact .inr ⟨g', cap', cur, e1, by omega, r⟩
theorem OwnC.set {B : Nat} {w : World} {e : TypeId} {g cap n : Nat} {xs : List Int} (h : OwnC B w e (.slice (some ⟨g, 0, none⟩) n cap) xs) (i : Nat) (x : Int) :
    OwnC B (w.setCell ⟨g, i, none⟩ (.int .i64 x)) e (.slice (some ⟨g, 0, none⟩) n cap) (xs.set i x) := by
  rcases h with ⟨h1, _⟩ | ⟨g', cap', cur, e1, h2, h3, h4, h5, h6, h7⟩
  · cases h1
  · cases e1
    refine .inr ⟨g, cap, cur.setIfInBounds i (.int .i64 x), by simp, h2, ?_, by simpa using h4, h5, by simpa using h6, ?_⟩
    · simp [World.setCell, Array.getElem?_modify, h3]
    · simp only [List.length_set]
      rw [Array.toList_setIfInBounds, List.take_set, h7, List.map_set]
/-- Blocks that the invariant does not speak of may change. -/
theorem Own.keep {B : Nat} {T : List Nat} {w w' : World} {e : TypeId} {g n cap : Nat} {xs : List Int} (h : Own B w e (.slice (some ⟨g, 0, none⟩) n cap) xs) (hg : Gr T w w') (hT : g ∉ T) : Own B w' e (.slice (some ⟨g, 0, none⟩) n cap) xs := by
  refine ⟨h.1, ?_⟩
  rcases h.2 with ⟨h1, _⟩ | ⟨g', cap', cur, e1, hb, hgg, rest⟩
  · cases h1
  · cases e1
    exact .inr ⟨g, cap, cur, rfl, hb, hg.obj hgg hT, rest⟩
theorem OwnC.keep {B : Nat} {T : List Nat} {w w' : World} {e : TypeId} {g n cap : Nat} {xs : List Int} (h : OwnC B w e (.slice (some ⟨g, 0, none⟩) n cap) xs) (hg : Gr T w w') (hT : g ∉ T) : OwnC B w' e (.slice (some ⟨g, 0, none⟩) n cap) xs := by
  rcases h with ⟨h1, _⟩ | ⟨g', cap', cur, e1, h2, h3, r⟩
  · cases h1
  · cases e1; exact .inr ⟨g, cap, cur, rfl, h2, hg.obj h3 hT, r⟩
theorem ints_set (D : List Nat) (i a : Nat) : ints (D.set i a) = (ints D).set i (a : Int) := by simp [ints, List.map_set]
theorem ints_mem {D : List Nat} {x : Int} : x ∈ ints D ↔ ∃ d ∈ D, x = (d : Int) := by
  unfold ints; rw [List.mem_map]; exact ⟨fun ⟨d, h, e⟩ => ⟨d, h, e.symm⟩, fun ⟨d, h, e⟩ => ⟨d, h, e.symm⟩⟩
theorem ints_below {xs : List Int} (h : ∀ x ∈ xs, 0 ≤ x ∧ x ≤ 63) : ∃ D, xs = ints D ∧ Below64 D := by
  refine ⟨xs.map Int.toNat, ?_, ?_⟩
  · unfold ints
    rw [List.map_map]
    conv => lhs; rw [← List.map_id xs]
    refine List.map_congr_left fun x hx => ?_
    have := h x hx
    simp only [id, Function.comp]; omega
  · intro d hd
    obtain ⟨x, hx, rfl⟩ := List.mem_map.1 hd
    have := h x hx; omega
theorem or_lt64 {a n : Nat} (ha : a < 64) (hn : n < 6) : a ||| 2 ^ n < 64 := by
  have : a ||| 2 ^ n < 2 ^ 6 := Nat.or_lt_two_pow (by omega) (Nat.pow_lt_pow_right (by omega) hn)
  omega
theorem pow_shl (n : Nat) (hn : n < 6) : IntKind.i64.wrap (1 * 2 ^ n) = ((2 ^ n : Nat) : Int) := by
  have : ∀ n : Fin 6, IntKind.i64.wrap (1 * 2 ^ n.val) = ((2 ^ n.val : Nat) : Int) := by decide +kernel
  exact this ⟨n, hn⟩
theorem or_shl {z y : Nat} (hz : z < 64) (hy : y < 6) : bits .or .i64 (z : Int) (wrap64 (2 ^ y)) = ((z ||| 2 ^ y : Nat) : Int) := by
  have h := pow_shl y hy
  rw [Int.one_mul] at h
  rw [← IntWalk.i64_left, h]
  refine i64_or z (2 ^ y) (by omega) ?_
  have := or_lt64 (show 0 < 64 by omega) hy
  simp at this; omega
def addN (n : Nat) (acc : List Nat) (x : List Int) : List Nat := (addT acc x).take n ++ acc.drop n
theorem addN_zero (acc : List Nat) (x : List Int) : addN 0 acc x = acc := by simp [addN]
theorem addN_all {acc : List Nat} {x : List Int} {n : Nat} (hx : x.length = acc.length) (hn : acc.length ≤ n) : addN n acc x = addT acc x := by
  unfold addN
  rw [List.take_of_length_le (by rw [addT_len hx]; exact hn), List.drop_eq_nil_of_le hn, List.append_nil]
theorem addN_len {acc : List Nat} {x : List Int} (hx : x.length = acc.length) (n : Nat) : (addN n acc x).length = acc.length := by
  unfold addN
  rw [List.length_append, List.length_take, List.length_drop, addT_len hx]; omega
theorem addN_get {acc : List Nat} {x : List Int} (hx : x.length = acc.length) {n : Nat} (hn : n < acc.length) : (addN n acc x)[n]? = acc[n]? := by
  unfold addN
  have h1 : ((addT acc x).take n).length = n := by rw [List.length_take, addT_len hx]; omega
  rw [List.getElem?_append_right (by omega), h1, Nat.sub_self, List.getElem?_drop, Nat.add_zero]
theorem addN_succ {acc : List Nat} {x : List Int} (hx : x.length = acc.length) {n : Nat} {a y : Nat} (ha : acc[n]? = some a) (hy : x[n]? = some (y : Int)) : (addN n acc x).set n (a ||| 2 ^ y) = addN (n + 1) acc x := by
  have hn := (List.getElem?_eq_some_iff.1 ha).1
  have h1 : ((addT acc x).take n).length = n := by rw [List.length_take, addT_len hx]; omega
  have h2 : (addT acc x)[n]? = some (a ||| 2 ^ y) := by unfold addT; rw [List.getElem?_zipWith, ha, hy]; simp
  unfold addN
  rw [List.set_append_right _ _ (by omega), h1, Nat.sub_self, drop_cons ha, List.set_cons_zero]
  rw [List.take_succ_eq_append_getElem (by rw [addT_len hx]; exact hn)]
  obtain ⟨h3, h4⟩ := List.getElem?_eq_some_iff.1 h2
  rw [h4]; simp
theorem setAll_snoc {vs : List Int} {ss D : List Nat} {n : Nat} {v : Int} {s : Nat} (hv : vs[n]? = some v) (hs : ss[n]? = some s) : setAll (vs.take (n + 1)) (ss.take (n + 1)) D = (setAll (vs.take n) (ss.take n) D).set v.toNat s := by
  induction vs generalizing ss D n with
  | nil => simp at hv
  | cons u vs ih =>
    cases ss with
    | nil => simp at hs
    | cons t ss =>
      cases n with
      | zero => simp at hv hs; subst hv hs; simp [setAll]
      | succ n => simpa [setAll] using ih (D := D.set u.toNat t) (by simpa using hv) (by simpa using hs)
theorem addN_below {acc : List Nat} {x : List Int} (ha : Below64 acc) (hx : ∀ v ∈ x, 0 ≤ v ∧ v ≤ 5) (n : Nat) : Below64 (addN n acc x) := by
  have hT : Below64 (addT acc x) := by
    intro d hd
    unfold addT at hd
    obtain ⟨i, hi⟩ := List.mem_iff_getElem?.1 hd
    rw [List.getElem?_zipWith] at hi
    cases h1 : acc[i]? with
    | none => rw [h1] at hi; cases hi
    | some a =>
      cases h2 : x[i]? with
      | none => rw [h1, h2] at hi; cases hi
      | some v =>
        rw [h1, h2] at hi
        simp at hi; subst hi
        have := hx v (List.mem_of_getElem? h2)
        exact or_lt64 (ha a (List.mem_of_getElem? h1)) (by omega)
  intro d hd
  unfold addN at hd
  rcases List.mem_append.1 hd with h | h
  · exact hT d (List.mem_of_mem_take h)
  · exact ha d (List.mem_of_mem_drop h)
theorem suppFold_below {sat : List Int → Bool} {acc : List Nat} {ts : List (List Int)} (ha : Below64 acc) (ht : ∀ t ∈ ts, ∀ v ∈ t, 0 ≤ v ∧ v ≤ 5) : Below64 (suppFold sat acc ts) := by
  induction ts generalizing acc with
  | nil => exact ha
  | cons t r ih =>
    have h1 := addN_below ha (ht t (by simp)) (acc.length + (addT acc t).length)
    simp only [suppFold, List.foldl_cons]
    split
    · refine ih ?_ fun u hu => ht u (by simp [hu])
      unfold addN at h1
      rwa [List.take_of_length_le (by omega), List.drop_eq_nil_of_le (by omega), List.append_nil] at h1
    · exact ih ha fun u hu => ht u (by simp [hu])
theorem replicate_below (k : Nat) : Below64 (List.replicate k 0) := fun d hd => by have := List.eq_of_mem_replicate hd; omega
theorem supp_below {sat : List Int → Bool} {k : Nat} {ts : List (List Int)} (ht : ∀ t ∈ ts, ∀ v ∈ t, 0 ≤ v ∧ v ≤ 5) : Below64 (supp sat k ts) := suppFold_below (replicate_below k) ht
end Go.Proofs.YtmonhpoogfdpoaaGreat

namespace Go.Proofs.YtmonhpoogfdpoaaGreat
open Go.RowKit

theorem ConV.slices {S : List Nat} {w : World} {v : Value} {c : Con} (h : ConV S w v c) :
    ∃ vo vc ao ac ro rc, v = .agg #[.int .i64 c.kind, .slice vo c.vars.length vc, .slice ao c.args.length ac, .int .i64 c.bound, .slice ro c.rows.length rc] := by
  obtain ⟨vv, av, rv, rfl, ⟨vo, vc, rfl, _⟩, ⟨ao, ac, rfl, _⟩, ⟨ro, rc, rfl, _⟩⟩ := h
  exact ⟨_, _, _, _, _, _, rfl⟩
theorem CCells.at2 {S : List Nat} {w : World} {ao : Option Addr} {cs : List Con} (h : CCells S w ao cs) {k : Nat} {c : Con} (hi : cs[k]? = some c) :
    ∃ b o vo vc xo xc ro rc, ao = some ⟨b, o, none⟩ ∧ b ∉ S ∧ (w.cell? ⟨b, o + k * 5, none⟩ = some (.int .i64 c.kind) ∧ w.cell? ⟨b, o + k * 5 + 1, none⟩ = some (.slice vo c.vars.length vc) ∧ w.cell? ⟨b, o + k * 5 + 2, none⟩ = some (.slice xo c.args.length xc) ∧
     w.cell? ⟨b, o + k * 5 + 3, none⟩ = some (.int .i64 c.bound) ∧ w.cell? ⟨b, o + k * 5 + 4, none⟩ = some (.slice ro c.rows.length rc)) ∧ ConV S w (.agg #[.int .i64 c.kind, .slice vo c.vars.length vc, .slice xo c.args.length xc, .int .i64 c.bound, .slice ro c.rows.length rc]) c := by
  obtain ⟨b, o, vv, av, rv, e, hs, hc, hcon⟩ := h.at hi
  obtain ⟨vo, vc, xo, xc, ro, rc, e2⟩ := hcon.slices
  simp only [Value.agg.injEq] at e2
  have e3 := congrArg (fun a => a[1]?) e2
  have e4 := congrArg (fun a => a[2]?) e2
  have e5 := congrArg (fun a => a[4]?) e2
  simp only [List.getElem?_toArray, List.getElem?_cons_succ, List.getElem?_cons_zero, Option.some.injEq] at e3 e4 e5
  subst e3 e4 e5
  exact ⟨b, o, vo, vc, xo, xc, ro, rc, e, hs, hc, hcon⟩
end Go.Proofs.YtmonhpoogfdpoaaGreat

namespace Go.Proofs.YtmonhpoogfdpoaaGreat
open Go.RowKit

/-- An element's reading: it abides growth that spares its blocks. -/
structure ElOk {α : Type} (el : List Nat → World → List Value → α → Prop) : Prop where
  gr : ∀ {S w w' cs x}, el S w cs x → Gr S w w' → el S w' cs x
  sub : ∀ {S S' w cs x}, el S w cs x → (∀ b, b < w.heap.size → b ∈ S' → b ∈ S) → el S' w cs x

/-- A list in a block of its own, from block B on; its elements lie in blocks from B on, none of them the list's. -/
def OwnG {α : Type} (size : Nat) (el : List Nat → World → List Value → α → Prop) (B : Nat) (w : World) (e : TypeId) (v : Value) (xs : List α) : Prop :=
  ∃ css : List (List Value), css.length = xs.length ∧ (∀ cs ∈ css, cs.length = size ∧ ∀ u ∈ cs, u.oneCell' = true) ∧ w.ownsRow B e size v xs.length css.flatten ∧
    ∀ (i : Nat) cs x, css[i]? = some cs → xs[i]? = some x → ∀ S : List Nat, (∀ b ∈ S, b < B ∨ w.heap.size ≤ b ∨ v.ownBlock = some b) → el S w cs x

theorem ownsRow_ownBlock {w : World} {B e size n : Nat} {v : Value} {xs : List Value} (h : w.ownsRow B e size v n xs) {b : Nat} (hb : v.ownBlock = some b) : B ≤ b ∧ b < w.heap.size := by
  rcases h.2 with ⟨rfl, _⟩ | ⟨g, cap, cur, rfl, h1, h2, _⟩
  · cases hb
  · simp [Value.ownBlock] at hb; subst hb; exact ⟨h1, lt_of_block h2⟩

theorem OwnG.nil {α : Type} {size : Nat} {el : List Nat → World → List Value → α → Prop} (B : Nat) (w : World) (e : TypeId) : OwnG size el B w e (.slice none 0 0) [] :=
  ⟨[], rfl, by simp, World.ownsRow_nil _ _ _ _, by intro i cs x h; simp at h⟩
theorem OwnG.gr {α : Type} {size : Nat} {el : List Nat → World → List Value → α → Prop} (ok : ElOk el) {S : List Nat} {B : Nat} {w w' : World} {e : TypeId} {v : Value} {xs : List α} (h : OwnG size el B w e v xs) (hg : Gr S w w') (hS : ∀ b ∈ S, b < B) : OwnG size el B w' e v xs := by
  obtain ⟨css, h1, h2, h3, h4⟩ := h
  refine ⟨css, h1, h2, hg.ownsRow h3 hS, fun i cs x hi hx S0 hS0 => ?_⟩
  have := h4 i cs x hi hx (S ++ S0) (by
    intro b hb
    rcases List.mem_append.1 hb with hb | hb
    · exact .inl (hS b hb)
    · rcases hS0 b hb with h | h | h
      · exact .inl h
      · exact .inr (.inl (Nat.le_trans hg.size h))
      · exact .inr (.inr h))
  exact ok.sub (ok.gr this (hg.sub (fun k _ hk => by simp [hk]))) (fun b _ hb => by simp [hb])
theorem OwnG.slice {α : Type} {size : Nat} {el : List Nat → World → List Value → α → Prop} {B : Nat} {w : World} {e : TypeId} {v : Value} {xs : List α} (h : OwnG size el B w e v xs) : ∃ ao cap, v = .slice ao xs.length cap ∧ xs.length ≤ cap ∧ cap ≤ 9223372036854775807 ∧ (ao = none → cap = 0) := by
  obtain ⟨css, h1, h2, h3, h4⟩ := h
  rcases h3.2 with ⟨e1, h5⟩ | ⟨g, cap, cur, e1, _, _, h6, h7, _⟩
  · exact ⟨none, 0, by rw [e1, h5], by omega, by omega, fun _ => rfl⟩
  · exact ⟨_, _, e1, h6, by simp only [maxLen] at h7; omega, by simp⟩
theorem flatten_get {css : List (List Value)} {size : Nat} (h : ∀ cs ∈ css, cs.length = size) {i : Nat} {cs : List Value} (hi : css[i]? = some cs) {j : Nat} (hj : j < size) : css.flatten[i * size + j]? = cs[j]? := by
  induction css generalizing i with
  | nil => simp at hi
  | cons c r ih =>
    have hc := h c (by simp)
    cases i with
    | zero =>
      simp at hi; subst hi
      rw [List.flatten_cons, Nat.zero_mul, Nat.zero_add, List.getElem?_append_left (by omega)]
    | succ i =>
      rw [List.flatten_cons, List.getElem?_append_right (by rw [hc, Nat.succ_mul]; omega), hc]
      have e : (i + 1) * size + j - size = i * size + j := by rw [Nat.succ_mul]; omega
      rw [e]
      exact ih (fun x hx => h x (by simp [hx])) (by simpa using hi)
/-- An element's cells, where they lie. -/
theorem OwnG.cell {α : Type} {size : Nat} {el : List Nat → World → List Value → α → Prop} {B : Nat} {w : World} {e : TypeId} {v : Value} {xs : List α} (h : OwnG size el B w e v xs) {i : Nat} {x : α} (hi : xs[i]? = some x) :
    ∃ g cap cs, v = .slice (some ⟨g, 0, none⟩) xs.length cap ∧ B ≤ g ∧ g < w.heap.size ∧ cs.length = size ∧ (∀ j u, cs[j]? = some u → w.cell? ⟨g, 0 + (i * size + j), none⟩ = some u) ∧ (∀ j, w.frozen? ⟨g, j, none⟩ = false) ∧
      ∀ S : List Nat, (∀ b ∈ S, b < B ∨ w.heap.size ≤ b ∨ b = g) → el S w cs x := by
  obtain ⟨css, h1, h2, h3, h4⟩ := h
  have hil := (List.getElem?_eq_some_iff.1 hi).1
  obtain ⟨cs, hcs⟩ := get_some (xs := css) (k := i) (by omega)
  have hlen := (h2 cs (List.mem_of_getElem? hcs)).1
  rcases h3.2 with ⟨e1, h5⟩ | ⟨g, cap, cur, e1, hb, hg, h6, h7, h8, h9⟩
  · omega
  · refine ⟨g, cap, cs, e1, hb, lt_of_block hg, hlen, fun j u hj => ?_, fun j => by simp [World.frozen?, hg], fun S hS => h4 i cs x hcs hi S fun b hb => ?_⟩
    · have hjl := (List.getElem?_eq_some_iff.1 hj).1
      have e2 := flatten_get (fun c hc => (h2 c hc).1) hcs (j := j) (by omega)
      rw [← h9, hj, List.getElem?_take] at e2
      split at e2
      · rw [Nat.zero_add]; simp only [World.cell?, hg]; simpa using e2
      · cases e2
    · rcases hS b hb with h | h | h
      · exact .inl h
      · exact .inr (.inl h)
      · exact .inr (.inr (by rw [e1, h]; rfl))

theorem wp_appG {α : Type} {P : Program} {w : World} {ops : Array Oper} {rest : List Oper} {o : Oper} {a : Act} {Q : Exit → Act → World → Prop} (hgd : o.guard = none) (s x : Operand) (t : TypeId)
    (ho : o.op = .call { callee := .builtin .append, args := #[s, x], argTypes := #[t, t] }) (size : Nat) (el : List Nat → World → List Value → α → Prop) (ok : ElOk el) (B : Nat) (e : TypeId) (z : Value) (bytes : Nat)
    (hinfo : (P.info? e).map (fun i => (i.zero, i.size, i.bytes)) = some (some z, size, bytes)) (hzs : z.cells.size = size) (hsz : 0 < size) (hby : bytes ≤ 100)
    (ht : P.underlying t = some (.slice e)) (v : Value) (xs : List α) (hs : a.eval s = v) (hown : OwnG size el B w e v xs) (g c : Nat) (y : α) (cs : List Value) (hx : a.eval x = .slice (some ⟨g, 0, none⟩) 1 c)
    (hl : cs.length = size) (h1 : ∀ u ∈ cs, u.oneCell' = true) (hn : ∀ j u, cs[j]? = some u → w.cell? ⟨g, j, none⟩ = some u) (hel : ∀ S : List Nat, (∀ b ∈ S, b < B ∨ w.heap.size ≤ b ∨ v.ownBlock = some b) → el S w cs y)
    (hlen : xs.length ≤ 1000000) (hB : B ≤ w.heap.size)
    (h : ∀ v' w', OwnG size el B w' e v' (xs ++ [y]) → Gr v.ownBlock.toList w w' → wpList P ops Q rest (a.put o.dst v') w') : wpList P ops Q (o :: rest) a w := by
  obtain ⟨css, k1, k2, k3, k4⟩ := hown
  obtain ⟨i0, hi, hz0, hz1, hz2⟩ := info_parts hinfo
  have hbb : (xs.length + 1) * bytes ≤ (xs.length + 1) * 100 := Nat.mul_le_mul_left _ hby
  refine wpList_append_lies w hgd s x t ho B e i0 z size bytes ht hi hz0 hz1 hz2 hzs hsz v xs.length css.flatten hs k3 ⟨g, 0, none⟩ 1 c cs hx (by rw [hl]; simp) ?_ h1 (by omega) (by simp only [maxLen]; omega) (by omega) hB w.heap.size rfl ?_
  · intro j u hj
    have : (⟨g, 0, none⟩ : Addr).add j = ⟨g, j, none⟩ := by unfold Addr.add; split <;> simp_all
    rw [this]; exact hn j u hj
  · intro g' cap' w' hown' hgrow hwhere hlt
    have hgr : Gr v.ownBlock.toList w w' := ⟨hgrow.os, hgrow.tape, hgrow.output, hgrow.size, fun k hk hs => hgrow.block k hk (fun e => hs (by rw [← e]; simp))⟩
    refine h _ _ ⟨css ++ [cs], by simp [k1], ?_, ?_, ?_⟩ hgr
    · intro c hc
      rcases List.mem_append.1 hc with hc | hc
      · exact k2 c hc
      · simp at hc; subst hc; exact ⟨hl, h1⟩
    · rw [List.flatten_append]; simpa using hown'
    · have hcond : ∀ S : List Nat, (∀ b ∈ S, b < B ∨ w'.heap.size ≤ b ∨ (Value.slice (some ⟨g', 0, none⟩) (xs.length + 1) cap').ownBlock = some b) → ∀ b ∈ v.ownBlock.toList ++ S, b < B ∨ w.heap.size ≤ b ∨ v.ownBlock = some b := by
        intro S hS b hb
        rcases List.mem_append.1 hb with hb | hb
        · exact .inr (.inr (by simpa using hb))
        · rcases hS b hb with h | h | h
          · exact .inl h
          · exact .inr (.inl (Nat.le_trans hgr.size h))
          · simp [Value.ownBlock] at h
            subst h
            rcases hwhere with h | h
            · exact .inr (.inr h)
            · exact .inr (.inl (by omega))
      intro i c' x' hc hx' S hS
      have fin : ∀ c'' x'', el (v.ownBlock.toList ++ S) w c'' x'' → el S w' c'' x'' := fun c'' x'' h0 =>
        ok.sub (ok.gr h0 (hgr.sub (fun k _ hk => by simp at hk ⊢; exact .inl hk))) (fun b _ hb => by simp [hb])
      by_cases hlt : i < xs.length
      · rw [List.getElem?_append_left (by omega)] at hc
        rw [List.getElem?_append_left hlt] at hx'
        exact fin _ _ (k4 i c' x' hc hx' _ (hcond S hS))
      · have hi' : i = xs.length := by
          have := (List.getElem?_eq_some_iff.1 hx').1
          simp at this; omega
        subst hi'
        rw [List.getElem?_append_right (by omega), k1, Nat.sub_self] at hc
        rw [List.getElem?_append_right (by omega), Nat.sub_self] at hx'
        simp at hc hx'
        subst hc hx'
        exact fin _ _ (hel _ (hcond S hS))

/-! ### Rows of numbers -/
def elRow (S : List Nat) (w : World) (cs : List Value) (r : List Int) : Prop := ∃ u, cs = [u] ∧ Nums S w .i64 u r
theorem elRow_ok : ElOk elRow := ⟨fun ⟨u, e, h⟩ hg => ⟨u, e, h.gr hg⟩, fun ⟨u, e, h⟩ hs => ⟨u, e, h.sub hs⟩⟩
theorem OwnG.rows {B : Nat} {w : World} {e : TypeId} {v : Value} {rows : List (List Int)} (h : OwnG 1 elRow B w e v rows) {S : List Nat} (hS : ∀ b ∈ S, b < B ∨ w.heap.size ≤ b) : RowsV S w v rows := by
  obtain ⟨ao, cap, rfl, h1, h2, h3⟩ := h.slice
  refine ⟨ao, cap, rfl, ⟨h1, h2, h3⟩, fun i r hi => ?_⟩
  obtain ⟨g, cap', cs, e1, hb, hlt, hl, hc, hf, hel⟩ := h.cell hi
  cases e1
  obtain ⟨u, rfl, hn⟩ := hel S (fun b hb => (hS b hb).imp id .inl)
  refine ⟨g, 0, u, rfl, fun hm => by rcases hS g hm with h | h <;> omega, ?_, hn⟩
  have := hc 0 u rfl
  simpa using this

/-! ### Constraints -/
end Go.Proofs.YtmonhpoogfdpoaaGreat

namespace Go.Proofs.YtmonhpoogfdpoaaGreat
open Go.RowKit

theorem step_app1 {P : Program} {w : World} {ops : Array Oper} {o : Oper} {a : Act} {K : Act → World → Prop} {Q : Exit → Act → World → Prop} {E : Prop} (hgd : o.guard = none) (s x : Operand) (t : TypeId)
    (ho : o.op = .call { callee := .builtin .append, args := #[s, x], argTypes := #[t, t] }) (B : Nat) (e : TypeId) (hinfo : (P.info? e).map (fun i => (i.zero, i.size, i.bytes)) = some (some (.int .i64 0), 1, 8))
    (ht : P.underlying t = some (.slice e)) (v : Value) (xs : List Int) (hs : a.eval s = v) (hown : Own B w e v xs) (g c : Nat) (n : Int) (hx : a.eval x = .slice (some ⟨g, 0, none⟩) 1 c) (hn : w.cell? ⟨g, 0, none⟩ = some (.int .i64 n))
    (hlen : xs.length ≤ 1000000000000) (hB : B ≤ w.heap.size)
    (h : ∀ g' c' w', Own B w' e (.slice (some ⟨g', 0, none⟩) (xs.length + 1) c') (xs ++ [n]) → Below B w w' → K (a.put o.dst (.slice (some ⟨g', 0, none⟩) (xs.length + 1) c')) w') : if Region.wanted o (yielded ops a.tmps) = true then Oper.wp P o a w K Q else E := by
  obtain ⟨i0, hi, hz0, hz1, hz2⟩ := info_parts hinfo
  refine step_append_lies w hgd s x t ho B e i0 (.int .i64 0) 1 8 ht hi hz0 hz1 hz2 rfl (by decide) v xs.length _ hs hown ⟨g, 0, none⟩ 1 c [.int .i64 n] hx rfl ?_ (by simp [Value.oneCell']) (by omega) (by simp only [maxLen]; omega) (by omega) hB w.heap.size rfl ?_
  · intro j u hj
    match j, hj with
    | 0, hj => simp at hj; subst hj; simpa [Addr.add] using hn
    | j + 1, hj => simp at hj
  · intro g' cap' w' hown' hgrow hwh hlt
    exact h g' cap' w' (by simpa [Own] using hown') ((Below.refl _ _).grown hgrow hB fun k hk => (World.ownsRow.lt hown k hk).1)

theorem step_appG {α : Type} {P : Program} {w : World} {ops : Array Oper} {o : Oper} {a : Act} {K : Act → World → Prop} {Q : Exit → Act → World → Prop} {E : Prop} (hgd : o.guard = none) (s x : Operand) (t : TypeId)
    (ho : o.op = .call { callee := .builtin .append, args := #[s, x], argTypes := #[t, t] }) (size : Nat) (el : List Nat → World → List Value → α → Prop) (ok : ElOk el) (B : Nat) (e : TypeId) (z : Value) (bytes : Nat)
    (hinfo : (P.info? e).map (fun i => (i.zero, i.size, i.bytes)) = some (some z, size, bytes)) (hzs : z.cells.size = size) (hsz : 0 < size) (hby : bytes ≤ 100)
    (ht : P.underlying t = some (.slice e)) (v : Value) (xs : List α) (hs : a.eval s = v) (hown : OwnG size el B w e v xs) (g c : Nat) (y : α) (cs : List Value) (hx : a.eval x = .slice (some ⟨g, 0, none⟩) 1 c)
    (hl : cs.length = size) (h1 : ∀ u ∈ cs, u.oneCell' = true) (hn : ∀ j u, cs[j]? = some u → w.cell? ⟨g, j, none⟩ = some u) (hel : ∀ S : List Nat, (∀ b ∈ S, b < B ∨ w.heap.size ≤ b ∨ v.ownBlock = some b) → el S w cs y)
    (hlen : xs.length ≤ 1000000) (hB : B ≤ w.heap.size)
    (h : ∀ g' c' w', OwnG size el B w' e (.slice (some ⟨g', 0, none⟩) (xs.length + 1) c') (xs ++ [y]) → Gr v.ownBlock.toList w w' → K (a.put o.dst (.slice (some ⟨g', 0, none⟩) (xs.length + 1) c')) w') : if Region.wanted o (yielded ops a.tmps) = true then Oper.wp P o a w K Q else E := by
  obtain ⟨css, k1, k2, k3, k4⟩ := hown
  obtain ⟨i0, hi, hz0, hz1, hz2⟩ := info_parts hinfo
  have hbb : (xs.length + 1) * bytes ≤ (xs.length + 1) * 100 := Nat.mul_le_mul_left _ hby
  refine step_append_lies w hgd s x t ho B e i0 z size bytes ht hi hz0 hz1 hz2 hzs hsz v xs.length css.flatten hs k3 ⟨g, 0, none⟩ 1 c cs hx (by rw [hl]; simp) ?_ h1 (by omega) (by simp only [maxLen]; omega) (by omega) hB w.heap.size rfl ?_
  · intro j u hj
    have : (⟨g, 0, none⟩ : Addr).add j = ⟨g, j, none⟩ := by unfold Addr.add; split <;> simp_all
    rw [this]; exact hn j u hj
  · intro g' cap' w' hown' hgrow hwhere hlt
    have hgr : Gr v.ownBlock.toList w w' := ⟨hgrow.os, hgrow.tape, hgrow.output, hgrow.size, fun k hk hs => hgrow.block k hk (fun e => hs (by rw [← e]; simp))⟩
    refine h _ _ _ ⟨css ++ [cs], by simp [k1], ?_, ?_, ?_⟩ hgr
    · intro c hc
      rcases List.mem_append.1 hc with hc | hc
      · exact k2 c hc
      · simp at hc; subst hc; exact ⟨hl, h1⟩
    · rw [List.flatten_append]; simpa using hown'
    · have hcond : ∀ S : List Nat, (∀ b ∈ S, b < B ∨ w'.heap.size ≤ b ∨ (Value.slice (some ⟨g', 0, none⟩) (xs.length + 1) cap').ownBlock = some b) → ∀ b ∈ v.ownBlock.toList ++ S, b < B ∨ w.heap.size ≤ b ∨ v.ownBlock = some b := by
        intro S hS b hb
        rcases List.mem_append.1 hb with hb | hb
        · exact .inr (.inr (by simpa using hb))
        · rcases hS b hb with h | h | h
          · exact .inl h
          · exact .inr (.inl (Nat.le_trans hgr.size h))
          · simp [Value.ownBlock] at h
            subst h
            rcases hwhere with h | h
            · exact .inr (.inr h)
            · exact .inr (.inl (by omega))
      intro i c' x' hc hx' S hS
      have fin : ∀ c'' x'', el (v.ownBlock.toList ++ S) w c'' x'' → el S w' c'' x'' := fun c'' x'' h0 =>
        ok.sub (ok.gr h0 (hgr.sub (fun k _ hk => by simp at hk ⊢; exact .inl hk))) (fun b _ hb => by simp [hb])
      by_cases hlt : i < xs.length
      · rw [List.getElem?_append_left (by omega)] at hc
        rw [List.getElem?_append_left hlt] at hx'
        exact fin _ _ (k4 i c' x' hc hx' _ (hcond S hS))
      · have hi' : i = xs.length := by
          have := (List.getElem?_eq_some_iff.1 hx').1
          simp at this; omega
        subst hi'
        rw [List.getElem?_append_right (by omega), k1, Nat.sub_self] at hc
        rw [List.getElem?_append_right (by omega), Nat.sub_self] at hx'
        simp at hc hx'
        subst hc hx'
        exact fin _ _ (hel _ (hcond S hS))

end Go.Proofs.YtmonhpoogfdpoaaGreat

namespace Go.Proofs.YtmonhpoogfdpoaaGreat
open Go.RowKit

theorem block_cells {w : World} {g : Nat} {cur cur' : Array Value} {e : TypeId} (h : w.heap[g]? = some (.cells cur e (0, 0))) (i : Nat) (v : Value) : (w.setCell ⟨g, i, none⟩ v).heap[g]? = some (.cells (cur.setIfInBounds i v) e (0, 0)) := by
  simp [World.setCell, Array.getElem?_modify, h]
end Go.Proofs.YtmonhpoogfdpoaaGreat
