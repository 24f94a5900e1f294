/-
  How many ways a diagram has, and which values lie on them, in plain mathematics. No program is mentioned.
-/
import Derived.Test.YtmonhpoogfdpoaaGreatXBe
set_option linter.unusedVariables false
namespace Go.Proofs.YtmonhpoogfdpoaaGreat

/-! ### Ways -/
def waysR (P : List Nat) (row : List Int) : Nat := (row.map fun to => if 0 ≤ to then P.getD to.toNat 0 else 0).sum
def pathsP : List (List (List Int)) → List (List Nat)
  | [] => [[1]]
  | layer :: r => layer.map (waysR ((pathsP r).headD [])) :: pathsP r
theorem pathsP_len : ∀ d, (pathsP d).length = d.length + 1
  | [] => rfl
  | l :: r => by rw [pathsP, List.length_cons, pathsP_len r, List.length_cons]
theorem pathsP_drop : ∀ (d : List (List (List Int))) (i : Nat), i ≤ d.length → (pathsP d).drop i = pathsP (d.drop i)
  | _, 0, _ => rfl
  | [], i + 1, h => by simp at h
  | l :: r, i + 1, h => by rw [pathsP, List.drop_succ_cons, List.drop_succ_cons, pathsP_drop r i (by simpa using h)]
theorem waysR_le {P : List Nat} {b : Nat} (h : ∀ x ∈ P, x ≤ b) : ∀ row : List Int, waysR P row ≤ row.length * b
  | [] => by simp [waysR]
  | to :: row => by
    have ih := waysR_le h row
    unfold waysR at ih ⊢
    rw [List.map_cons, List.sum_cons, List.length_cons, Nat.succ_mul]
    have h1 : (if 0 ≤ to then P.getD to.toNat 0 else 0) ≤ b := by
      split
      · rw [List.getD_eq_getElem?_getD]
        cases hx : P[to.toNat]? with
        | none => simp
        | some x => exact h x (List.mem_of_getElem? hx)
      · omega
    omega
theorem pathsP_le : ∀ (d : List (List (List Int))), (∀ L ∈ d, ∀ r ∈ L, r.length = 6) → ∀ x ∈ (pathsP d).headD [], x ≤ 6 ^ d.length
  | [], _, x, h => by simp [pathsP] at h; simp [h]
  | l :: r, h6, x, h => by
    have ih := pathsP_le r fun L hL => h6 L (by simp [hL])
    rw [pathsP] at h
    obtain ⟨row, hr, rfl⟩ := List.mem_map.1 (show x ∈ l.map _ from h)
    have h1 := waysR_le ih row
    rw [h6 l (by simp) row hr] at h1
    rw [List.length_cons, Nat.pow_succ]
    omega
theorem pathsP_dgm : ∀ (n : Nat) (layer : List SS), LayOk n layer → (pathsP (dgm n layer)).headD [] = layer.map List.length
  | 0, layer, h => by rw [layOk_end h]; rfl
  | n + 1, layer, h => by
    have ih := pathsP_dgm n _ h.next
    rw [dgm, pathsP, ih]
    show (layer.map _).map _ = _
    rw [List.map_map]
    refine List.map_congr_left fun S hS => ?_
    have hc := h.closed hS
    show waysR _ (rowP (nextL layer []) S) = _
    rw [good_size (h.el S hS).2]
    unfold waysR rowP
    rw [List.map_map]
    congr 1
    refine List.map_congr_left fun v hv => ?_
    simp only [Function.comp]
    by_cases h0 : sufs S v = []
    · rw [if_neg (by have := (ixL_neg (nx := nextL layer [])).2 h0; omega), h0]; rfl
    · rw [if_pos (by have := mt (ixL_neg (nx := nextL layer [])).1 h0; omega)]
      have := ixL_get ((hc v hv).resolve_left h0) h0
      simp [List.getD_eq_getElem?_getD, this]

/-! ### Values -/
def insI (xs : List Int) (x : Int) : List Int := if x ∈ xs then xs else xs ++ [x]
def hitE (met : List Int) (P : List Nat) (k : Nat) (to : Int) : Bool := decide ((k : Int) ∈ met) && decide (0 ≤ to) && decide (0 < P.getD to.toNat 0)
def stepE (met : List Int) (P : List Nat) (k : Nat) (st : Nat × List Int) (e : Int × Nat) : Nat × List Int := if hitE met P k e.1 then (st.1 ||| 2 ^ e.2, insI st.2 e.1) else st
def rowE (met : List Int) (P : List Nat) (k : Nat) (row : List Int) (st : Nat × List Int) : Nat × List Int := row.zipIdx.foldl (stepE met P k) st
def layE (met : List Int) (P : List Nat) (layer : List (List Int)) : Nat × List Int := layer.zipIdx.foldl (fun st e => rowE met P e.2 e.1 st) (0, [])
def domsP : List (List (List Int)) → List Int → List Nat
  | [], _ => []
  | layer :: r, met => (layE met ((pathsP r).headD []) layer).1 :: domsP r (layE met ((pathsP r).headD []) layer).2
theorem zipIdx_snoc {α : Type} {l : List α} {n : Nat} {x : α} (h : l[n]? = some x) : (l.take (n + 1)).zipIdx = (l.take n).zipIdx ++ [(x, n)] := by
  have hl := (List.getElem?_eq_some_iff.1 h).1
  rw [List.take_add_one, h, List.zipIdx_append]
  simp [List.length_take, Nat.min_eq_left (Nat.le_of_lt hl)]
theorem rowE_snoc {met : List Int} {P : List Nat} {k n : Nat} {row : List Int} {to : Int} (h : row[n]? = some to) (st : Nat × List Int) : rowE met P k (row.take (n + 1)) st = stepE met P k (rowE met P k (row.take n) st) (to, n) := by
  unfold rowE; rw [zipIdx_snoc h, List.foldl_append]; rfl
theorem layE_snoc {met : List Int} {P : List Nat} {n : Nat} {layer : List (List Int)} {row : List Int} (h : layer[n]? = some row) : layE met P (layer.take (n + 1)) = rowE met P n row (layE met P (layer.take n)) := by
  unfold layE; rw [zipIdx_snoc h, List.foldl_append]; rfl
theorem mem_insI {xs : List Int} {x y : Int} : y ∈ insI xs x ↔ y ∈ xs ∨ y = x := by
  unfold insI; split
  · rename_i h; constructor
    · exact .inl
    · rintro (h' | rfl) <;> assumption
  · simp
theorem rowE_iff (met : List Int) (P : List Nat) (k : Nat) : ∀ (es : List (Int × Nat)) (st : Nat × List Int), (∀ u, (es.foldl (stepE met P k) st).1.testBit u = true ↔ st.1.testBit u = true ∨ ∃ e ∈ es, hitE met P k e.1 = true ∧ e.2 = u) ∧
    (∀ x, x ∈ (es.foldl (stepE met P k) st).2 ↔ x ∈ st.2 ∨ ∃ e ∈ es, hitE met P k e.1 = true ∧ e.1 = x)
  | [], st => by simp
  | e :: es, st => by
    obtain ⟨h1, h2⟩ := rowE_iff met P k es (stepE met P k st e)
    rw [List.foldl_cons]
    cases hh : hitE met P k e.1
    · have e0 : stepE met P k st e = st := by unfold stepE; rw [hh]; rfl
      rw [e0] at h1 h2 ⊢
      refine ⟨fun u => ?_, fun x => ?_⟩
      · rw [h1]; simp [hh]
      · rw [h2]; simp [hh]
    · have e0 : stepE met P k st e = (st.1 ||| 2 ^ e.2, insI st.2 e.1) := by unfold stepE; rw [hh]; rfl
      rw [e0] at h1 h2 ⊢
      refine ⟨fun u => ?_, fun x => ?_⟩
      · rw [h1, Nat.testBit_or, Bool.or_eq_true, Nat.testBit_two_pow]
        simp [hh, or_assoc]
      · rw [h2, mem_insI]
        constructor
        · rintro ((h | rfl) | ⟨e', he, hh', rfl⟩)
          · exact .inl h
          · exact .inr ⟨e, by simp, hh, rfl⟩
          · exact .inr ⟨e', by simp [he], hh', rfl⟩
        · rintro (h | ⟨e', he, hh', rfl⟩)
          · exact .inl (.inl h)
          · rcases List.mem_cons.1 he with rfl | he
            · exact .inl (.inr rfl)
            · exact .inr ⟨e', he, hh', rfl⟩
theorem layE_iff (met : List Int) (P : List Nat) : ∀ (rs : List (List Int × Nat)) (st : Nat × List Int), (∀ u, (rs.foldl (fun st e => rowE met P e.2 e.1 st) st).1.testBit u = true ↔ st.1.testBit u = true ∨ ∃ r ∈ rs, ∃ to, r.1[u]? = some to ∧ hitE met P r.2 to = true) ∧
    (∀ x, x ∈ (rs.foldl (fun st e => rowE met P e.2 e.1 st) st).2 ↔ x ∈ st.2 ∨ ∃ r ∈ rs, x ∈ r.1 ∧ hitE met P r.2 x = true)
  | [], st => by simp
  | r :: rs, st => by
    obtain ⟨h1, h2⟩ := layE_iff met P rs (rowE met P r.2 r.1 st)
    obtain ⟨g1, g2⟩ := rowE_iff met P r.2 r.1.zipIdx st
    rw [List.foldl_cons]
    refine ⟨fun u => ?_, fun x => ?_⟩
    · rw [h1]
      have := g1 u
      unfold rowE
      rw [this]
      simp only [List.mem_cons, exists_eq_or_imp, or_assoc]
      refine or_congr_right (or_congr_left ?_)
      constructor
      · rintro ⟨⟨to, i⟩, hm, hh, rfl⟩
        exact ⟨to, (List.mem_zipIdx_iff_getElem?).1 hm, hh⟩
      · rintro ⟨to, hm, hh⟩
        exact ⟨(to, u), (List.mem_zipIdx_iff_getElem?).2 hm, hh, rfl⟩
    · rw [h2]
      have := g2 x
      unfold rowE
      rw [this]
      simp only [List.mem_cons, exists_eq_or_imp, or_assoc]
      refine or_congr_right (or_congr_left ?_)
      constructor
      · rintro ⟨⟨to, i⟩, hm, hh, rfl⟩
        exact ⟨List.mem_of_getElem? ((List.mem_zipIdx_iff_getElem?).1 hm), hh⟩
      · rintro ⟨hm, hh⟩
        obtain ⟨i, hi⟩ := List.mem_iff_getElem?.1 hm
        exact ⟨(x, i), (List.mem_zipIdx_iff_getElem?).2 hi, hh, rfl⟩
/-- What is met in a layer of sets, all of which are met. -/
theorem layE_dgm {n : Nat} {layer : List SS} (h : LayOk (n + 1) layer) (met : List Int) (hm : ∀ k : Nat, k < layer.length → (k : Int) ∈ met) :
    (∀ u, (layE met ((pathsP (dgm n (nextL layer []))).headD []) (layer.map (rowP (nextL layer [])))).1.testBit u = true ↔ u < 6 ∧ ∃ S ∈ layer, sufs S u ≠ []) ∧
    (∀ k : Nat, k < (nextL layer []).length → (k : Int) ∈ (layE met ((pathsP (dgm n (nextL layer []))).headD []) (layer.map (rowP (nextL layer [])))).2) := by
  rw [pathsP_dgm n _ h.next]
  obtain ⟨g1, g2⟩ := layE_iff met ((nextL layer []).map List.length) (layer.map (rowP (nextL layer []))).zipIdx (0, [])
  have hhit : ∀ (k : Nat) (S : SS) (v : Int), layer[k]? = some S → v ∈ vs6 → (hitE met ((nextL layer []).map List.length) k (ixL (nextL layer []) (sufs S v)) = true ↔ sufs S v ≠ []) := fun k S v hk hv => by
    have hS := List.mem_of_getElem? hk
    have hkm := hm k (List.getElem?_eq_some_iff.1 hk).1
    constructor
    · intro hh h0
      have := (ixL_neg (nx := nextL layer [])).2 h0
      simp only [hitE, Bool.and_eq_true, decide_eq_true_eq] at hh
      omega
    · intro h0
      have hin := ((h.closed hS v hv).resolve_left h0)
      have h1 := mt (ixL_neg (nx := nextL layer [])).1 h0
      have h2 := ixL_get hin h0
      simp only [hitE, Bool.and_eq_true, decide_eq_true_eq]
      refine ⟨⟨hkm, by omega⟩, ?_⟩
      simp only [List.getD_eq_getElem?_getD, List.getElem?_map, h2, Option.map_some, Option.getD_some]
      exact List.length_pos_iff.2 h0
  refine ⟨fun u => ?_, fun k hk => ?_⟩
  · have := g1 u
    unfold layE
    rw [this]
    simp only [Nat.zero_testBit, Bool.false_eq_true, false_or]
    constructor
    · rintro ⟨⟨r, k⟩, hr, to, hto, hh⟩
      have hr' := (List.mem_zipIdx_iff_getElem?).1 hr
      rw [List.getElem?_map] at hr'
      obtain ⟨S, hS, rfl⟩ := Option.map_eq_some_iff.1 hr'
      have hu : u < 6 := (List.getElem?_eq_some_iff.1 hto).1
      have hv : vs6[u]? = some (u : Int) := by
        rw [show vs6 = (List.range 6).map (fun n : Nat => (n : Int)) from rfl, List.getElem?_map, List.getElem?_range hu]; rfl
      simp only [rowP, List.getElem?_map, hv, Option.map_some, Option.some.injEq] at hto
      subst hto
      exact ⟨hu, S, List.mem_of_getElem? hS, (hhit k S u hS (List.mem_of_getElem? hv)).1 hh⟩
    · rintro ⟨hu, S, hS, h0⟩
      have hv : vs6[u]? = some (u : Int) := by
        rw [show vs6 = (List.range 6).map (fun n : Nat => (n : Int)) from rfl, List.getElem?_map, List.getElem?_range hu]; rfl
      obtain ⟨k, hk⟩ := List.mem_iff_getElem?.1 hS
      refine ⟨(rowP (nextL layer []) S, k), (List.mem_zipIdx_iff_getElem?).2 (by rw [List.getElem?_map, hk]; rfl), _, by simp only [rowP, List.getElem?_map, hv, Option.map_some], (hhit k S u hk (List.mem_of_getElem? hv)).2 h0⟩
  · have := g2 (k : Int)
    unfold layE
    rw [this]
    obtain ⟨T, hT⟩ := get_some hk
    rcases nextL_src layer [] T (List.mem_of_getElem? hT) with h' | ⟨S, hS, v, hv, rfl, h0⟩
    · simp at h'
    · obtain ⟨j, hj⟩ := List.mem_iff_getElem?.1 hS
      have e : ixL (nextL layer []) (sufs S v) = (k : Int) := by
        unfold ixL
        rw [if_neg h0]
        have hnd := nextL_nodup layer [] List.nodup_nil
        obtain ⟨hk', e⟩ := List.getElem?_eq_some_iff.1 hT
        rw [← e, List.Nodup.idxOf_getElem hnd k hk']
      refine .inr ⟨(rowP (nextL layer []) S, j), (List.mem_zipIdx_iff_getElem?).2 (by rw [List.getElem?_map, hj]; rfl), ?_, ?_⟩
      · rw [← e]; exact List.mem_map.2 ⟨v, hv, rfl⟩
      · rw [← e]; exact (hhit j S v hj hv).2 h0
/-- A layer's sets are what is left of the tuples. -/
theorem layer_rest {n : Nat} {layer : List SS} (h : LayOk (n + 1) layer) (p : List Int → Prop) : (∃ T ∈ nextL layer [], ∃ t ∈ T, p t) ↔ ∃ S ∈ layer, ∃ t ∈ S, p t.tail := by
  constructor
  · rintro ⟨T, hT, t, ht, hp⟩
    rcases nextL_src layer [] T hT with h' | ⟨S, hS, v, hv, rfl, h0⟩
    · simp at h'
    · exact ⟨S, hS, v :: t, mem_sufs.1 ht, hp⟩
  · rintro ⟨S, hS, t, ht, hp⟩
    obtain ⟨v, hv, r, hr, rfl⟩ := (good_mem (h.el S hS).2).1 ht
    exact ⟨sufs S v, nextL_mem layer [] S v hS hv (List.ne_nil_of_mem hr), r, hr, hp⟩
theorem domsP_dgm : ∀ (n : Nat) (layer : List SS) (met : List Int), LayOk n layer → (∀ k : Nat, k < layer.length → (k : Int) ∈ met) → ∀ i, i < n →
    ∃ a, (domsP (dgm n layer) met)[i]? = some a ∧ ∀ u, a.testBit u = true ↔ u < 6 ∧ ∃ S ∈ layer, ∃ t ∈ S, t[i]? = some (u : Int)
  | n + 1, layer, met, h, hm, 0, _ => by
    obtain ⟨g1, g2⟩ := layE_dgm h met hm
    refine ⟨_, rfl, fun u => ?_⟩
    rw [g1]
    refine and_congr_right fun hu => ?_
    constructor
    · rintro ⟨S, hS, h0⟩
      obtain ⟨r, hr⟩ := List.exists_mem_of_ne_nil _ h0
      exact ⟨S, hS, (u : Int) :: r, mem_sufs.1 hr, rfl⟩
    · rintro ⟨S, hS, t, ht, e⟩
      obtain ⟨v, hv, r, hr, rfl⟩ := (good_mem (h.el S hS).2).1 ht
      have : v = u := by simpa using e
      subst this
      exact ⟨S, hS, List.ne_nil_of_mem hr⟩
  | n + 1, layer, met, h, hm, i + 1, hi => by
    obtain ⟨g1, g2⟩ := layE_dgm h met hm
    obtain ⟨a, ha, hb⟩ := domsP_dgm n _ _ h.next g2 i (by omega)
    refine ⟨a, ha, fun u => ?_⟩
    rw [hb]
    refine and_congr_right fun hu => ?_
    rw [layer_rest h (fun t => t[i]? = some (u : Int))]
    refine exists_congr fun S => and_congr_right fun hS => exists_congr fun t => and_congr_right fun ht => ?_
    obtain ⟨v, hv, r, hr, rfl⟩ := (good_mem (h.el S hS).2).1 ht
    simp
/-- The satisfying tuples of a constraint on domains. -/
def tupC (c : Con) (D : List Nat) : SS := comps (satB c) ((wordN c.vars D).map vals)
theorem tupC_good (c : Con) (D : List Nat) : Good c.vars.length (tupC c D) := by
  have := good_comps ((wordN c.vars D).map vals) (satB c) fun vs hv => by obtain ⟨d, _, rfl⟩ := List.mem_map.1 hv; exact vals_dom d
  rwa [List.length_map, wordN_len] at this
theorem mem_tupC {c : Con} {D : List Nat} {t : List Int} : t ∈ tupC c D ↔ t ∈ tups (wordN c.vars D) ∧ satB c t = true := by
  unfold tupC comps; rw [List.mem_filter]; rfl
theorem domsP_filt {c : Con} {D : List Nat} (hc : VC c D.length) (h0 : tupC c D ≠ []) {i : Nat} {v : Int} (hv : c.vars[i]? = some v) :
    (domsP (dgm c.vars.length [tupC c D]) [0])[i]? = some ((filt c D).getD v.toNat 0) := by
  have hi := (List.getElem?_eq_some_iff.1 hv).1
  have hok : LayOk c.vars.length [tupC c D] := layS_ok (tupC_good c D) h0 0 (by omega)
  obtain ⟨a, ha, hb⟩ := domsP_dgm c.vars.length [tupC c D] [0] hok (fun k hk => by simp at hk; simp [hk]) i hi
  rw [ha]
  congr 1
  refine Nat.eq_of_testBit_eq fun u => ?_
  rw [Bool.eq_iff_iff, hb, filt_at hc hv]
  constructor
  · rintro ⟨hu, S, hS, t, ht, e⟩
    obtain rfl := List.mem_singleton.1 hS
    obtain ⟨h1, h2⟩ := mem_tupC.1 ht
    exact ⟨t, h1, h2, by simp [List.getD_eq_getElem?_getD, e]⟩
  · rintro ⟨t, h1, h2, e⟩
    obtain ⟨x, hx⟩ := get_some (xs := t) (k := i) (by rw [tups_len h1, wordN_len]; exact hi)
    have hxv := tups_val h1 x (List.mem_of_getElem? hx)
    have e2 : x.toNat = u := by simpa [List.getD_eq_getElem?_getD, hx] using e
    refine ⟨by omega, _, by simp, t, mem_tupC.2 ⟨h1, h2⟩, ?_⟩
    rw [hx]; congr 1; omega

/-! ### The model that has the constraint alone -/
def oneD (c : Con) (D : List Nat) : List Nat := (List.range D.length).map fun i : Nat => if (i : Int) ∈ c.vars then D.getD i 0 else 1
theorem comps_nodup {sat : List Int → Bool} : ∀ (Vs : List (List Int)), (∀ vs ∈ Vs, vs.Nodup) → (comps sat Vs).Nodup := by
  intro Vs h
  unfold comps
  refine List.Pairwise.filter _ ?_
  show (tupsL Vs).Nodup
  induction Vs with
  | nil => simp [tupsL]
  | cons vs r ih =>
    have ih' := ih fun u hu => h u (by simp [hu])
    rw [tupsL]
    have hv := h vs (by simp)
    clear h ih
    induction vs with
    | nil => simp
    | cons v vs ihv =>
      have hn := List.nodup_cons.1 hv
      rw [List.flatMap_cons, List.nodup_append]
      refine ⟨?_, ihv hn.2, fun a ha b hb e => ?_⟩
      · rw [List.nodup_iff_pairwise_ne, List.pairwise_map]
        exact List.Pairwise.imp (fun h e => h (by simpa using e)) (List.nodup_iff_pairwise_ne.1 ih')
      · obtain ⟨t, ht, rfl⟩ := List.mem_map.1 ha
        obtain ⟨u, hu, hb⟩ := List.mem_flatMap.1 hb
        obtain ⟨t', ht', rfl⟩ := List.mem_map.1 hb
        simp at e
        exact hn.1 (by rw [e.1]; exact hu)
theorem tups_nodup (D : List Nat) : (tups D).Nodup := by
  have := comps_nodup (sat := fun _ => true) (D.map vals) fun vs hv => by obtain ⟨d, _, rfl⟩ := List.mem_map.1 hv; exact (vals_dom d).nodup
  unfold comps at this
  rwa [List.filter_eq_self.2 fun _ _ => rfl] at this
theorem length_eq_of_bij {α β : Type} [DecidableEq α] [DecidableEq β] {l : List α} {m : List β} (f : α → β) (g : β → α) (hl : l.Nodup) (hm : m.Nodup) (hf : ∀ a ∈ l, f a ∈ m) (hg : ∀ b ∈ m, g b ∈ l) (hgf : ∀ a ∈ l, g (f a) = a) (hfg : ∀ b ∈ m, f (g b) = b) : l.length = m.length := by
  have h1 : (l.map f).Nodup := by
    rw [List.nodup_iff_pairwise_ne, List.pairwise_map]
    refine List.Pairwise.imp_of_mem (fun {a b} ha hb hne e => hne ?_) (List.nodup_iff_pairwise_ne.1 hl)
    rw [← hgf a ha, ← hgf b hb, e]
  have h2 : (m.map g).Nodup := by
    rw [List.nodup_iff_pairwise_ne, List.pairwise_map]
    refine List.Pairwise.imp_of_mem (fun {a b} ha hb hne e => hne ?_) (List.nodup_iff_pairwise_ne.1 hm)
    rw [← hfg a ha, ← hfg b hb, e]
  have k1 := List.Nodup.length_le_of_subset h1 (l₂ := m) fun x hx => by obtain ⟨a, ha, rfl⟩ := List.mem_map.1 hx; exact hf a ha
  have k2 := List.Nodup.length_le_of_subset h2 (l₂ := l) fun x hx => by obtain ⟨a, ha, rfl⟩ := List.mem_map.1 hx; exact hg a ha
  simp only [List.length_map] at k1 k2
  omega
theorem oneD_get {c : Con} {D : List Nat} {i : Nat} (hi : i < D.length) : (oneD c D)[i]? = some (if (i : Int) ∈ c.vars then D.getD i 0 else 1) := by
  unfold oneD; rw [List.getElem?_map, List.getElem?_range hi]; rfl
theorem oneD_len (c : Con) (D : List Nat) : (oneD c D).length = D.length := by simp [oneD]
theorem oneD_below {c : Con} {D : List Nat} (h : Below64 D) : Below64 (oneD c D) := by
  intro d hd
  obtain ⟨i, hi⟩ := List.mem_iff_getElem?.1 hd
  have hl := (List.getElem?_eq_some_iff.1 hi).1
  rw [oneD_len] at hl
  rw [oneD_get hl] at hi
  cases hi
  split
  · exact h _ (by simp [List.getD_eq_getElem?_getD, hl])
  · omega
/-- A tuple spread over the variables. -/
def spread (c : Con) (n : Nat) (t : List Int) : List Int := (List.range n).map fun i : Nat => if (i : Int) ∈ c.vars then t.getD (c.vars.idxOf (i : Int)) 0 else 0
theorem count_one {c : Con} {D : List Nat} (hc : VC c D.length) : (sols [c] (oneD c D)).length = (tupC c D).length := by
  have hrng := hc.rng
  refine length_eq_of_bij (word c.vars) (spread c D.length) ?_ ?_ ?_ ?_ ?_ ?_
  · exact List.Pairwise.filter _ (tups_nodup _)
  · exact comps_nodup _ fun vs hv => by obtain ⟨d, _, rfl⟩ := List.mem_map.1 hv; exact (vals_dom d).nodup
  · intro x hx
    obtain ⟨h1, h2⟩ := mem_sols.1 hx
    have hx' := mem_tups.1 (show x ∈ tups (oneD c D) from h1)
    refine mem_tupC.2 ⟨mem_tups.2 ⟨by simp [word, wordN], fun k u hu => ?_⟩, h2 c (by simp)⟩
    unfold word at hu
    rw [List.getElem?_map] at hu
    obtain ⟨v, hv, rfl⟩ := Option.map_eq_some_iff.1 hu
    have hvr := hrng v (List.mem_of_getElem? hv)
    have hvl : v.toNat < x.length := by rw [hx'.1, oneD_len]; omega
    obtain ⟨d, hd, hm⟩ := hx'.2 v.toNat x[v.toNat] (List.getElem?_eq_getElem hvl)
    rw [oneD_get (by omega), if_pos (by rw [Int.toNat_of_nonneg hvr.1]; exact List.mem_of_getElem? hv)] at hd
    cases hd
    exact ⟨_, wordN_get _ _ _ _ hv, by simpa [List.getD_eq_getElem?_getD, hvl] using hm⟩
  · intro t ht
    obtain ⟨h1, h2⟩ := mem_tupC.1 ht
    have ht' := mem_tups.1 h1
    have hw : word c.vars (spread c D.length t) = t := by
      refine List.ext_getElem? fun k => ?_
      unfold word
      rw [List.getElem?_map]
      by_cases hk : k < c.vars.length
      · have hv := List.getElem?_eq_getElem hk
        have hvr := hrng _ (List.mem_of_getElem? hv)
        have htk : k < t.length := by rw [ht'.1, wordN_len]; exact hk
        rw [hv, Option.map_some, List.getElem?_eq_getElem htk]
        congr 1
        unfold spread
        rw [List.getD_eq_getElem?_getD, List.getElem?_map, List.getElem?_range (by omega), Option.map_some, Option.getD_some, Int.toNat_of_nonneg hvr.1, if_pos (List.mem_of_getElem? hv), List.Nodup.idxOf_getElem hc.nd k hk]
        simp [List.getD_eq_getElem?_getD, htk]
      · rw [List.getElem?_eq_none (by omega), List.getElem?_eq_none (by rw [ht'.1, wordN_len]; omega)]; rfl
    refine mem_sols.2 ⟨?_, fun c' hc' => by obtain rfl := List.mem_singleton.1 hc'; rw [hw]; exact h2⟩
    refine mem_tups.2 ⟨by simp [spread, oneD], fun i x hx => ?_⟩
    have hi : i < D.length := by have := (List.getElem?_eq_some_iff.1 hx).1; simpa [spread] using this
    refine ⟨_, oneD_get hi, ?_⟩
    unfold spread at hx
    rw [List.getElem?_map, List.getElem?_range hi, Option.map_some] at hx
    cases hx
    by_cases hm : (i : Int) ∈ c.vars
    · rw [if_pos hm, if_pos hm]
      have hk := List.idxOf_lt_length_of_mem hm
      have htk : c.vars.idxOf (i : Int) < t.length := by rw [ht'.1, wordN_len]; exact hk
      obtain ⟨d, hd, hv⟩ := ht'.2 _ _ (List.getElem?_eq_getElem htk)
      rw [wordN_get _ _ _ (i : Int) (by rw [List.getElem?_eq_getElem hk, List.getElem_idxOf])] at hd
      cases hd
      simpa [List.getD_eq_getElem?_getD, htk] using hv
    · rw [if_neg hm, if_neg hm]
      exact mem_vals.2 ⟨0, rfl, by decide, by decide⟩
  · intro x hx
    obtain ⟨h1, h2⟩ := mem_sols.1 hx
    have hx' := mem_tups.1 (show x ∈ tups (oneD c D) from h1)
    refine List.ext_getElem? fun i => ?_
    unfold spread
    rw [List.getElem?_map]
    by_cases hi : i < D.length
    · have hxi : i < x.length := by rw [hx'.1, oneD_len]; exact hi
      rw [List.getElem?_range hi, Option.map_some, List.getElem?_eq_getElem hxi]
      congr 1
      by_cases hm : (i : Int) ∈ c.vars
      · rw [if_pos hm]
        have hk := List.idxOf_lt_length_of_mem hm
        unfold word
        rw [List.getD_eq_getElem?_getD, List.getElem?_map, List.getElem?_eq_getElem hk, Option.map_some, Option.getD_some, List.getElem_idxOf]
        simp [List.getD_eq_getElem?_getD, hxi]
      · rw [if_neg hm]
        obtain ⟨d, hd, hv⟩ := hx'.2 i _ (List.getElem?_eq_getElem hxi)
        rw [oneD_get hi, if_neg hm] at hd
        cases hd
        obtain ⟨n, e, hn6, hb⟩ := mem_vals.1 hv
        rw [e]
        have : n = 0 := by
          have := Nat.testBit_two_pow (n := 0) (m := n)
          simp at this
          rw [show (1 : Nat) = 2 ^ 0 from rfl, Nat.testBit_two_pow] at hb
          exact (by simpa using hb.symm : 0 = n).symm
        subst this; rfl
    · rw [List.getElem?_eq_none (by simp; omega), List.getElem?_eq_none (by rw [hx'.1, oneD_len]; omega)]; rfl
  · intro t ht
    obtain ⟨h1, h2⟩ := mem_tupC.1 ht
    have ht' := mem_tups.1 h1
    refine List.ext_getElem? fun k => ?_
    unfold word
    rw [List.getElem?_map]
    by_cases hk : k < c.vars.length
    · have hv := List.getElem?_eq_getElem hk
      have hvr := hrng _ (List.mem_of_getElem? hv)
      have htk : k < t.length := by rw [ht'.1, wordN_len]; exact hk
      rw [hv, Option.map_some, List.getElem?_eq_getElem htk]
      congr 1
      unfold spread
      rw [List.getD_eq_getElem?_getD, List.getElem?_map, List.getElem?_range (by omega), Option.map_some, Option.getD_some, Int.toNat_of_nonneg hvr.1, if_pos (List.mem_of_getElem? hv), List.Nodup.idxOf_getElem hc.nd k hk]
      simp [List.getD_eq_getElem?_getD, htk]
    · rw [List.getElem?_eq_none (by omega), List.getElem?_eq_none (by rw [ht'.1, wordN_len]; omega)]; rfl
end Go.Proofs.YtmonhpoogfdpoaaGreat
