/-
  The reduced diagram of a constraint, in plain mathematics. No program is mentioned.
-/
import Derived.Test.YtmonhpoogfdpoaaGreatXFP
set_option linter.unusedVariables false
namespace Go.Proofs.YtmonhpoogfdpoaaGreat

/-- A set of completions: a list of tuples. -/
abbrev SS := List (List Int)
def vs6 : List Int := [0, 1, 2, 3, 4, 5]
def sufs (S : SS) (v : Int) : SS := (S.filter fun t => t.head? == some v).map List.tail
def hitL (nx : List SS) (r : SS) : List SS := if r = [] ∨ r ∈ nx then nx else nx ++ [r]
def ixL (nx : List SS) (r : SS) : Int := if r = [] then -1 else (nx.idxOf r : Int)
def nextV (S : SS) (vs : List Int) (nx : List SS) : List SS := vs.foldl (fun n v => hitL n (sufs S v)) nx
def nextL (layer : List SS) (nx : List SS) : List SS := layer.foldl (fun n S => nextV S vs6 n) nx
def rowP (nx : List SS) (S : SS) : List Int := vs6.map fun v => ixL nx (sufs S v)
def dgm : Nat → List SS → List (List (List Int))
  | 0, _ => []
  | n + 1, layer => layer.map (rowP (nextL layer [])) :: dgm n (nextL layer [])

theorem hitL_pre (nx : List SS) (r : SS) : nx <+: hitL nx r := by
  unfold hitL; split
  · exact List.prefix_refl _
  · exact List.prefix_append _ _
theorem nextV_pre (S : SS) : ∀ (vs : List Int) (nx : List SS), nx <+: nextV S vs nx
  | [], nx => List.prefix_refl _
  | v :: vs, nx => (hitL_pre nx _).trans (nextV_pre S vs _)
theorem nextL_pre : ∀ (layer : List SS) (nx : List SS), nx <+: nextL layer nx
  | [], nx => List.prefix_refl _
  | S :: layer, nx => (nextV_pre S vs6 nx).trans (nextL_pre layer _)
theorem hitL_mem (nx : List SS) {r : SS} (h : r ≠ []) : r ∈ hitL nx r := by
  unfold hitL; split
  · rename_i h'; exact h'.resolve_left h
  · simp
theorem nextV_mem (S : SS) : ∀ (vs : List Int) (nx : List SS) (v : Int), v ∈ vs → sufs S v ≠ [] → sufs S v ∈ nextV S vs nx
  | u :: vs, nx, v, hv, hne => by
    rcases List.mem_cons.1 hv with rfl | hv
    · exact (nextV_pre S vs (hitL nx (sufs S v))).subset (hitL_mem nx hne)
    · exact nextV_mem S vs _ v hv hne
theorem nextL_mem : ∀ (layer : List SS) (nx : List SS) (S : SS) (v : Int), S ∈ layer → v ∈ vs6 → sufs S v ≠ [] → sufs S v ∈ nextL layer nx
  | T :: layer, nx, S, v, hS, hv, hne => by
    rcases List.mem_cons.1 hS with rfl | hS
    · exact (nextL_pre layer (nextV S vs6 nx)).subset (nextV_mem S vs6 nx v hv hne)
    · exact nextL_mem layer _ S v hS hv hne
theorem ixL_pre {nx nx' : List SS} {r : SS} (h : nx <+: nx') (hr : r = [] ∨ r ∈ nx) : ixL nx' r = ixL nx r := by
  obtain ⟨e, rfl⟩ := h
  unfold ixL
  split
  · rfl
  · rename_i h'
    rw [List.idxOf_append, if_pos (hr.resolve_left h')]
theorem hitL_src {nx : List SS} {r x : SS} (h : x ∈ hitL nx r) : x ∈ nx ∨ (x = r ∧ r ≠ []) := by
  unfold hitL at h
  split at h
  · exact .inl h
  · rename_i h'
    rw [not_or] at h'
    rcases List.mem_append.1 h with h | h
    · exact .inl h
    · exact .inr ⟨by simpa using h, h'.1⟩
theorem nextV_src (S : SS) : ∀ (vs : List Int) (nx : List SS) (x : SS), x ∈ nextV S vs nx → x ∈ nx ∨ ∃ v ∈ vs, x = sufs S v ∧ x ≠ []
  | [], nx, x, h => .inl h
  | v :: vs, nx, x, h => by
    rcases nextV_src S vs _ x h with h | ⟨u, hu, e⟩
    · rcases hitL_src h with h | ⟨e, hne⟩
      · exact .inl h
      · exact .inr ⟨v, by simp, e, by rw [e]; exact hne⟩
    · exact .inr ⟨u, by simp [hu], e⟩
theorem nextL_src : ∀ (layer : List SS) (nx : List SS) (x : SS), x ∈ nextL layer nx → x ∈ nx ∨ ∃ S ∈ layer, ∃ v ∈ vs6, x = sufs S v ∧ x ≠ []
  | [], nx, x, h => .inl h
  | S :: layer, nx, x, h => by
    rcases nextL_src layer _ x h with h | ⟨T, hT, e⟩
    · rcases nextV_src S vs6 nx x h with h | ⟨v, hv, e⟩
      · exact .inl h
      · exact .inr ⟨S, by simp, v, hv, e⟩
    · exact .inr ⟨T, by simp [hT], e⟩
theorem hitL_nodup {nx : List SS} (r : SS) (h : nx.Nodup) : (hitL nx r).Nodup := by
  unfold hitL; split
  · exact h
  · rename_i h'
    rw [not_or] at h'
    rw [List.nodup_append]
    refine ⟨h, by simp, fun a ha b hb e => ?_⟩
    have : b = r := by simpa using hb
    exact h'.2 (by rw [← this, ← e]; exact ha)
theorem nextV_nodup (S : SS) : ∀ (vs : List Int) (nx : List SS), nx.Nodup → (nextV S vs nx).Nodup
  | [], nx, h => h
  | v :: vs, nx, h => nextV_nodup S vs _ (hitL_nodup _ h)
theorem nextL_nodup : ∀ (layer : List SS) (nx : List SS), nx.Nodup → (nextL layer nx).Nodup
  | [], nx, h => h
  | S :: layer, nx, h => nextL_nodup layer _ (nextV_nodup S vs6 nx h)
theorem hitL_len (nx : List SS) (r : SS) : (hitL nx r).length ≤ nx.length + 1 := by
  unfold hitL; split <;> simp
theorem nextV_len (S : SS) : ∀ (vs : List Int) (nx : List SS), (nextV S vs nx).length ≤ nx.length + vs.length
  | [], nx => by simp [nextV]
  | v :: vs, nx => by
    have h1 := nextV_len S vs (hitL nx (sufs S v))
    have h2 := hitL_len nx (sufs S v)
    rw [List.length_cons]
    exact Nat.le_trans h1 (by omega)
theorem nextL_len : ∀ (layer : List SS) (nx : List SS), (nextL layer nx).length ≤ nx.length + 6 * layer.length
  | [], nx => by simp [nextL]
  | S :: layer, nx => by
    have h1 := nextL_len layer (nextV S vs6 nx)
    have h2 := nextV_len S vs6 nx
    have h3 : vs6.length = 6 := rfl
    rw [List.length_cons]
    exact Nat.le_trans h1 (by omega)
theorem ixL_ge (nx : List SS) (r : SS) : -1 ≤ ixL nx r := by unfold ixL; split <;> omega
theorem ixL_lt {nx : List SS} {r : SS} (hr : r = [] ∨ r ∈ nx) : ixL nx r < nx.length := by
  unfold ixL; split
  · omega
  · rename_i h; have := List.idxOf_lt_length_of_mem (hr.resolve_left h); omega
theorem ixL_neg {nx : List SS} {r : SS} : ixL nx r < 0 ↔ r = [] := by
  unfold ixL; split
  · rename_i h; simp [h]
  · rename_i h; simp [h]
theorem ixL_get {nx : List SS} {r : SS} (h : r ∈ nx) (h0 : r ≠ []) : nx[(ixL nx r).toNat]? = some r := by
  unfold ixL
  rw [if_neg h0, Int.toNat_natCast]
  rw [List.getElem?_eq_getElem (List.idxOf_lt_length_of_mem h), List.getElem_idxOf]
theorem ixL_inj {nx : List SS} {r s : SS} (hr : r = [] ∨ r ∈ nx) (hs : s = [] ∨ s ∈ nx) (h : ixL nx r = ixL nx s) : r = s := by
  by_cases h0 : r = []
  · have : ixL nx s < 0 := by rw [← h]; exact ixL_neg.2 h0
    rw [h0, ixL_neg.1 this]
  · have h1 : s ≠ [] := fun e => h0 (ixL_neg.1 (by rw [h]; exact ixL_neg.2 e))
    have e1 := ixL_get (hr.resolve_left h0) h0
    have e2 := ixL_get (hs.resolve_left h1) h1
    rw [h] at e1
    exact Option.some.inj (e1.symm.trans e2)

/-- A set of completions of length n that stands in the order of its first values. -/
def Good : Nat → SS → Prop
  | 0, S => S = [] ∨ S = [[]]
  | n + 1, S => S = vs6.flatMap (fun v => (sufs S v).map (v :: ·)) ∧ ∀ v ∈ vs6, Good n (sufs S v)
theorem good_nil : ∀ n, Good n []
  | 0 => .inl rfl
  | n + 1 => ⟨by simp [sufs], fun v _ => by simpa [sufs] using good_nil n⟩
theorem good_inj {n : Nat} {S S' : SS} (h : Good (n + 1) S) (h' : Good (n + 1) S') (e : ∀ v ∈ vs6, sufs S v = sufs S' v) : S = S' := by
  rw [h.1, h'.1]
  simp only [vs6, List.flatMap_cons, List.flatMap_nil]
  rw [e 0 (by decide), e 1 (by decide), e 2 (by decide), e 3 (by decide), e 4 (by decide), e 5 (by decide)]
theorem good_mem {n : Nat} {S : SS} (h : Good (n + 1) S) {t : List Int} : t ∈ S ↔ ∃ v ∈ vs6, ∃ r ∈ sufs S v, t = v :: r := by
  constructor
  · intro ht
    rw [h.1] at ht
    obtain ⟨v, hv, ht⟩ := List.mem_flatMap.1 ht
    obtain ⟨r, hr, rfl⟩ := List.mem_map.1 ht
    exact ⟨v, hv, r, hr, rfl⟩
  · rintro ⟨v, hv, r, hr, rfl⟩
    rw [h.1]
    exact List.mem_flatMap.2 ⟨v, hv, List.mem_map.2 ⟨r, hr, rfl⟩⟩
theorem mem_sufs {S : SS} {v : Int} {r : List Int} : r ∈ sufs S v ↔ v :: r ∈ S := by
  unfold sufs
  rw [List.mem_map]
  constructor
  · rintro ⟨t, ht, rfl⟩
    obtain ⟨h1, h2⟩ := List.mem_filter.1 ht
    cases t with
    | nil => simp at h2
    | cons u t =>
      have : u = v := by simpa using h2
      subst this; exact h1
  · intro h
    exact ⟨v :: r, List.mem_filter.2 ⟨h, by simp⟩, rfl⟩
theorem good_ne {n : Nat} {S : SS} (h : Good (n + 1) S) (h0 : S ≠ []) : ∃ v ∈ vs6, sufs S v ≠ [] := by
  obtain ⟨t, ht⟩ := List.exists_mem_of_ne_nil S h0
  obtain ⟨v, hv, r, hr, rfl⟩ := (good_mem h).1 ht
  exact ⟨v, hv, List.ne_nil_of_mem hr⟩
theorem good_len : ∀ (n : Nat) (S : SS), Good n S → ∀ t ∈ S, t.length = n ∧ ∀ x ∈ t, x ∈ vs6
  | 0, S, h, t, ht => by
    rcases h with rfl | rfl
    · simp at ht
    · have : t = [] := by simpa using ht
      subst this; simp
  | n + 1, S, h, t, ht => by
    obtain ⟨v, hv, r, hr, rfl⟩ := (good_mem h).1 ht
    obtain ⟨h1, h2⟩ := good_len n _ (h.2 v hv) r hr
    refine ⟨by simp [h1], fun x hx => ?_⟩
    rcases List.mem_cons.1 hx with rfl | hx
    · exact hv
    · exact h2 x hx
theorem good_size {n : Nat} {S : SS} (h : Good (n + 1) S) : S.length = (vs6.map fun v => (sufs S v).length).sum := by
  conv => lhs; rw [h.1]
  simp [vs6]

/-- The completions that a test lets pass. -/
def comps (sat : List Int → Bool) (Vs : List (List Int)) : SS := (tupsL Vs).filter sat
theorem comps_cons (sat : List Int → Bool) (vs : List Int) (Vs : List (List Int)) : comps sat (vs :: Vs) = vs.flatMap fun v => (comps (fun t => sat (v :: t)) Vs).map (v :: ·) := by
  unfold comps
  rw [tupsL, List.filter_flatMap]
  congr 1
  funext v
  rw [List.filter_map]
  rfl
theorem sufs_flat (X : Int → SS) (v : Int) : ∀ (vs : List Int), vs.Nodup → sufs (vs.flatMap fun u => (X u).map (u :: ·)) v = if v ∈ vs then X v else []
  | [], _ => rfl
  | u :: vs, h => by
    have hn := List.nodup_cons.1 h
    have ih := sufs_flat X v vs hn.2
    unfold sufs at ih ⊢
    rw [List.flatMap_cons, List.filter_append, List.map_append, ih, List.filter_map, List.map_map]
    by_cases e : v = u
    · subst e
      rw [if_neg hn.1, if_pos (by simp), List.append_nil]
      have h1 : (X v).filter ((fun t : List Int => t.head? == some v) ∘ (v :: ·)) = X v := List.filter_eq_self.2 fun t _ => by simp
      rw [h1]
      exact (List.map_congr_left fun t _ => rfl).trans (List.map_id _)
    · have h1 : (X u).filter ((fun t : List Int => t.head? == some v) ∘ (u :: ·)) = [] := List.filter_eq_nil_iff.2 fun t _ => by simp; exact fun h => e h.symm
      rw [h1]
      simp [e]
theorem sufs_comps (sat : List Int → Bool) (vs : List Int) (Vs : List (List Int)) (h : vs.Nodup) (v : Int) : sufs (comps sat (vs :: Vs)) v = if v ∈ vs then comps (fun t => sat (v :: t)) Vs else [] := by
  rw [comps_cons]; exact sufs_flat _ v vs h
/-- A list of values in rising order. -/
def DomL (vs : List Int) : Prop := ∃ p : Int → Bool, vs = vs6.filter p
theorem DomL.nodup {vs : List Int} (h : DomL vs) : vs.Nodup := by
  obtain ⟨p, rfl⟩ := h
  exact List.Pairwise.filter p (show vs6.Nodup by decide)
theorem flat_filter {α β : Type} (f : α → List β) (p : α → Bool) : ∀ l : List α, (l.filter p).flatMap f = l.flatMap fun a => if p a then f a else []
  | [] => rfl
  | a :: l => by
    rw [List.filter_cons, List.flatMap_cons]
    have ih := flat_filter f p l
    split
    · rw [List.flatMap_cons, ih]
    · rw [ih]; rfl
theorem good_comps : ∀ (Vs : List (List Int)) (sat : List Int → Bool), (∀ vs ∈ Vs, DomL vs) → Good Vs.length (comps sat Vs)
  | [], sat, _ => by
    unfold comps; rw [tupsL]
    cases h : sat []
    · exact .inl (by simp [h])
    · exact .inr (by simp [h])
  | vs :: Vs, sat, h => by
    have hv := h vs (by simp)
    refine ⟨?_, fun v hv6 => ?_⟩
    · conv => lhs; rw [comps_cons]
      obtain ⟨p, hp⟩ := id hv
      have e : ∀ v ∈ vs6, (if p v then (comps (fun t => sat (v :: t)) Vs).map (v :: ·) else []) = (sufs (comps sat (vs :: Vs)) v).map (v :: ·) := fun v h6 => by
        rw [sufs_comps _ _ _ hv.nodup]
        have : v ∈ vs ↔ p v = true := by rw [hp, List.mem_filter]; simp [h6]
        by_cases hpv : p v = true
        · rw [if_pos hpv, if_pos (this.2 hpv)]
        · rw [if_neg hpv, if_neg (fun h => hpv (this.1 h))]; rfl
      conv => lhs; rw [hp, flat_filter]
      simp only [vs6, List.flatMap_cons, List.flatMap_nil]
      rw [e 0 (by decide), e 1 (by decide), e 2 (by decide), e 3 (by decide), e 4 (by decide), e 5 (by decide)]
    · rw [sufs_comps _ _ _ hv.nodup]
      split
      · exact good_comps Vs _ fun u hu => h u (by simp [hu])
      · exact good_nil _
theorem vals_dom (d : Nat) : DomL (vals d) := ⟨fun v => d.testBit v.toNat, by
  unfold vals valsBelow
  rw [show vs6 = (List.range 6).map (fun n : Nat => (n : Int)) from rfl, List.filter_map]
  congr 1⟩
end Go.Proofs.YtmonhpoogfdpoaaGreat
