/-
  Numbering in order of meeting, in plain mathematics; the library's Index of numbers, exactly.
-/
import Derived.Test.YtmonhpoogfdpoaaGreatXBn
set_option linter.unusedVariables false
set_option linter.unusedSimpArgs false
namespace Go.Proofs.YtmonhpoogfdpoaaGreat
open Go.RowKit

theorem nextV_snoc {S : SS} {vs : List Int} {c : Nat} {v : Int} (h : vs[c]? = some v) (nx : List SS) : nextV S (vs.take (c + 1)) nx = hitL (nextV S (vs.take c) nx) (sufs S v) := by
  unfold nextV
  rw [List.take_add_one, h, List.foldl_append]; rfl
theorem nextL_snoc {layer : List SS} {a : Nat} {S : SS} (h : layer[a]? = some S) (nx : List SS) : nextL (layer.take (a + 1)) nx = nextV S vs6 (nextL (layer.take a) nx) := by
  unfold nextL
  rw [List.take_add_one, h, List.foldl_append]; rfl
theorem nextV_take (S : SS) (vs : List Int) (c : Nat) (nx : List SS) : nextV S (vs.take c) nx <+: nextV S vs nx := by
  conv => rhs; rw [← List.take_append_drop c vs]
  unfold nextV
  rw [List.foldl_append]
  exact nextV_pre S _ _
theorem nextL_take (layer : List SS) (a : Nat) (nx : List SS) : nextL (layer.take a) nx <+: nextL layer nx := by
  conv => rhs; rw [← List.take_append_drop a layer]
  unfold nextL
  rw [List.foldl_append]
  exact nextL_pre _ _
theorem nextVL_take {layer : List SS} {a : Nat} {S : SS} (h : layer[a]? = some S) (c : Nat) (nx : List SS) : nextV S (vs6.take c) (nextL (layer.take a) nx) <+: nextL layer nx := by
  refine (nextV_take S vs6 c _).trans ?_
  rw [← nextL_snoc h]
  exact nextL_take _ _ _

/-- The sets that the numbers stand for. -/
def nsets (NX : List SS) (ns : List Nat) : List SS := ns.map fun k => NX.getD k []
/-- Numbers that stand for the sets nx. -/
structure Nmb (NX : List SS) (ns : List Nat) (nx : List SS) : Prop where
  eq : nsets NX ns = nx
  lt : ∀ k ∈ ns, k < NX.length
theorem Nmb.nil (NX : List SS) : Nmb NX [] [] := ⟨rfl, by simp⟩
theorem getD_inj {NX : List SS} (hn : NX.Nodup) {a b : Nat} (ha : a < NX.length) (hb : b < NX.length) (h : NX.getD a [] = NX.getD b []) : a = b := by
  have e1 : NX[a]? = some (NX.getD a []) := by simp [List.getD_eq_getElem?_getD, ha]
  have e2 : NX[b]? = some (NX.getD a []) := by rw [h]; simp [List.getD_eq_getElem?_getD, hb]
  exact nodup_get hn e1 e2
section
variable {NX nx : List SS} {ns : List Nat} {r : SS} {k : Nat}
theorem Nmb.mem (h : Nmb NX ns nx) (hn : NX.Nodup) (hk : NX[k]? = some r) : k ∈ ns ↔ r ∈ nx := by
  have hkl := (List.getElem?_eq_some_iff.1 hk).1
  have e : NX.getD k [] = r := by simp [List.getD_eq_getElem?_getD, hk]
  rw [← h.eq]
  unfold nsets
  rw [List.mem_map]
  constructor
  · exact fun hm => ⟨k, hm, e⟩
  · rintro ⟨j, hj, e2⟩
    rw [getD_inj hn hkl (h.lt j hj) (by rw [e, e2])]; exact hj
theorem Nmb.idx (h : Nmb NX ns nx) (hn : NX.Nodup) (hk : NX[k]? = some r) (hm : k ∈ ns) : nx.idxOf r = ns.idxOf k := by
  have hkl := (List.getElem?_eq_some_iff.1 hk).1
  have e : NX.getD k [] = r := by simp [List.getD_eq_getElem?_getD, hk]
  rw [← h.eq, ← e]
  unfold nsets
  exact idxOf_map_inj (f := fun k => NX.getD k []) hm fun j hj e2 => getD_inj hn (h.lt j hj) hkl e2
theorem Nmb.add (h : Nmb NX ns nx) (hk : NX[k]? = some r) : Nmb NX (ns ++ [k]) (nx ++ [r]) := by
  have hkl := (List.getElem?_eq_some_iff.1 hk).1
  refine ⟨?_, fun j hj => ?_⟩
  · rw [← h.eq]; unfold nsets; simp [List.getD_eq_getElem?_getD, hk]
  · rcases List.mem_append.1 hj with hj | hj
    · exact h.lt j hj
    · obtain rfl := List.mem_singleton.1 hj; exact hkl
theorem Nmb.get (h : Nmb NX ns nx) {a : Nat} (ha : ns[a]? = some k) : ∃ S, nx[a]? = some S ∧ NX[k]? = some S := by
  have hkl := h.lt k (List.mem_of_getElem? ha)
  refine ⟨NX[k], ?_, List.getElem?_eq_getElem hkl⟩
  rw [← h.eq]; unfold nsets
  rw [List.getElem?_map, ha]; simp [List.getD_eq_getElem?_getD, hkl]
theorem Nmb.len (h : Nmb NX ns nx) : ns.length = nx.length := by rw [← h.eq]; simp [nsets]
end

theorem ints_mem' {ns : List Nat} {k : Nat} : (k : Int) ∈ ints ns ↔ k ∈ ns := by
  unfold ints
  rw [List.mem_map]
  constructor
  · rintro ⟨j, hj, e⟩; rwa [show k = j by omega]
  · exact fun h => ⟨k, h, rfl⟩
theorem ints_idx {ns : List Nat} {k : Nat} (h : k ∈ ns) : (ints ns).idxOf (k : Int) = ns.idxOf k :=
  idxOf_map_inj (f := fun n : Nat => (n : Int)) h fun j _ e => by omega
theorem ints_snoc (ns : List Nat) (k : Nat) : ints (ns ++ [k]) = ints ns ++ [(k : Int)] := by simp [ints]

def ixI (xs : List Int) (y : Int) : Int := if y ∈ xs then (xs.idxOf y : Int) else -1
/-- 'slices.Index', exactly. -/
theorem indexInt_x (xs : List Int) (y : Int) (v : Value) (w : World) (hv : Nums [] w .i64 v xs) :
    Calls Tryz.prog 44 #[v, .int .i64 y] w fun e w' => e = .returned (.int .i64 (ixI xs y)) ∧ Gr [] w w' := by
  obtain ⟨ao, cap, rfl, ⟨hlc, hcm, _⟩, hc⟩ := hv
  have hlen : xs.length ≤ 9223372036854775807 := by omega
  have Hc := hid hc; clear hc
  go_enter Tryz.func44, Tryz.ntmps44
  go_wp2_with fail
  go_loop [8] (fun i => ∃ n : Nat, n ≤ xs.length ∧ i = .int .i64 n ∧ (∀ (j : Nat) x, j < n → xs[j]? = some x → (x == y) = false)) (fun i => xs.length - (intOf i).toNat)
  case atStart => exact ⟨0, Nat.zero_le _, rfl, by intro j x hj; omega⟩
  case round =>
    obtain ⟨n, hn, rfl, hp⟩ := hrel
    have HP := hid hp; clear hp
    by_cases hlt : n < xs.length
    · obtain ⟨x, hx⟩ := get_some hlt
      obtain ⟨b, o, rfl, _, h0⟩ := Hc.out n x hx
      have HX := hid hx; clear hx
      cases hb : (y == x)
      · go_wp2_with fail
        exact ⟨⟨n + 1, by omega, by go_num, below_snoc HP.out HX.out (by rw [beq_eq_false_iff_ne] at hb ⊢; exact fun e => hb e.symm)⟩, by simp [intOf]; omega⟩
      · have hyx : y = x := by simpa using hb
        have Hyx := hid hyx; clear hyx
        go_wp2_with fail
        go_ret
        refine ⟨ret_int ?_, Gr.refl _ _⟩
        have hm : y ∈ xs := by rw [Hyx.out]; exact List.mem_of_getElem? HX.out
        unfold ixI
        rw [if_pos hm]
        have h1 : xs.idxOf y < xs.length := List.idxOf_lt_length_of_mem hm
        have h2 : xs[xs.idxOf y]? = some y := by rw [List.getElem?_eq_getElem h1, List.getElem_idxOf]
        have h3 : ¬ xs.idxOf y < n := fun h => by
          have := HP.out _ _ h h2
          simp at this
        have h4 : xs.idxOf y ≤ n := by
          have h5 := (List.getElem?_eq_some_iff.1 HX.out).2
          have : xs.idxOf y ≤ n := by
            rw [Hyx.out, ← h5]
            exact idxOf_getElem_le xs n hlt
          exact this
        omega
    · go_wp2_with fail
      go_ret
      refine ⟨ret_int ?_, Gr.refl _ _⟩
      unfold ixI
      rw [if_neg]
      intro h
      obtain ⟨j, hj, e⟩ := List.mem_iff_getElem.1 h
      have := HP.out j _ (by omega) (List.getElem?_eq_getElem hj)
      simp [e] at this
where
  idxOf_getElem_le : ∀ (l : List Int) (n : Nat) (h : n < l.length), l.idxOf l[n] ≤ n
    | a :: l, 0, h => by simp
    | a :: l, n + 1, h => by
      rw [List.getElem_cons_succ, List.idxOf_cons]
      cases hb : (a == l[n]'(by simpa using h))
      · have := idxOf_getElem_le l n (by simpa using h)
        simp only [cond_false]; omega
      · simp
end Go.Proofs.YtmonhpoogfdpoaaGreat
