/-
  Lists whose elements lead to memory of their own, with the cells of whole numbers that each element leads to, in order.
-/
import Derived.Test.YtmonhpoogfdpoaaGreatDoorPCpCt
import Derived.Test.YtmonhpoogfdpoaaGreatDoorPLf
set_option linter.unusedVariables false
set_option linter.unusedSimpArgs false
namespace Go.Proofs.YtmonhpoogfdpoaaGreatDoor
open Go.RowKit

theorem NumsM.leaf {M : Nat → Prop} {w : World} {v : Value} {xs : List Int} (h : NumsM M w v xs) : ∀ a ∈ leavesN v, M a.block := by
  obtain ⟨ao, cap, rfl, h1, h2⟩ := h
  intro a ha
  cases ao with
  | none => simp [leavesN] at ha
  | some b0 =>
    simp only [leavesN, List.mem_map, List.mem_range] at ha
    obtain ⟨i, hi, rfl⟩ := ha
    obtain ⟨x, hx⟩ := get_some hi
    obtain ⟨b, o, e, hm, _⟩ := h2 i x hx
    cases e; exact hm
theorem leavesN_nodup (v : Value) : (leavesN v).Nodup := by
  unfold leavesN
  split
  · unfold List.Nodup
    rw [List.pairwise_map]
    exact List.nodup_range.imp fun h e => h (by simp at e; first | done | exact e)
  · exact List.nodup_nil
theorem RowsM.leaf {M : Nat → Prop} {w : World} {v : Value} {rows : List (List Int)} (h : RowsM M w v rows) : ∀ a ∈ leavesR w v, M a.block := by
  obtain ⟨ao, cap, rfl, h1, h2⟩ := h
  intro a ha
  cases ao with
  | none => simp [leavesR] at ha
  | some b0 =>
    simp only [leavesR, List.mem_flatMap, List.mem_range] at ha
    obtain ⟨i, hi, ha⟩ := ha
    obtain ⟨r, hr⟩ := get_some hi
    obtain ⟨b, o, u, e, hm, hc, hf, hn⟩ := h2 i r hr
    cases e
    rw [cellv_of hc] at ha
    exact (hn.leaf a ha).1
theorem RowsM.leaves_eq {M : Nat → Prop} {w w' : World} {v : Value} {rows : List (List Int)} (h : RowsM M w v rows) (k : ∀ a u, M a.block → w.cell? a = some u → w'.cell? a = some u) : leavesR w' v = leavesR w v := by
  obtain ⟨ao, cap, rfl, h1, h2⟩ := h
  cases ao with
  | none => rfl
  | some a =>
    simp only [leavesR, List.flatMap]
    congr 1
    refine List.map_congr_left fun i hi => ?_
    obtain ⟨r, hr⟩ := get_some (xs := rows) (k := i) (by simpa using hi)
    obtain ⟨b, o, u, e, hm, hc, hf, hn⟩ := h2 i r hr
    cases e
    rw [cellv_of hc, cellv_of (k _ _ hm hc)]
theorem RowsM.leaves_gr {M : Nat → Prop} {S : List Nat} {w w' : World} {v : Value} {rows : List (List Int)} (h : RowsM M w v rows) (hg : Gr S w w') (hS : ∀ b ∈ S, ¬ M b) : leavesR w' v = leavesR w v :=
  h.leaves_eq fun a u hm hu => hg.cell hu fun hs => hS _ hs hm
theorem ConM.parts {M : Nat → Prop} {w : World} {k b : Int} {vv av rv : Value} {c : Con} (h : ConM M w (.agg #[.int .i64 k, vv, av, .int .i64 b, rv]) c) : NumsM M w vv c.vars ∧ NumsM M w av c.args ∧ RowsM M w rv c.rows := by
  obtain ⟨vv', av', rv', e2, n1, n2, n3⟩ := h
  simp only [Value.agg.injEq] at e2
  have e3 := congrArg (fun a => a[1]?) e2
  have e4 := congrArg (fun a => a[2]?) e2
  have e5 := congrArg (fun a => a[4]?) e2
  simp only [List.getElem?_toArray, List.getElem?_cons_succ, List.getElem?_cons_zero, Option.some.injEq] at e3 e4 e5
  subst e3 e4 e5
  exact ⟨n1, n2, n3⟩

def elRowL (S : List Nat) (w : World) (cs : List Value) (x : List Int × List Addr) : Prop := ∃ u, cs = [u] ∧ NumsM (fun b => b ∉ S) w u x.1 ∧ x.2 = leavesN u
theorem elRowL_ok : ElOk elRowL :=
  ⟨fun ⟨u, e, h, hl⟩ hg => ⟨u, e, h.gr' hg (fun b hb h => h hb) (fun b _ h => h), hl⟩,
   fun ⟨u, e, h, hl⟩ hs => ⟨u, e, h.move fun a v hM hc => ⟨hc, rfl, fun hm => hM (hs _ (World.block_lt_of_cell? _ a hc) hm)⟩, hl⟩⟩
def elConL (S : List Nat) (w : World) (cs : List Value) (x : Con × List Addr) : Prop :=
  ∃ vo vc xo xc ro rc, cs = [.int .i64 x.1.kind, .slice vo x.1.vars.length vc, .slice xo x.1.args.length xc, .int .i64 x.1.bound, .slice ro x.1.rows.length rc] ∧
    ConM (fun b => b ∉ S) w (.agg #[.int .i64 x.1.kind, .slice vo x.1.vars.length vc, .slice xo x.1.args.length xc, .int .i64 x.1.bound, .slice ro x.1.rows.length rc]) x.1 ∧
    x.2 = leavesN (.slice vo x.1.vars.length vc) ++ leavesN (.slice xo x.1.args.length xc) ++ leavesR w (.slice ro x.1.rows.length rc)
theorem elConL_ok : ElOk elConL :=
  ⟨fun ⟨a1, a2, a3, a4, a5, a6, e, h, hl⟩ hg => ⟨a1, a2, a3, a4, a5, a6, e, h.gr' hg (fun b hb h => h hb) (fun b _ h => h), by rw [h.parts.2.2.leaves_gr hg (fun b hb h => h hb)]; exact hl⟩,
   fun ⟨a1, a2, a3, a4, a5, a6, e, h, hl⟩ hs => ⟨a1, a2, a3, a4, a5, a6, e, h.move fun a v hM hc => ⟨hc, rfl, fun hm => hM (hs _ (World.block_lt_of_cell? _ a hc) hm)⟩, hl⟩⟩
theorem elConL.leaf {S : List Nat} {w : World} {cs : List Value} {x : Con × List Addr} (h : elConL S w cs x) : ∀ a ∈ x.2, a.block ∉ S := by
  obtain ⟨a1, a2, a3, a4, a5, a6, e, h, hl⟩ := h
  obtain ⟨n1, n2, n3⟩ := h.parts
  intro a ha
  rw [hl] at ha
  rcases List.mem_append.1 ha with ha | ha
  · rcases List.mem_append.1 ha with ha | ha
    · exact n1.leaf a ha
    · exact n2.leaf a ha
  · exact n3.leaf a ha
theorem ConsM.leaves_eq {M : Nat → Prop} {w w' : World} {v : Value} {cs : List Con} (h : ConsM M w v cs) (k : ∀ a u, M a.block → w.cell? a = some u → w'.cell? a = some u) : leavesCs w' v = leavesCs w v := by
  obtain ⟨ao, cap, rfl, h1, h2⟩ := id h
  cases ao with
  | none => rfl
  | some a =>
    obtain ⟨b, o, sp⟩ := a
    cases hcs : cs with
    | nil => subst hcs; rfl
    | cons c0 cr =>
      obtain ⟨b', o', _, _, _, e, hm, _⟩ := h2 0 c0 (by rw [hcs]; rfl)
      cases e
      rw [← hcs]
      simp only [leavesCs, List.flatMap]
      congr 1
      refine List.map_congr_left fun i hi => ?_
      obtain ⟨c, hc⟩ := get_some (xs := cs) (k := i) (by simpa using hi)
      obtain ⟨vv, av, rv, ⟨c0', c1, c2, c3, c4⟩, n1, n2, n3⟩ := h.cellE hc
      unfold leavesE
      rw [cellv_of c1, cellv_of c2, cellv_of c4, cellv_of (k _ _ hm c1), cellv_of (k _ _ hm c2), cellv_of (k _ _ hm c4), n3.leaves_eq k]
theorem ConsM.leaves_gr {M : Nat → Prop} {S : List Nat} {w w' : World} {v : Value} {cs : List Con} (h : ConsM M w v cs) (hg : Gr S w w') (hS : ∀ b ∈ S, ¬ M b) : leavesCs w' v = leavesCs w v :=
  h.leaves_eq fun a u hm hu => hg.cell hu fun hs => hS _ hs hm
theorem elRowL.m {S : List Nat} {w : World} {cs : List Value} {x : List Int × List Addr} (h : elRowL S w cs x) : elRowM S w cs x.1 := let ⟨u, e, h, _⟩ := h; ⟨u, e, h⟩
theorem elConL.m {S : List Nat} {w : World} {cs : List Value} {x : Con × List Addr} (h : elConL S w cs x) : elConM S w cs x.1 := let ⟨a1, a2, a3, a4, a5, a6, e, h, _⟩ := h; ⟨a1, a2, a3, a4, a5, a6, e, h⟩
theorem OwnG.mapE {α β : Type} {size : Nat} {el : List Nat → World → List Value → α → Prop} {el' : List Nat → World → List Value → β → Prop} {B : Nat} {w : World} {e : TypeId} {v : Value} {xs : List α} (h : OwnG size el B w e v xs) (f : α → β)
    (hf : ∀ S cs x, el S w cs x → el' S w cs (f x)) : OwnG size el' B w e v (xs.map f) := by
  obtain ⟨css, h1, h2, h3, h4⟩ := h
  refine ⟨css, by rw [List.length_map]; exact h1, h2, by rw [List.length_map]; exact h3, fun i cs y hi hy S hS => ?_⟩
  rw [List.getElem?_map] at hy
  obtain ⟨x, hx, rfl⟩ := Option.map_eq_some_iff.1 hy
  exact hf _ _ _ (h4 i cs x hi hx S hS)
theorem OwnG.rowsL {B : Nat} {w : World} {e : TypeId} {v : Value} {xs : List (List Int × List Addr)} (h : OwnG 1 elRowL B w e v xs) : RowsM (New B w) w v (xs.map Prod.fst) :=
  (h.mapE (el' := elRowM) Prod.fst (fun _ _ _ h => h.m)).rowsM
theorem OwnG.consL {B : Nat} {w : World} {e : TypeId} {v : Value} {xs : List (Con × List Addr)} (h : OwnG 5 elConL B w e v xs) : ConsM (New B w) w v (xs.map Prod.fst) :=
  (h.mapE (el' := elConM) Prod.fst (fun _ _ _ h => h.m)).consM
theorem flatMap_range {α β : Type} (xs : List α) (f : Nat → List β) (g : α → List β) (h : ∀ (i : Nat) x, xs[i]? = some x → f i = g x) : (List.range xs.length).flatMap f = xs.flatMap g := by
  rw [List.flatMap_def, List.flatMap_def]
  congr 1
  refine List.ext_getElem? fun i => ?_
  rw [List.getElem?_map, List.getElem?_map]
  by_cases hi : i < xs.length
  · obtain ⟨x, hx⟩ := get_some hi
    rw [List.getElem?_range hi, hx]; simp [h i x hx]
  · rw [List.getElem?_eq_none (by simpa using hi), List.getElem?_eq_none (by omega)]; rfl
/-- The cells that the rows lead to. -/
theorem OwnG.leavesR {B : Nat} {w : World} {e : TypeId} {v : Value} {xs : List (List Int × List Addr)} (h : OwnG 1 elRowL B w e v xs) : leavesR w v = xs.flatMap Prod.snd := by
  obtain ⟨ao, cap, rfl, h1, h2, h3⟩ := h.slice
  cases ao with
  | none =>
    have := h3 rfl
    have e0 : xs = [] := List.eq_nil_of_length_eq_zero (by omega)
    subst e0; rfl
  | some a =>
    refine flatMap_range xs _ Prod.snd fun i x hx => ?_
    obtain ⟨g, cap', cs, e1, hb, hlt, hl, hc, hf, hel⟩ := h.cell hx
    cases e1
    obtain ⟨u, rfl, hn, hll⟩ := hel [] (by simp)
    have := hc 0 u rfl
    simp only [Nat.mul_one, Nat.add_zero, Nat.zero_add] at this
    rw [hll]
    show leavesN (cellv w ⟨g, 0 + i, none⟩) = _
    rw [Nat.zero_add, cellv_of this]
theorem flat_disj {α β : Type} {xs : List α} {g : α → List β} (h : (xs.flatMap g).Nodup) {i j : Nat} {x y : α} (hi : xs[i]? = some x) (hj : xs[j]? = some y) (hij : i ≠ j) : ∀ a ∈ g x, a ∉ g y := by
  have h2 := (List.pairwise_flatMap.1 h).2
  rw [List.pairwise_iff_getElem] at h2
  obtain ⟨h3, rfl⟩ := List.getElem?_eq_some_iff.1 hi
  obtain ⟨h4, rfl⟩ := List.getElem?_eq_some_iff.1 hj
  intro a ha hb
  rcases Nat.lt_or_gt_of_ne hij with h | h
  · exact h2 i j h3 h4 h a ha a hb rfl
  · exact h2 j i h4 h3 h a hb a ha rfl
theorem flat_in {α β : Type} {xs : List α} {g : α → List β} (h : (xs.flatMap g).Nodup) {x : α} (hx : x ∈ xs) : (g x).Nodup := (List.pairwise_flatMap.1 h).1 x hx
/-- The cells that the constraints hold and lead to. -/
theorem OwnG.leavesC {B : Nat} {w : World} {e : TypeId} {v : Value} {xs : List (Con × List Addr)} (h : OwnG 5 elConL B w e v xs) (hn : (xs.flatMap Prod.snd).Nodup) :
    (leavesCs w v).Nodup ∧ ∀ a ∈ leavesCs w v, v.ownBlock = some a.block ∨ a ∈ xs.flatMap Prod.snd := by
  obtain ⟨ao, cap, rfl, h1, h2, h3⟩ := h.slice
  cases ao with
  | none => simp [leavesCs]
  | some a0 =>
    cases hxs : xs with
    | nil => simp [leavesCs]
    | cons x0 xr =>
    obtain ⟨g, cap', _, e1, _⟩ := h.cell (i := 0) (x := x0) (by rw [hxs]; rfl)
    cases e1
    rw [← hxs]
    have key : ∀ (i : Nat) x, xs[i]? = some x → ∃ l1 l2 l3, leavesE w g (0 + i * 5) = [⟨g, i * 5, none⟩] ++ l1 ++ l2 ++ [⟨g, i * 5 + 3, none⟩] ++ l3 ∧ x.2 = l1 ++ l2 ++ l3 := by
      intro i x hx
      obtain ⟨g', cap'', cs, e2, _, _, _, hc, _, hel⟩ := h.cell hx
      cases e2
      obtain ⟨vo, vc, xo, xc, ro, rc, rfl, _, hll⟩ := hel [] (by simp)
      have c1 := hc 1 _ rfl
      have c2 := hc 2 _ rfl
      have c4 := hc 4 _ rfl
      simp only [Nat.zero_add] at c1 c2 c4
      refine ⟨_, _, _, ?_, hll⟩
      unfold leavesE
      rw [Nat.zero_add, cellv_of c1, cellv_of c2, cellv_of c4]
    have hgb : ∀ a ∈ xs.flatMap Prod.snd, a.block ≠ g := by
      intro a ha e
      obtain ⟨x, hx, hax⟩ := List.mem_flatMap.1 ha
      obtain ⟨i, hi⟩ := List.mem_iff_getElem?.1 hx
      obtain ⟨g', cap'', cs, e2, _, _, _, hc, _, hel⟩ := h.cell hi
      cases e2
      exact (hel [g] (by simp)).leaf a hax (by simp [e])
    have mem : ∀ (i : Nat) x, xs[i]? = some x → ∀ a ∈ leavesE w g (0 + i * 5), a = ⟨g, i * 5, none⟩ ∨ a = ⟨g, i * 5 + 3, none⟩ ∨ a ∈ x.2 := by
      intro i x hx a ha
      obtain ⟨l1, l2, l3, e2, e3⟩ := key i x hx
      rw [e2] at ha
      rw [e3]
      simp only [List.mem_append, List.mem_singleton] at ha ⊢
      rcases ha with (((h | h) | h) | h) | h
      · exact .inl h
      · exact .inr (.inr (.inl (.inl h)))
      · exact .inr (.inr (.inl (.inr h)))
      · exact .inr (.inl h)
      · exact .inr (.inr (.inr h))
    have inx : ∀ (i : Nat) x, xs[i]? = some x → ∀ a ∈ x.2, a ∈ xs.flatMap Prod.snd := fun i x hx a ha => List.mem_flatMap.2 ⟨x, List.mem_of_getElem? hx, ha⟩
    refine ⟨List.pairwise_flatMap.2 ⟨fun i hi => ?_, ?_⟩, fun a ha => ?_⟩
    · obtain ⟨x, hx⟩ := get_some (xs := xs) (k := i) (by simpa using hi)
      obtain ⟨l1, l2, l3, e2, e3⟩ := key i x hx
      have hnx := flat_in hn (List.mem_of_getElem? hx)
      have hg1 : ∀ a ∈ x.2, a.block ≠ g := fun a ha => hgb a (inx i x hx a ha)
      show (leavesE w g (0 + i * 5)).Nodup
      rw [e3] at hnx hg1
      rw [e2]
      have g1 : ∀ a ∈ l1, a.block ≠ g := fun a h => hg1 a (by simp [h])
      have g2 : ∀ a ∈ l2, a.block ≠ g := fun a h => hg1 a (by simp [h])
      have g3 : ∀ a ∈ l3, a.block ≠ g := fun a h => hg1 a (by simp [h])
      simp only [List.nodup_append, List.mem_append] at hnx
      obtain ⟨⟨n1, n2, n12⟩, n3, n123⟩ := hnx
      refine List.nodup_append.2 ⟨List.nodup_append.2 ⟨List.nodup_append.2 ⟨List.nodup_append.2 ⟨by simp, n1, ?_⟩, n2, ?_⟩, by simp, ?_⟩, n3, ?_⟩
      · intro a ha b hb e
        simp at ha; subst ha; subst e
        exact g1 _ hb rfl
      · intro a ha b hb e
        subst e
        rcases List.mem_append.1 ha with h | h
        · simp at h; subst h; exact g2 _ hb rfl
        · exact n12 a h a hb rfl
      · intro a ha b hb e
        simp only [List.mem_singleton] at hb
        subst hb; subst e
        simp only [List.mem_append, List.mem_singleton] at ha
        rcases ha with (h | h) | h
        · simp at h
        · exact g1 _ h rfl
        · exact g2 _ h rfl
      · intro a ha b hb e
        subst e
        simp only [List.mem_append, List.mem_singleton] at ha
        rcases ha with ((h | h) | h) | h
        · subst h; exact g3 _ hb rfl
        · exact n123 a (.inl h) a hb rfl
        · exact n123 a (.inr h) a hb rfl
        · subst h; exact g3 _ hb rfl
    · refine List.Pairwise.imp_of_mem ?_ List.nodup_range
      intro i j hi hj hij a ha b hb' e
      subst e
      obtain ⟨x, hx⟩ := get_some (xs := xs) (k := i) (by simpa using hi)
      obtain ⟨y, hy⟩ := get_some (xs := xs) (k := j) (by simpa using hj)
      rcases mem i x hx a ha with h | h | h
      · subst h
        rcases mem j y hy _ hb' with h | h | h
        · first | (simp at h; done) | (simp at h; omega)
        · first | (simp at h; done) | (simp at h; omega)
        · exact hgb _ (inx j y hy _ h) rfl
      · subst h
        rcases mem j y hy _ hb' with h | h | h
        · first | (simp at h; done) | (simp at h; omega)
        · first | (simp at h; done) | (simp at h; omega)
        · exact hgb _ (inx j y hy _ h) rfl
      · rcases mem j y hy a hb' with h' | h' | h'
        · exact hgb a (inx i x hx a h) (by rw [h'])
        · exact hgb a (inx i x hx a h) (by rw [h'])
        · exact flat_disj hn hx hy hij a h h'
    · simp only [leavesCs, List.mem_flatMap, List.mem_range] at ha
      obtain ⟨i, hi, ha⟩ := ha
      obtain ⟨x, hx⟩ := get_some hi
      rcases mem i x hx a ha with h | h | h
      · subst h; exact .inl rfl
      · subst h; exact .inl rfl
      · exact .inr (inx i x hx a h)
end Go.Proofs.YtmonhpoogfdpoaaGreatDoor
