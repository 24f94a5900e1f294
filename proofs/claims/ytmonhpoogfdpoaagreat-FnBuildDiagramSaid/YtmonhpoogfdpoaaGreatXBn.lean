/-
  The memory of the program's maker of nodes.
-/
import Derived.Test.YtmonhpoogfdpoaaGreatXBm
import Derived.Test.YtmonhpoogfdpoaaGreatXOw
import Derived.Test.YtmonhpoogfdpoaaGreatXHJ
set_option linter.unusedVariables false
set_option linter.unusedSimpArgs false
namespace Go.Proofs.YtmonhpoogfdpoaaGreat
open Go.RowKit

def rowsD (D : List (List SS)) (i : Nat) : List (List Int) := (lay D i).map (rowP (lay D (i + 1)))
def cells6 (rows : List (List Int)) : List (List Value) := rows.map fun r => r.map (Value.int .i64)
/-- The blocks that making a node may write. -/
def wset (Nb : Nat) (mbs : List Nat) (svs : List Value) : List Nat := Nb :: (mbs ++ svs.flatMap fun s => s.ownBlock.toList)
theorem mem_wset {Nb b : Nat} {mbs : List Nat} {svs : List Value} : b ∈ wset Nb mbs svs ↔ b = Nb ∨ b ∈ mbs ∨ ∃ s ∈ svs, s.ownBlock = some b := by
  simp [wset, List.mem_flatMap]
structure MkP where
  B : Nat
  M : Nat
  Lb : Nat
  Nb : Nat
  c : Con
  vv : Value
  av : Value
  rv : Value
  dv : Value
  lc : Nat
  nc : Nat
  mbs : List Nat
  W : List Nat
structure MkOk (p : MkP) : Prop where
  ml : p.mbs.length = p.W.length
  nd : p.mbs.Nodup
  w4 : 1 ≤ p.W.length ∧ p.W.length ≤ 4
  b64 : Below64 p.W
  fit : ∀ x : List Int, x.length = p.W.length → (∀ v ∈ x, 0 ≤ v ∧ v ≤ 5) → Fit p.c x
  nc : p.W.length ≤ p.nc ∧ p.nc ≤ 1000
  lc : p.W.length ≤ p.lc ∧ p.lc ≤ 9223372036854775807
structure MkV (p : MkP) (w : World) (svs : List Value) (D : List (List SS)) : Prop where
  blk : w.heap[p.M]? = some (.cells #[.int .i64 p.c.kind, p.vv, p.av, .int .i64 p.c.bound, p.rv, p.dv, .slice (some ⟨p.Lb, 0, none⟩) p.W.length p.lc, .slice (some ⟨p.Nb, 0, none⟩) p.W.length p.nc] 52 (0, 0))
  con : ∀ S : List Nat, (∀ b ∈ S, b = p.Nb ∨ p.B ≤ b) → ConV S w (.agg #[.int .i64 p.c.kind, p.vv, p.av, .int .i64 p.c.bound, p.rv]) p.c
  dom : ∀ S : List Nat, (∀ b ∈ S, b = p.Nb ∨ p.B ≤ b) → Nums S w .i64 p.dv (ints p.W)
  ok : OkD p.W.length D
  lyr : ∀ (i : Nat) m, p.mbs[i]? = some m → w.cell? ⟨p.Lb, i, none⟩ = some (.map (some m)) ∧ w.heap[m]? = some (.map (esOf (rowsD D i)).toArray (rowsD D i).length)
  nod : w.heap[p.Nb]? = some (.cells svs.toArray 77 (0, 0))
  row : ∀ (i : Nat) s, svs[i]? = some s → OwnV 6 p.B w 74 s (cells6 (rowsD D i))
  sl : svs.length = p.W.length
  mB : p.M < p.B ∧ p.M ≠ p.Nb
  lw : p.Lb ∉ wset p.Nb p.mbs svs ∧ p.B ≤ p.Lb
  mb : ∀ m ∈ p.mbs, p.B ≤ m ∧ m ≠ p.Nb
  sn : ∀ s ∈ svs, ∀ b, s.ownBlock = some b → b ≠ p.Nb ∧ b ∉ p.mbs
  sd : ∀ (i j : Nat) s t b, svs[i]? = some s → svs[j]? = some t → s.ownBlock = some b → t.ownBlock = some b → i = j
  lt : ∀ b, b = p.Lb ∨ b ∈ wset p.Nb p.mbs svs → b < w.heap.size
section
variable {p : MkP} {w w' : World} {svs : List Value} {D : List (List SS)}
theorem MkV.gr (h : MkV p w svs D) {T : List Nat} (hg : Gr T w w') (hT : ∀ t ∈ T, p.B ≤ t ∧ t ≠ p.Lb ∧ t ∉ wset p.Nb p.mbs svs) : MkV p w' svs D where
  blk := hg.obj h.blk fun hm => by have := (hT _ hm).1; have := h.mB.1; omega
  con := fun S hS => ((h.con (T ++ S) fun b hb => by rcases List.mem_append.1 hb with hb | hb; exact .inr (hT b hb).1; exact hS b hb).gr (hg.sub fun k _ hk => List.mem_append.2 (.inl hk))).sub fun b _ hb => List.mem_append.2 (.inr hb)
  dom := fun S hS => ((h.dom (T ++ S) fun b hb => by rcases List.mem_append.1 hb with hb | hb; exact .inr (hT b hb).1; exact hS b hb).gr (hg.sub fun k _ hk => List.mem_append.2 (.inl hk))).sub fun b _ hb => List.mem_append.2 (.inr hb)
  ok := h.ok
  lyr := fun i m hm => ⟨hg.cell (h.lyr i m hm).1 fun hx => (hT _ hx).2.1 rfl, hg.obj (h.lyr i m hm).2 fun hx => (hT _ hx).2.2 (mem_wset.2 (.inr (.inl (List.mem_of_getElem? hm))))⟩
  nod := hg.obj h.nod fun hx => (hT _ hx).2.2 (mem_wset.2 (.inl rfl))
  row := fun i s hs => (h.row i s hs).keep hg fun g hg' hx => (hT _ hx).2.2 (mem_wset.2 (.inr (.inr ⟨s, List.mem_of_getElem? hs, hg'⟩)))
  sl := h.sl
  mB := h.mB
  lw := h.lw
  mb := h.mb
  sn := h.sn
  sd := h.sd
  lt := fun b hb => Nat.lt_of_lt_of_le (h.lt b hb) hg.size
theorem MkV.gr0 (h : MkV p w svs D) (hg : Gr [] w w') : MkV p w' svs D := h.gr hg (by simp)
theorem MkV.wB (h : MkV p w svs D) {b : Nat} (hb : b ∈ wset p.Nb p.mbs svs) : b = p.Nb ∨ p.B ≤ b := by
  rcases mem_wset.1 hb with hb | hb | ⟨s, hs, hb⟩
  · exact .inl hb
  · exact .inr (h.mb b hb).1
  · obtain ⟨i, hi⟩ := List.mem_iff_getElem?.1 hs
    exact .inr ((h.row i s hi).own hb).1
end
theorem rowsD_at (D : List (List SS)) (i : Nat) (L : List SS) (S : SS) (hi : i < D.length) (h : lay D i = L) : rowsD (D.set i (L ++ [S])) i = rowsD D i ++ [rowP (lay D (i + 1)) S] := by
  unfold rowsD
  rw [lay_set _ _ _ hi i, if_pos rfl, lay_set _ _ _ hi (i + 1), if_neg (by omega), h, List.map_append]
  rfl
theorem rowsD_off {n : Nat} {D : List (List SS)} (hk : OkD n D) (i : Nat) (L : List SS) (S : SS) (hi : i < D.length) (h : lay D i = L) {j : Nat} (hj : j ≠ i) (hjn : j < n) : rowsD (D.set i (L ++ [S])) j = rowsD D j := by
  unfold rowsD
  rw [lay_set _ _ _ hi j, if_neg hj, lay_set _ _ _ hi (j + 1)]
  split
  · rename_i e
    refine List.map_congr_left fun T hT => ?_
    obtain ⟨M, hM⟩ := get_some (xs := D) (k := j) (by rw [hk.len]; exact hjn)
    have hc := (hk.el j M T hM (by rw [← lay_of hM]; exact hT)).2.2
    rw [e, h] at hc
    rw [e, h]
    exact rowP_pre hc (List.prefix_append _ _)
  · rfl
/-! The rows tell the sets apart. -/
theorem map_nodup {α β : Type} {f : α → β} {l : List α} (h : l.Nodup) (hi : ∀ a ∈ l, ∀ b ∈ l, f a = f b → a = b) : (l.map f).Nodup := by
  rw [List.nodup_iff_pairwise_ne, List.pairwise_map]
  exact List.Pairwise.imp_of_mem (fun {a b} ha hb hne e => hne (hi a ha b hb e)) (List.nodup_iff_pairwise_ne.1 h)
theorem idxOf_map_inj {α β : Type} [BEq α] [LawfulBEq α] [BEq β] [LawfulBEq β] {f : α → β} {a : α} : ∀ {l : List α}, a ∈ l → (∀ b ∈ l, f b = f a → b = a) → (l.map f).idxOf (f a) = l.idxOf a
  | b :: l, ha, hi => by
    rw [List.map_cons, List.idxOf_cons, List.idxOf_cons]
    by_cases e : b = a
    · subst e; simp
    · have e2 : ¬ f b = f a := fun h => e (hi b (by simp) h)
      have h1 : (b == a) = false := by simpa using e
      have h2 : (f b == f a) = false := by simpa using e2
      rw [h1, h2, cond_false, cond_false, idxOf_map_inj ((List.mem_cons.1 ha).resolve_left fun h => e h.symm) fun c hc => hi c (by simp [hc])]
section
variable {n : Nat} {D : List (List SS)} {i : Nat} {S : SS}
theorem OkD.at (h : OkD n D) (hi : i < n) : D[i]? = some (lay D i) := by
  obtain ⟨L, hL⟩ := get_some (xs := D) (k := i) (by rw [h.len]; exact hi)
  rw [hL, lay_of hL]
theorem OkD.inj (h : OkD n D) (hi : i < n) (hg : Good (n - i) S) (hc : ClosedS (lay D (i + 1)) S) : ∀ T ∈ lay D i, rowP (lay D (i + 1)) T = rowP (lay D (i + 1)) S → T = S := fun T hT e => by
  obtain ⟨_, h2, h3⟩ := h.el i _ T (h.at hi) hT
  rw [show n - i = (n - i - 1) + 1 by omega] at h2 hg
  exact rowP_inj h2 hg h3 hc e
theorem rowsD_nodup (h : OkD n D) (hi : i < n) : (rowsD D i).Nodup :=
  map_nodup (h.nodup i _ (h.at hi)) fun a ha b hb e => by
    obtain ⟨_, h2, h3⟩ := h.el i _ b (h.at hi) hb
    exact h.inj hi h2 h3 a ha e
theorem rowsD_mem (h : OkD n D) (hi : i < n) (hg : Good (n - i) S) (hc : ClosedS (lay D (i + 1)) S) : rowP (lay D (i + 1)) S ∈ rowsD D i ↔ S ∈ lay D i := by
  unfold rowsD
  rw [List.mem_map]
  constructor
  · rintro ⟨T, hT, e⟩
    rw [← h.inj hi hg hc T hT e]; exact hT
  · exact fun hS => ⟨S, hS, rfl⟩
theorem rowsD_idx (h : OkD n D) (hi : i < n) (hg : Good (n - i) S) (hc : ClosedS (lay D (i + 1)) S) (hS : S ∈ lay D i) : (rowsD D i).idxOf (rowP (lay D (i + 1)) S) = (lay D i).idxOf S :=
  idxOf_map_inj hS (h.inj hi hg hc)
theorem key6_row {nx : List SS} (hc : ClosedS nx S) (hl : nx.length ≤ 10000) : Key6 (rowP nx S) :=
  ⟨rfl, fun x hx => by
    obtain ⟨v, hv, rfl⟩ := List.mem_map.1 hx
    have := ixL_lt (hc v hv); have := ixL_ge nx (sufs S v); omega⟩
theorem key6_rows (h : OkD n D) (hi : i < n) (hl : (lay D (i + 1)).length ≤ 10000) : ∀ r ∈ rowsD D i, Key6 r := fun r hr => by
  obtain ⟨T, hT, rfl⟩ := List.mem_map.1 hr
  exact key6_row (h.el i _ T (h.at hi) hT).2.2 hl
end
/-- How many nodes of layer j a node of layer i may lead to. -/
def grow (i j : Nat) : Nat := if j < i then 0 else 6 ^ (j - i)
theorem grow_step (i j : Nat) : 6 * grow (i + 1) j + (if j = i then 1 else 0) ≤ grow i j := by
  unfold grow
  by_cases h1 : j < i
  · rw [if_pos (by omega), if_pos h1, if_neg (by omega)]; omega
  · by_cases h2 : j = i
    · subst h2; simp
    · rw [if_neg (by omega), if_neg h1, if_neg h2, show j - i = (j - (i + 1)) + 1 by omega, Nat.pow_succ]; omega
theorem cells6_snoc (rows : List (List Int)) (r : List Int) : cells6 (rows ++ [r]) = cells6 rows ++ [r.map (Value.int .i64)] := by simp [cells6]
theorem nodup_get {α : Type} [BEq α] [LawfulBEq α] {l : List α} (h : l.Nodup) {i j : Nat} {x : α} (hi : l[i]? = some x) (hj : l[j]? = some x) : i = j := by
  obtain ⟨e1, e2⟩ := List.getElem?_eq_some_iff.1 hi
  obtain ⟨e3, e4⟩ := List.getElem?_eq_some_iff.1 hj
  rw [← List.Nodup.idxOf_getElem h i e1, ← List.Nodup.idxOf_getElem h j e3, e2, e4]
/-- A node more. -/
theorem MkV.add {p : MkP} {w w' : World} {svs : List Value} {D : List (List SS)} (hp : MkOk p) (h : MkV p w svs D) {i m : Nat} {s s' : Value} {S : SS} {L : List SS} (hi : i < p.W.length) (hL : lay D i = L) (hm : p.mbs[i]? = some m) (hs : svs[i]? = some s)
    (h0 : S ≠ []) (hgd : Good (p.W.length - i) S) (hc : ClosedS (lay D (i + 1)) S) (hn : S ∉ L)
    (h1 : w'.heap[m]? = some (.map (esOf (rowsD D i ++ [rowP (lay D (i + 1)) S])).toArray (rowsD D i ++ [rowP (lay D (i + 1)) S]).length)) (h2 : w'.heap[p.Nb]? = some (.cells (svs.set i s').toArray 77 (0, 0)))
    (h3 : OwnV 6 p.B w' 74 s' (cells6 (rowsD D i ++ [rowP (lay D (i + 1)) S]))) (hg : Gr (m :: p.Nb :: s.ownBlock.toList) w w')
    {g' : Nat} (hb : s'.ownBlock = some g') (hw : s.ownBlock = some g' ∨ w.heap.size ≤ g') :
    MkV p w' (svs.set i s') (D.set i (L ++ [S])) ∧ (∀ b ∈ wset p.Nb p.mbs (svs.set i s'), b ∈ wset p.Nb p.mbs svs ∨ w.heap.size ≤ b) ∧ GrD D (D.set i (L ++ [S])) := by
  have hDl := h.ok.len
  have hil : i < D.length := by omega
  have hDi : D[i]? = some L := by
    obtain ⟨M, hM⟩ := get_some hil
    rw [lay_of hM] at hL
    rw [hM, hL]
  obtain ⟨hok, hgrD⟩ := h.ok.add hDi h0 hgd hc hn
  have hmm := List.mem_of_getElem? hm
  have hsm := List.mem_of_getElem? hs
  have hmB := h.mb m hmm
  have hsub : ∀ b ∈ wset p.Nb p.mbs (svs.set i s'), b ∈ wset p.Nb p.mbs svs ∨ w.heap.size ≤ b := fun b hb' => by
    rcases mem_wset.1 hb' with hx | hx | ⟨t, ht, hx⟩
    · exact .inl (mem_wset.2 (.inl hx))
    · exact .inl (mem_wset.2 (.inr (.inl hx)))
    · rcases List.mem_or_eq_of_mem_set ht with ht | rfl
      · exact .inl (mem_wset.2 (.inr (.inr ⟨t, ht, hx⟩)))
      · rw [hb] at hx; cases hx
        rcases hw with hw | hw
        · exact .inl (mem_wset.2 (.inr (.inr ⟨s, hsm, hw⟩)))
        · exact .inr hw
  have hTw : ∀ t ∈ m :: p.Nb :: s.ownBlock.toList, t ∈ wset p.Nb p.mbs svs := fun t ht => by
    simp only [List.mem_cons, Option.mem_toList] at ht
    rcases ht with rfl | rfl | ht
    · exact mem_wset.2 (.inr (.inl hmm))
    · exact mem_wset.2 (.inl rfl)
    · exact mem_wset.2 (.inr (.inr ⟨s, hsm, ht⟩))
  have hTB : ∀ t ∈ m :: p.Nb :: s.ownBlock.toList, t = p.Nb ∨ p.B ≤ t := fun t ht => h.wB (hTw t ht)
  have hLb : p.Lb ∉ m :: p.Nb :: s.ownBlock.toList := fun hx => h.lw.1 (hTw _ hx)
  have hl1 := h.lt
  have hne : ∀ (j : Nat) t, svs[j]? = some t → j ≠ i → ∀ b, t.ownBlock = some b → b ∉ m :: p.Nb :: s.ownBlock.toList := fun j t ht hj b htb hx => by
    simp only [List.mem_cons, Option.mem_toList] at hx
    have hsn := h.sn t (List.mem_of_getElem? ht) b htb
    rcases hx with rfl | rfl | hx
    · exact hsn.2 hmm
    · exact hsn.1 rfl
    · exact hj (h.sd j i t s b ht hs htb hx)
  have get_set : ∀ (j : Nat) t, (svs.set i s')[j]? = some t → (j = i ∧ t = s') ∨ (j ≠ i ∧ svs[j]? = some t) := fun j t ht => by
    rw [List.getElem?_set] at ht
    by_cases e : i = j
    · subst e
      rw [if_pos rfl] at ht
      split at ht
      · exact .inl ⟨rfl, (Option.some.inj ht).symm⟩
      · cases ht
    · rw [if_neg e] at ht
      exact .inr ⟨fun e' => e e'.symm, ht⟩
  have hs'n : ∀ b, s'.ownBlock = some b → b ≠ p.Nb ∧ b ∉ p.mbs := fun b hb' => by
    rw [hb] at hb'; cases hb'
    rcases hw with hw | hw
    · exact h.sn s hsm _ hw
    · have e1 := hl1 p.Nb (.inr (mem_wset.2 (.inl rfl)))
      refine ⟨by omega, fun hx => ?_⟩
      have := hl1 _ (.inr (mem_wset.2 (.inr (.inl hx)))); omega
  have hs'd : ∀ (j : Nat) t b, svs[j]? = some t → j ≠ i → t.ownBlock = some b → s'.ownBlock ≠ some b := fun j t b ht hj htb hx => by
    rw [hb] at hx; cases hx
    rcases hw with hw | hw
    · exact hj (h.sd j i t s _ ht hs htb hw)
    · have := hl1 _ (.inr (mem_wset.2 (.inr (.inr ⟨t, List.mem_of_getElem? ht, htb⟩)))); omega
  have hgl := (h3.own hb).2
  refine ⟨⟨?_, fun S' hS' => ?_, fun S' hS' => ?_, hok, fun j m' hj => ?_, h2, fun j t ht => ?_, by rw [List.length_set]; exact h.sl, h.mB, ⟨fun hx => ?_, h.lw.2⟩, h.mb, fun t ht b hb' => ?_, fun j k t u b ht hu htb hub => ?_, fun b hb' => ?_⟩, hsub, hgrD⟩
  · refine hg.obj h.blk fun hx => ?_
    have := hTB _ hx; have := h.mB; omega
  · exact ((h.con ((m :: p.Nb :: s.ownBlock.toList) ++ S') fun b hb' => by rcases List.mem_append.1 hb' with hx | hx; exact hTB b hx; exact hS' b hx).gr (hg.sub fun k _ hk => List.mem_append.2 (.inl hk))).sub fun b _ hx => List.mem_append.2 (.inr hx)
  · exact ((h.dom ((m :: p.Nb :: s.ownBlock.toList) ++ S') fun b hb' => by rcases List.mem_append.1 hb' with hx | hx; exact hTB b hx; exact hS' b hx).gr (hg.sub fun k _ hk => List.mem_append.2 (.inl hk))).sub fun b _ hx => List.mem_append.2 (.inr hx)
  · obtain ⟨k1, k2⟩ := h.lyr j m' hj
    refine ⟨hg.cell k1 hLb, ?_⟩
    by_cases e : j = i
    · subst e
      rw [hm] at hj; cases hj
      rw [rowsD_at _ _ _ _ hil hL]; exact h1
    · have hjn : j < p.W.length := by have := (List.getElem?_eq_some_iff.1 hj).1; have := hp.ml; omega
      rw [rowsD_off h.ok _ _ _ hil hL e hjn]
      refine hg.obj k2 fun hx => ?_
      simp only [List.mem_cons, Option.mem_toList] at hx
      rcases hx with rfl | rfl | hx
      · exact e (nodup_get hp.nd hj hm)
      · exact (h.mb _ (List.mem_of_getElem? hj)).2 rfl
      · exact (h.sn s hsm _ hx).2 (List.mem_of_getElem? hj)
  · rcases get_set j t ht with ⟨rfl, rfl⟩ | ⟨e, ht'⟩
    · rw [rowsD_at _ _ _ _ hil hL]; exact h3
    · have hjn : j < p.W.length := by have := (List.getElem?_eq_some_iff.1 ht').1; have := h.sl; omega
      rw [rowsD_off h.ok _ _ _ hil hL e hjn]
      exact (h.row j t ht').keep hg fun g hg' => hne j t ht' e g hg'
  · rcases hsub _ hx with hx | hx
    · exact h.lw.1 hx
    · have := hl1 p.Lb (.inl rfl); omega
  · rcases List.mem_or_eq_of_mem_set ht with ht | rfl
    · exact h.sn t ht b hb'
    · exact hs'n b hb'
  · rcases get_set j t ht with ⟨rfl, rfl⟩ | ⟨e, ht'⟩
    · rcases get_set k u hu with ⟨rfl, rfl⟩ | ⟨e', hu'⟩
      · rfl
      · exact absurd htb (hs'd k u b hu' e' hub)
    · rcases get_set k u hu with ⟨rfl, rfl⟩ | ⟨e', hu'⟩
      · exact absurd hub (hs'd j t b ht' e htb)
      · exact h.sd j k t u b ht' hu' htb hub
  · rcases hb' with rfl | hb'
    · exact Nat.lt_of_lt_of_le (hl1 _ (.inl rfl)) hg.size
    · rcases mem_wset.1 hb' with hx | hx | ⟨t, ht, hx⟩
      · exact Nat.lt_of_lt_of_le (hl1 _ (.inr (mem_wset.2 (.inl hx)))) hg.size
      · exact Nat.lt_of_lt_of_le (hl1 _ (.inr (mem_wset.2 (.inr (.inl hx))))) hg.size
      · rcases List.mem_or_eq_of_mem_set ht with ht | rfl
        · exact Nat.lt_of_lt_of_le (hl1 _ (.inr (mem_wset.2 (.inr (.inr ⟨t, ht, hx⟩))))) hg.size
        · rw [hb] at hx; cases hx; exact hgl
end Go.Proofs.YtmonhpoogfdpoaaGreat
