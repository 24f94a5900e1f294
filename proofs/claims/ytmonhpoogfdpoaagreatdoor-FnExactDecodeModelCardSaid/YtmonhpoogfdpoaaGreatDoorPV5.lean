/-
  Walk of the program's reading of a list.
-/
import Derived.Test.YtmonhpoogfdpoaaGreatDoorPV4
import Derived.Test.YtmonhpoogfdpoaaGreatDoorPV3
import Derived.Test.YtmonhpoogfdpoaaGreatDoorPSj
import Derived.Deep.AppendLies
set_option linter.unusedVariables false
set_option linter.unusedSimpArgs false
namespace Go.Proofs.YtmonhpoogfdpoaaGreatDoor
open Go.RowKit
attribute [local go_sem] Oper.semAt_some
attribute [local go_sem] ByteArray.mk_append_mk

theorem atoi_I64 {s : Bs} {v : Int} (h : atoiO s = some v) : I64 v := by
  unfold atoiO at h
  split at h
  · rename_i v' h'
    cases h
    unfold Lib.atoiAll at h'
    split at h'
    · cases h'
    · dsimp only at h'
      split at h'
      · cases h'
      · cases h'
      · split at h'
        · cases h'
        · split at h'
          · cases h'
          · cases h'
            constructor <;> (split <;> omega)
  · cases h

theorem wpListIn_append_lies {F : Fence} {n : Nat} {P : Program} (w : World) {ops : Array Oper} {rest : List Oper} {o : Oper} {a : Act} {Q : Exit → Act → World → Prop}
    (hg : o.guard = none) (s x : Operand) (t : TypeId) (hop : o.op = Op.call { callee := Callee.builtin Builtin.append, args := #[s, x], argTypes := #[t, t] })
    (base : Nat) (e : TypeId) (i : TypeInfo) (z : Value) (size bytes : Nat) (h1 : P.underlying t = some (.slice e)) (h2 : P.info? e = some i) (h3 : i.zero = some z) (h4 : i.size = size) (h5 : i.bytes = bytes) (h6 : z.cells.size = size) (h7 : 0 < size)
    (v : Value) (k : Nat) (xs : List Value) (hs : a.eval s = v) (hown : w.ownsRow base e size v k xs) (ad : Addr) (m c : Nat) (news : List Value) (hx : a.eval x = .slice (some ad) m c) (hn : news.length = m * size)
    (hc : ∀ j u, news[j]? = some u → w.cell? (ad.add j) = some u) (h1c : ∀ u ∈ news, u.oneCell' = true) (hm : 0 < m) (b1 : k + m ≤ maxLen) (b2 : (k + m) * bytes ≤ 140737488355328) (b3 : base ≤ w.heap.size)
    (hK : ∀ g cap w', w'.ownsRow base e size (.slice (some ⟨g, 0, none⟩) (k + m) cap) (k + m) (xs ++ news) → w.grownBy w' v.ownBlock → (v.ownBlock = some g ∨ g = w.heap.size) → g < w'.heap.size → wpListIn F n P ops Q rest (a.put o.dst (.slice (some ⟨g, 0, none⟩) (k + m) cap)) w') :
    wpListIn F n P ops Q (o :: rest) a w := by
  refine wpListIn_plain hg fun K hK' => ?_
  obtain ⟨g, cap, w', hrun, r1, r2, r3, r4⟩ := run_append_lies (P := P) w t o.type base e i z size bytes h1 h2 h3 h4 h5 h6 h7 v k xs hown ad m c news hn hc h1c hm b1 b2 b3 w.heap.size rfl
  unfold Oper.wpIn
  refine ⟨?_, ?_⟩
  · simp [Oper.about, hop, resolve, Target.leads, Sem.run_pure]
  · rw [Oper.semAt_plain F _ _ (by rw [hop]; intro c hc'; cases hc')]
    simp [execOp, hop, resolve, invoke, builtin, hs, hx, hrun, Result.andThen]
    exact hK' _ _ (hK g cap w' r1 r2 r3 r4)
theorem own_low {B B' : Nat} {W : World} {t : TypeId} {v : Value} {xs : List Int} (h : Own B W t v xs) (hb : B' ≤ B) : Own B' W t v xs := by
  refine ⟨h.1, ?_⟩
  rcases h.2 with h | ⟨g, cap, cur, e1, e2, rest⟩
  · exact .inl h
  · exact .inr ⟨g, cap, cur, e1, Nat.le_trans hb e2, rest⟩
theorem heap4 (w : World) (a b c d : Obj) : (((((w.alloc a).alloc b).alloc c).alloc d).heap[w.heap.size]? = some a) ∧ (((((w.alloc a).alloc b).alloc c).alloc d).heap[w.heap.size + 1]? = some b) ∧ (((((w.alloc a).alloc b).alloc c).alloc d).heap[w.heap.size + 1 + 1]? = some c) ∧
    Gr [] w ((((w.alloc a).alloc b).alloc c).alloc d) := by
  have h1 := (Gr.refl [] (w.alloc a)).alloc b
  have h2 := (Gr.refl [] ((w.alloc a).alloc b)).alloc c
  have h3 := (Gr.refl [] (((w.alloc a).alloc b).alloc c)).alloc d
  have e1 := heap_alloc_new w a
  have e2 := heap_alloc_new (w.alloc a) b
  have e3 := heap_alloc_new ((w.alloc a).alloc b) c
  simp only [World.size_alloc] at e2 e3
  exact ⟨h3.obj (h2.obj (h1.obj e1 (by simp)) (by simp)) (by simp), h3.obj (h2.obj e2 (by simp)) (by simp), h3.obj e3 (by simp), ((((Gr.refl [] w).alloc a).alloc b).alloc c).alloc d⟩
theorem own_empty {B : Nat} {W : World} {t : TypeId} (h : W.heap[B]? = some (.cells #[] t (0, 0))) : Own B W t (.slice (some ⟨B, 0, none⟩) 0 0) [] :=
  ⟨rfl, .inr ⟨B, 0, #[], rfl, Nat.le_refl _, h, by simp, by simp [maxLen], by simp, by simp⟩⟩
theorem heap7 (w : World) (a b c d e f g : Obj) : ∃ W, W = ((((((w.alloc a).alloc b).alloc c).alloc d).alloc e).alloc f).alloc g ∧ W.heap[w.heap.size]? = some a ∧ W.heap[w.heap.size + 1]? = some b ∧ W.heap[w.heap.size + 2]? = some c ∧
    W.heap[w.heap.size + 3]? = some d ∧ W.heap[w.heap.size + 4]? = some e ∧ W.heap[w.heap.size + 5]? = some f ∧ W.heap[w.heap.size + 6]? = some g ∧ W.heap.size = w.heap.size + 7 ∧ Gr [] w W := by
  have h1 := (Gr.refl [] (w.alloc a)).alloc b
  have h2 := (Gr.refl [] ((w.alloc a).alloc b)).alloc c
  have h3 := (Gr.refl [] (((w.alloc a).alloc b).alloc c)).alloc d
  have h4 := (Gr.refl [] ((((w.alloc a).alloc b).alloc c).alloc d)).alloc e
  have h5 := (Gr.refl [] (((((w.alloc a).alloc b).alloc c).alloc d).alloc e)).alloc f
  have h6 := (Gr.refl [] ((((((w.alloc a).alloc b).alloc c).alloc d).alloc e).alloc f)).alloc g
  have e1 := heap_alloc_new w a
  have e2 := heap_alloc_new (w.alloc a) b
  have e3 := heap_alloc_new ((w.alloc a).alloc b) c
  have e4 := heap_alloc_new (((w.alloc a).alloc b).alloc c) d
  have e5 := heap_alloc_new ((((w.alloc a).alloc b).alloc c).alloc d) e
  have e6 := heap_alloc_new (((((w.alloc a).alloc b).alloc c).alloc d).alloc e) f
  have e7 := heap_alloc_new ((((((w.alloc a).alloc b).alloc c).alloc d).alloc e).alloc f) g
  simp only [World.size_alloc] at e2 e3 e4 e5 e6 e7
  refine ⟨_, rfl, ?_, ?_, ?_, ?_, ?_, ?_, ?_, by simp, ((((((Gr.refl [] w).alloc a).alloc b).alloc c |>.alloc d).alloc e).alloc f).alloc g⟩
  · exact h6.obj (h5.obj (h4.obj (h3.obj (h2.obj (h1.obj e1 (by simp)) (by simp)) (by simp)) (by simp)) (by simp)) (by simp)
  · exact h6.obj (h5.obj (h4.obj (h3.obj (h2.obj e2 (by simp)) (by simp)) (by simp)) (by simp)) (by simp)
  · exact h6.obj (h5.obj (h4.obj (h3.obj e3 (by simp)) (by simp)) (by simp)) (by simp)
  · exact h6.obj (h5.obj (h4.obj e4 (by simp)) (by simp)) (by simp)
  · exact h6.obj (h5.obj e5 (by simp)) (by simp)
  · exact h6.obj e6 (by simp)
  · exact e7
theorem mapM_snoc {α β : Type} (f : α → Option β) : ∀ (l : List α) (x : α), (l ++ [x]).mapM f = (l.mapM f).bind fun a => (f x).bind fun b => some (a ++ [b])
  | [], x => by cases h : f x <;> simp [h]
  | y :: l, x => by
    have ih := mapM_snoc f l x
    simp only [List.cons_append, List.mapM_cons, ih]
    cases f y <;> simp
    cases l.mapM f <;> simp
    cases f x <;> simp
theorem mapM_pre {α β : Type} (f : α → Option β) (l r : List α) (h : l.mapM f = none) : (l ++ r).mapM f = none := by
  rw [List.mapM_append, h]; rfl
theorem mapM_len {α β : Type} (f : α → Option β) : ∀ (l : List α) (r : List β), l.mapM f = some r → r.length = l.length
  | [], r, h => by simp at h; simp [← h]
  | y :: l, r, h => by
    rw [List.mapM_cons] at h
    cases h1 : f y with
    | none => simp [h1] at h
    | some a =>
      cases h2 : l.mapM f with
      | none => simp [h1, h2] at h
      | some b =>
        simp [h1, h2] at h
        subst h
        simp [mapM_len f l b h2]

theorem mapM_I64 : ∀ (l : List Bs) (r : List Int), l.mapM atoiO = some r → ∀ x ∈ r, I64 x
  | [], r, h => by intro x hx; simp at h; subst h; simp at hx
  | y :: l, r, h => by
    rw [List.mapM_cons] at h
    cases h1 : atoiO y with
    | none => simp [h1] at h
    | some a =>
      cases h2 : l.mapM atoiO with
      | none => simp [h1, h2] at h
      | some b =>
        simp [h1, h2] at h
        subst h
        intro x hx
        rcases List.mem_cons.1 hx with rfl | hx
        · exact atoi_I64 h1
        · exact mapM_I64 l b h2 x hx

set_option maxRecDepth 100000 in
set_option maxHeartbeats 1100000 in
theorem readList_c (s : Bs) (w : World) (hs : s.length ≤ 1100000) (hT : TabT w) :
    Calls Tryz.prog 53 #[.string ⟨s.toArray⟩] w fun e w' => ∃ v, e = .returned (.tuple #[v, .bool (rdL s).2]) ∧ Own w.heap.size w' 3 v (rdL s).1 ∧ Gr [] w w' := by
  refine (callsIn_wide (n := 0)).1 ?_
  refine callsIn_of_wp_marks Tryz.func53 rfl trivial ?_ rfl
  simp only [Tryz.ntmps53, List.size_toArray, List.length_cons, List.length_nil, Nat.reduceAdd, Nat.reduceSub, Array.replicate_succ, Array.replicate_zero, List.push_toArray, List.append_toArray, List.nil_append, List.cons_append]
  have HT := hid hT; clear hT
  by_cases h1 : s = [45]
  · subst h1
    gi_wp2_with fail
    have hr : rdL [45] = ([], true) := by unfold rdL; rw [if_pos rfl]
    obtain ⟨x1, x2, x3, x4⟩ := heap4 w (.cells #[.slice (some ⟨w.heap.size + 1 + 1, 0, none⟩) 0 0] 24) (.cells #[.bool true] 4) (.cells #[] 3) (.cells #[.slice (some ⟨w.heap.size + 1 + 1, 0, none⟩) 0 0] 24)
    generalize ((((w.alloc (.cells #[.slice (some ⟨w.heap.size + 1 + 1, 0, none⟩) 0 0] 24)).alloc (.cells #[.bool true] 4)).alloc (.cells #[] 3)).alloc (.cells #[.slice (some ⟨w.heap.size + 1 + 1, 0, none⟩) 0 0] 24)) = W at x1 x2 x3 x4 ⊢
    have fx1 := fld x1; have fx2 := fld x2
    refine ⟨.tuple #[.slice (some ⟨w.heap.size + 1 + 1, 0, none⟩) 0 0, .bool true], ?_, ⟨_, by rw [hr], ?_, x4⟩⟩
    · simp [results, Tryz.results53, go_sem, fx1, fx2]
    · rw [hr]; exact own_low (own_empty x3) (by omega)
  · have h1b : (s == [45]) = false := by simpa using h1
    have H1 := hid h1
    clear h1
    gi_wp2_with fail
    refine ⟨trivial, rfl, (callsIn_wide.2 (SplitSeq_c _ _)).mono ?_⟩
    rintro e wT ⟨rfl, hwT⟩
    obtain ⟨wz, hwz, hr2, hr3, har, hbo, hbs, hbp, hbz, hsz, hgT⟩ := heap7 w (.cells #[.slice none 0 0] 24) (.cells #[.bool false] 4) (.cells #[] 3) (.cells #[.slice (some ⟨w.heap.size + 1 + 1, 0, none⟩) 0 0] 24) (.cells #[.string ⟨s.toArray⟩] 9) (.cells #[.string ⟨#[44]⟩] 9) (.cells #[.int .i64 0] 3)
    rw [← hwz] at hwT
    subst hwT
    obtain ⟨S, hSd⟩ : ∃ S, S = [w.heap.size, w.heap.size + 1, w.heap.size + 2, w.heap.size + 3] := ⟨_, rfl⟩
    have hit := splitSeq_iter S wT (w.heap.size + 4) (w.heap.size + 5) (w.heap.size + 6) s hbs hbp hbz (by rw [hSd]; simp) (by omega) (by omega)
    have Hit := hid hit; have HgT := hid hgT; have Hr2 := hid hr2; have Hr3 := hid hr3; simp only [Nat.add_assoc, Nat.reduceAdd] at hbo; have Hbo := hid hbo
    have HO0 : Hid (Own (w.heap.size + 2) wT 3 (.slice (some ⟨w.heap.size + 2, 0, none⟩) 0 0) []) := hid (own_empty har)
    have HSd := hid hSd
    clear hit hgT hr2 hr3 hbo har hbs hbp hbz hwz hSd
    dsimp only
    simp only [World.size_alloc, Nat.add_assoc, Nat.reduceAdd]
    gi_wp2_with fail
    refine' wp_rangeIterE [w.heap.size + 4] S rfl (fun _ _ => by kernel_rfl) _ _ Hit.out ?hS ?hE ?hrd ?hrs
      (fun pre ms W => ∃ fv l, pre.mapM atoiO = some l ∧ W.heap[w.heap.size + 3]? = some (.cells #[fv] 24 (0, 0)) ∧ Own (w.heap.size + 2) W 3 fv l ∧ (∀ b, fv.ownBlock = some b → b = w.heap.size + 2 ∨ b ∈ ms) ∧ Gr ((w.heap.size + 4) :: S) wT W ∧ (∀ b ∈ ms, wT.heap.size + 2 ≤ b ∧ b < W.heap.size) ∧
        W.heap[w.heap.size]? = some (.cells #[.slice none 0 0] 24 (0, 0)) ∧ W.heap[w.heap.size + 1]? = some (.cells #[.bool false] 4 (0, 0)))
      (fun cd pre ms W => cd = .ret ∧ pre.mapM atoiO = none ∧ Gr ((w.heap.size + 4) :: S) wT W ∧ (∀ b ∈ ms, wT.heap.size + 2 ≤ b) ∧
        W.heap[w.heap.size]? = some (.cells #[.slice none 0 0] 24 (0, 0)) ∧ W.heap[w.heap.size + 1]? = some (.cells #[.bool false] 4 (0, 0))) ?hI ?hIx ?hms ?h0 _ ?hmsx ?hassign ?hbody ?hdone ?hstop
    case hassign =>
      intro l v W K hK
      gi_wp2_with fail
      exact hK
    case hS => intro t ht; rw [HSd.out] at ht; simp at ht; omega
    case hE => intro t ht; simp at ht; omega
    case hrd => intro A W W' v x _ h hg; exact h
    case hrs => intro A B W v x h hb; exact h
    case hI =>
      rintro pre ms W W' T ⟨fv, l, i1, i2, i3, i4, i5, i6, i7, i8⟩ hg hT
      have hn : ∀ b, b < w.heap.size + 4 → b ∉ T := fun b hb hm => by have := (hT _ hm).1; simp at this; omega
      refine ⟨fv, l, i1, hg.obj i2 (hn _ (by omega)), ownsRow_keep i3 hg (fun b hb hm => ?_), i4, i5.step hg (fun t ht => ?_), fun b hb => ⟨(i6 b hb).1, by have := (i6 b hb).2; have := hg.size; omega⟩, hg.obj i7 (hn _ (by omega)), hg.obj i8 (hn _ (by omega))⟩
      · rcases i4 b hb with h | h
        · exact hn b (by omega) hm
        · exact (hT b hm).2 h
      · rcases (hT t ht).1 with h | h
        · exact .inr h
        · exact .inl (by simp at h; simp [h])
    case hIx =>
      rintro cd pre ms W W' T ⟨i1, i2, i5, i6, i7, i8⟩ hg hT
      have hn : ∀ b, b < w.heap.size + 4 → b ∉ T := fun b hb hm => by have := (hT _ hm).1; simp at this; omega
      refine ⟨i1, i2, i5.step hg (fun t ht => ?_), i6, hg.obj i7 (hn _ (by omega)), hg.obj i8 (hn _ (by omega))⟩
      rcases (hT t ht).1 with h | h
      · exact .inr h
      · exact .inl (by simp at h; simp [h])
    case hms => rintro pre ms W ⟨_, _, _, _, _, _, _, h4, _⟩ m hm; exact h4 m hm
    case hmsx => rintro cd pre ms W ⟨_, _, _, h4, _⟩ m hm; exact h4 m hm
    case h0 => exact ⟨_, [], rfl, Hbo.out, HO0.out, fun b hb => by simp [Value.ownBlock] at hb; exact .inl hb.symm, Gr.refl _ _, by simp, Hr2.out, Hr3.out⟩
    case hbody =>
      rintro l pre rest x v ms W hxs hW2 ⟨fv, l', i1, i2, i3, i4, i5, i6, i7, i8⟩ rfl
      have hxm : x ∈ sp 44 s := by rw [hxs]; simp
      have hxl : x.length ≤ 1100000 := Nat.le_trans (sp_piece 44 s x hxm) hs
      have hgw : Gr [] w W := HgT.out.step i5 (fun i hi => .inr (by rw [HSd.out] at hi; simp at hi; omega))
      have hll : l'.length ≤ 1100001 := by
        rw [mapM_len _ _ _ i1]
        have h1 := sp_len 44 s
        rw [hxs] at h1
        have h2 := List.count_le_length (a := (44 : UInt8)) (l := s)
        simp at h1
        omega
      have Hgw := hid hgw; have I1 := hid i1; have I2 := hid i2; have I3 := hid i3; have I4 := hid i4; have I5 := hid i5; have I6 := hid i6; have I7 := hid i7; have I8 := hid i8; have Hll := hid hll
      clear hgw i1 i2 i3 i4 i5 i6 i7 i8 hxs hxm hll
      gi_wp2_with fail
      have hcall := CallsIn.inRound l ((callsIn_wide (n := 0)).2 (Atoi_c x (by omega) W (HT.out.gr Hgw.out)))
      refine ⟨trivial, rfl, ?_⟩
      (with_reducible refine hcall.mono ?_)
      clear hcall
      rintro e W1 ⟨⟨er, rfl, her⟩, hg1⟩
      dsimp only
      have k2 := hg1.obj I2.out (by simp); have k7 := hg1.obj I7.out (by simp); have k8 := hg1.obj I8.out (by simp)
      have f2 := fld k2; have f7 := fld k7; have f8 := fld k8; have f2F := fldF k2; have f7F := fldF k7; have f8F := fldF k8
      have Hg1 := hid hg1; have K2 := hid k2; have K7 := hid k7; have K8 := hid k8
      have hs1 := hg1.size
      clear hg1 k2 k7 k8
      cases ha : atoiO x with
      | none =>
        rw [ha] at her
        obtain ⟨t, p, rfl⟩ := by simpa using her
        have Ha := hid ha; clear ha her
        gi_wp2_with fail
        have d7 := box_set (.slice none 0 0) K7.out
        have g7 : Gr [w.heap.size] W1 (W1.setCell ⟨w.heap.size, 0, none⟩ (.slice none 0 0)) := (Gr.refl _ _).setCell _ _ (.inl (by simp))
        have d8 := box_set (.bool false) (g7.obj K8.out (by simp))
        have g8 : Gr [w.heap.size + 1] (W1.setCell ⟨w.heap.size, 0, none⟩ (.slice none 0 0)) ((W1.setCell ⟨w.heap.size, 0, none⟩ (.slice none 0 0)).setCell ⟨w.heap.size + 1, 0, none⟩ (.bool false)) := (Gr.refl _ _).setCell _ _ (.inl (by simp))
        have gA : Gr S W ((W1.setCell ⟨w.heap.size, 0, none⟩ (.slice none 0 0)).setCell ⟨w.heap.size + 1, 0, none⟩ (.bool false)) :=
          ((Hg1.out.any (S := S)).trans (g7.sub (fun k _ hk => by rw [HSd.out]; simp at hk ⊢; exact .inl hk))).trans (g8.sub (fun k _ hk => by rw [HSd.out]; simp at hk ⊢; exact .inr (.inl hk)))
        refine ⟨ms, ⟨rfl, by rw [mapM_snoc, I1.out, Ha.out]; rfl, I5.out.step gA (fun i hi => .inl (by simp [hi])), fun b hb => (I6.out b hb).1, g8.obj d7 (by simp), d8⟩, gA.sub (fun k _ hk => by simp [hk])⟩
      | some n =>
        rw [ha] at her
        obtain rfl := by simpa using her
        have hav : atoiV x = n := by
          unfold atoiO at ha; unfold atoiV; split at ha <;> simp_all
        have Ha := hid ha; clear ha her
        obtain ⟨i0, hi, hz0, hz1, hz2⟩ := info_parts infoT
        rw [hav]
        gi_wp2_with (gi_at_builtin; go_loud (refine wpListIn_append_lies _ rfl _ _ 24 rfl (w.heap.size + 2) 3 i0 (.int .i64 0) 1 8 Tryz.underlying24 hi hz0 hz1 hz2 rfl (by decide) fv l'.length (l'.map (Value.int .i64)) rfl ((ownsRow_keep I3.out Hg1.out (by simp)).alloc _) ⟨W1.heap.size, 0, none⟩ 1 1 [.int .i64 n] rfl rfl (fun j u hj => by cases j with | zero => simp at hj; subst hj; simp [Addr.add] | succ j => simp at hj) (fun x hx => by simp at hx; subst hx; rfl) (by decide) (by have := Hll.out; simp only [maxLen]; omega) (by have := Hll.out; omega) (by simp; omega) ?_; intro g3 c3 w3 hown3 hgrow3 hat3 hlt3; have g3 := ((Gr.refl fv.ownBlock.toList W1).alloc (.cells #[.int .i64 n] 3)).grown hgrow3 (by rintro k hk; left; simp [hk]); have hb3 := g3.obj K2.out (fun hm => by have h := I4.out _ (by simpa using hm); have := I6.out; rcases h with h | h; omega; have := (this _ h).1; omega); have f3 := fld hb3; have f3F := fldF hb3; have G3 := hid g3; have HO3 := hid hown3; have HB3 := hid hb3; clear g3 hown3 hgrow3 hb3 f2 f2F))
        have hgs : Gr [w.heap.size + 3] w3 (w3.setCell ⟨w.heap.size + 3, 0, none⟩ (.slice (some ⟨g3, 0, none⟩) (l'.length + 1) c3)) := (Gr.refl _ _).setCell _ _ (.inl (by simp))
        have hbE := box_set (.slice (some ⟨g3, 0, none⟩) (l'.length + 1) c3) HB3.out
        have hob : ∀ b, fv.ownBlock = some b → b = w.heap.size + 2 ∨ (b ∈ ms ∧ wT.heap.size + 2 ≤ b) := fun b h => (I4.out b h).imp id fun h => ⟨h, (I6.out b h).1⟩
        have hsW := Hg1.out.size
        have hs3 := G3.out.size
        have hg3m : g3 = w.heap.size + 2 ∨ (g3 ∈ ms ∧ wT.heap.size + 2 ≤ g3) ∨ W.heap.size ≤ g3 := by
          rcases hat3 with h | h
          · rcases hob g3 h with h | h
            · exact .inl h
            · exact .inr (.inl h)
          · exact .inr (.inr (by simp at h; omega))
        have hg3n : ∀ b, b ≤ w.heap.size + 3 → b ≠ w.heap.size + 2 → b ≠ g3 ∧ fv.ownBlock ≠ some b := fun b hb hne =>
          ⟨by rintro rfl; rcases hg3m with h | h | h <;> omega, fun h => by rcases hob b h with h | h <;> omega⟩
        have hO4 := ownsRow_keep HO3.out hgs (fun b hb hm => by simp [Value.ownBlock] at hb hm; subst hb; exact (hg3n _ (Nat.le_refl _) (by omega)).1 hm.symm)
        have hgW : Gr (S ++ ms) W (w3.setCell ⟨w.heap.size + 3, 0, none⟩ (.slice (some ⟨g3, 0, none⟩) (l'.length + 1) c3)) := by
          refine ((Hg1.out.any (S := S ++ ms)).trans (G3.out.sub fun k _ hk => ?_)).trans (hgs.sub fun k _ hk => ?_)
          · rcases hob k (by simpa using hk) with h | h
            · rw [HSd.out]; simp [h]
            · simp [h.1]
          · rw [HSd.out]; simp at hk ⊢; simp [hk]
        have hgT' : Gr ((w.heap.size + 4) :: S) wT (w3.setCell ⟨w.heap.size + 3, 0, none⟩ (.slice (some ⟨g3, 0, none⟩) (l'.length + 1) c3)) := I5.out.step hgW fun i hi => by
          rcases List.mem_append.1 hi with h | h
          · exact .inl (by simp [h])
          · exact .inr (by have := (I6.out i h).1; omega)
        have hk7 := hgs.obj (G3.out.obj K7.out (by simp; exact (hg3n _ (by omega) (by omega)).2)) (by simp)
        have hk8 := hgs.obj (G3.out.obj K8.out (by simp; exact (hg3n _ (by omega) (by omega)).2)) (by simp)
        have hO5 : Own (w.heap.size + 2) (w3.setCell ⟨w.heap.size + 3, 0, none⟩ (.slice (some ⟨g3, 0, none⟩) (l'.length + 1) c3)) 3 (.slice (some ⟨g3, 0, none⟩) (l'.length + 1) c3) (l' ++ [n]) := by
          unfold Own
          simpa using hO4
        have hmp : (pre ++ [x]).mapM atoiO = some (l' ++ [n]) := by rw [mapM_snoc, I1.out, Ha.out]; rfl
        have hsz5 : (w3.setCell ⟨w.heap.size + 3, 0, none⟩ (.slice (some ⟨g3, 0, none⟩) (l'.length + 1) c3)).heap.size = w3.heap.size := by simp [World.setCell]
        by_cases hg2 : g3 = w.heap.size + 2
        · refine ⟨ms, ⟨_, _, hmp, hbE, hO5, fun b hb => .inl (by simp [Value.ownBlock] at hb; omega), hgT', fun b hb => ⟨(I6.out b hb).1, by have := (I6.out b hb).2; rw [hsz5]; omega⟩, hk7, hk8⟩, hgW, fun m hm => .inl hm⟩
        · have hg4 : g3 ∈ ms ∧ wT.heap.size + 2 ≤ g3 ∨ W.heap.size ≤ g3 := hg3m.resolve_left hg2
          refine ⟨ms ++ [g3], ⟨_, _, hmp, hbE, hO5, fun b hb => .inr (by simp [Value.ownBlock] at hb; simp [hb]), hgT', fun b hb => ?_, hk7, hk8⟩, hgW, fun m hm => ?_⟩
          · rcases List.mem_append.1 hb with h | h
            · exact ⟨(I6.out b h).1, by have := (I6.out b h).2; rw [hsz5]; omega⟩
            · simp at h; subst h
              exact ⟨by rcases hg4 with h | h <;> omega, by rw [hsz5]; omega⟩
          · rcases List.mem_append.1 hm with h | h
            · exact .inl h
            · simp at h; subst h
              exact hg4.imp (fun h => h.1) id
    case hdone =>
      rintro Dq ms W ⟨fv, l', i1, i2, i3, i4, i5, i6, i7, i8⟩ hD hD1 hDm
      have hgw : Gr [] w W := HgT.out.step i5 (fun i hi => .inr (by rw [HSd.out] at hi; simp at hi; omega))
      have hll : l'.length ≤ 1100001 := by
        rw [mapM_len _ _ _ i1]
        have h1 := sp_len 44 s
        have h2 := List.count_le_length (a := (44 : UInt8)) (l := s)
        omega
      obtain ⟨fo, fc, rfl, -, -⟩ := Own.nums' (S := []) i3 (by simp)
      have hII : ∀ x ∈ l', I64 x := mapM_I64 _ _ i1
      have f2 := fld i2; have f7 := fld i7; have f8 := fld i8; have f2F := fldF i2; have f7F := fldF i7; have f8F := fldF i8
      have Hgw := hid hgw; have I1 := hid i1; have I2 := hid i2; have I3 := hid i3; have I4 := hid i4; have I5 := hid i5; have I6 := hid i6; have I7 := hid i7; have I8 := hid i8; have Hll := hid hll; have HII := hid hII; have HDq := hid hD; have HD1 := hid hD1; have HDm := hid hDm
      clear hgw i1 i2 i3 i4 i5 i6 i7 i8 hll hII hD hD1 hDm
      gi_wp2_with fail
      -- REGION
      refine Code.wpIn_mono (Q := Exit.then (fun a' w' => (∃ tm : Array Value, a' = { tmps := tm, defers := [{ target := .collected Dq, args := #[] }] } ∧ tm[2]? = some (.pointer (some ⟨w.heap.size, 0, none⟩)) ∧ tm[3]? = some (.pointer (some ⟨w.heap.size + 1, 0, none⟩))) ∧
        w'.heap[w.heap.size]? = some (.cells #[.slice fo l'.length fc] 24 (0, 0)) ∧ w'.heap[w.heap.size + 1]? = some (.cells #[.bool (listT l' == s)] 4 (0, 0)) ∧ Gr [w.heap.size, w.heap.size + 1] W w') (fun _ _ _ => False)) ?post ?_
      case post =>
        rintro e a' w' h
        cases e <;> try exact h.elim
        obtain ⟨⟨tm, rfl, ht2, ht3⟩, e1, e2, hg⟩ := h
        have HgE := hid hg; have HE1 := hid e1; have HE2 := hid e2; have HD3 := hid (hg.obj HDq.out (by have := HD1.out; simp; omega))
        clear hg e1 e2
        gi_wp2_with fail
        refine ⟨by simp, .inl ⟨_, _, rfl, run_takeDeferred HD3.out, ?_⟩⟩
        have hDn := HD1.out
        have flE := fld ((Gr.putObj w' Dq (.deferred none)).obj HE1.out (by simp; omega))
        have flF := fld ((Gr.putObj w' Dq (.deferred none)).obj HE2.out (by simp; omega))
        have hrd : rdL s = (l', listT l' == s) := by
          unfold rdL
          rw [if_neg H1.out, I1.out]
          show (l', decide (listT l' = s)) = (l', listT l' == s)
          by_cases h : listT l' = s <;> simp [h]
        refine ⟨.tuple #[.slice fo l'.length fc, .bool (listT l' == s)], ?_, ⟨_, by rw [hrd], ?_, ?_⟩⟩
        · simp [results, Tryz.results53, go_sem, flE, flF, ht2, ht3]
        · rw [hrd]
          have hob : ∀ b, (Value.slice fo l'.length fc).ownBlock = some b → w.heap.size + 2 ≤ b ∧ b ≠ Dq := fun b h => by
            rcases I4.out b h with h | h
            · exact ⟨by omega, by omega⟩
            · exact ⟨by have := (I6.out b h).1; omega, fun e => HDm.out (e ▸ h)⟩
          have h1 := ownsRow_keep I3.out HgE.out (fun b hb hm => by have := (hob b hb).1; simp at hm; omega)
          have h2 := ownsRow_keep h1 (Gr.putObj w' Dq (.deferred none)) (fun b hb hm => (hob b hb).2 (by simpa using hm))
          exact own_low h2 (by omega)
        · exact (Hgw.out.step HgE.out (fun i hi => .inr (by simp at hi; omega))).step (Gr.putObj _ Dq _) (fun i hi => .inr (by simp at hi; subst hi; omega))
      refine wpIn_wide.2 ?_
      refine wp_region_held_drew (S := (fun W => W.heap[w.heap.size + 3]? = some (.cells #[.slice fo l'.length fc] 24 (0, 0)))) (by kernel_rfl) ?_ (fun hHeld => ?_)
      · exact I2.out
      refine wpAnyH_take (i := 0) (v := ?_) rfl (by kernel_rfl) (by kernel_rfl) (by kernel_rfl) (fun _ _ _ h => h) (Or.inl ⟨by rfl, ?_⟩) (by assumption) ?_
      rotate_left
      · intro Wx hSw; (try dsimp only at hSw); have fx := fld hSw; go_simp; (try with_reducible rfl)
      try simp only [Act.put, List.setIfInBounds_toArray, List.set_cons_zero, List.set_cons_succ, List.getElem_toArray, List.getElem_cons_zero, List.getElem_cons_succ]
      refine wpAnyH_take (i := 1) (v := ?_) rfl (by kernel_rfl) (by kernel_rfl) (by kernel_rfl) (fun _ _ _ h => h) (Or.inl ⟨by rfl, ?_⟩) (by assumption) ?_
      rotate_left
      · intro Wx hSw; (try dsimp only at hSw); have fx := fld hSw; go_simp; (try with_reducible rfl)
      try simp only [Act.put, List.setIfInBounds_toArray, List.set_cons_zero, List.set_cons_succ, List.getElem_toArray, List.getElem_cons_zero, List.getElem_cons_succ]
      refine wpAnyH_take (i := 3) (v := ?_) rfl (by kernel_rfl) (by kernel_rfl) (by kernel_rfl) (fun _ _ _ h => h) (Or.inl ⟨by rfl, ?_⟩) (by assumption) ?_
      rotate_left
      · intro Wx hSw; (try dsimp only at hSw); have fx := fld hSw; go_simp; (try with_reducible rfl)
      try simp only [Act.put, List.setIfInBounds_toArray, List.set_cons_zero, List.set_cons_succ, List.getElem_toArray, List.getElem_cons_zero, List.getElem_cons_succ]
      refine wpAnyH_ready (rs := [2]) (by kernel_rfl) (by simp) ?_
      refine AllReadyH.cons rfl (fun Kx hKx => ?_) AllReadyH.nil
      go_simp; refine (listText_c l' (.slice fo l'.length fc) _ ((Own.nums (S := []) I3.out (by simp)).gr ((Gr.refl [] W).drew)) HII.out (by have := Hll.out; omega) (HT.out.gr Hgw.out).drew).mono ?_; rintro e w5 ⟨rfl, hg5⟩; have HG5 := hid (Gr.trans ((Gr.refl [] W).drew) hg5); clear hg5; (try dsimp only)
      refine hKx.out _ _ ?_ (fun hHeld => ?_)
      · (try dsimp only); (exact HG5.out.obj I2.out (by simp))
      clear hKx Kx
      try simp only [Act.put, List.setIfInBounds_toArray, List.set_cons_zero, List.set_cons_succ, List.getElem_toArray, List.getElem_cons_zero, List.getElem_cons_succ]
      refine wpAnyH_take (i := 4) (v := ?_) rfl (by kernel_rfl) (by kernel_rfl) (by kernel_rfl) (fun _ _ _ h => h) (Or.inl ⟨by rfl, ?_⟩) (by assumption) ?_
      rotate_left
      · intro Wx hSw; (try dsimp only at hSw); go_simp; (try with_reducible rfl)
      try simp only [Act.put, List.setIfInBounds_toArray, List.set_cons_zero, List.set_cons_succ, List.getElem_toArray, List.getElem_cons_zero, List.getElem_cons_succ]
      refine wpAnyH_ready (rs := [5]) (by kernel_rfl) (by simp) ?_
      refine AllReadyH.cons rfl (fun Kx hKx => ?_) AllReadyH.nil
      have q7 := HG5.out.obj I7.out (by simp); have fq7 := fld q7; have fq7F := fldF q7; have gs7 : Gr [w.heap.size] w5 (w5.setCell ⟨w.heap.size, 0, none⟩ (.slice fo l'.length fc)) := (Gr.refl _ _).setCell _ _ (.inl (by simp)); have q8 := box_set (.slice fo l'.length fc) q7; have q9 := gs7.obj (HG5.out.obj I8.out (by simp)) (by simp); go_simp
      refine hKx.out _ _ ?_ (fun hHeld => ?_)
      · (try dsimp only); (exact gs7.obj (HG5.out.obj I2.out (by simp)) (by simp))
      clear hKx Kx
      try simp only [Act.put, List.setIfInBounds_toArray, List.set_cons_zero, List.set_cons_succ, List.getElem_toArray, List.getElem_cons_zero, List.getElem_cons_succ]
      refine wpAnyH_ready (rs := [6]) (by kernel_rfl) (by simp) ?_
      refine AllReadyH.cons rfl (fun Kx hKx => ?_) AllReadyH.nil
      have fq9 := fld q9; have fq9F := fldF q9; have gs8 : Gr [w.heap.size + 1] (w5.setCell ⟨w.heap.size, 0, none⟩ (.slice fo l'.length fc)) ((w5.setCell ⟨w.heap.size, 0, none⟩ (.slice fo l'.length fc)).setCell ⟨w.heap.size + 1, 0, none⟩ (.bool (listT l' == s))) := (Gr.refl _ _).setCell _ _ (.inl (by simp)); go_simp
      refine hKx.out _ _ ?_ (fun hHeld => ?_)
      · (try dsimp only); (exact gs8.obj (gs7.obj (HG5.out.obj I2.out (by simp)) (by simp)) (by simp))
      clear hKx Kx
      try simp only [Act.put, List.setIfInBounds_toArray, List.set_cons_zero, List.set_cons_succ, List.getElem_toArray, List.getElem_cons_zero, List.getElem_cons_succ]
      refine wpAnyH_done (by kernel_rfl) ?_ _
      exact ⟨⟨_, rfl, rfl, rfl⟩, gs8.obj q8 (by simp), box_set (.bool (listT l' == s)) q9, ((HG5.out.any.trans (gs7.sub (fun k _ hk => by simp at hk ⊢; omega))).trans (gs8.sub (fun k _ hk => by simp at hk ⊢; omega)))⟩
    case hstop =>
      rintro Dq cd pre ms W hpx ⟨rfl, i2, i5, i6, i7, i8⟩ hD hD1 _
      have hgw : Gr [] w W := HgT.out.step i5 (fun i hi => .inr (by rw [HSd.out] at hi; simp at hi; omega))
      have hDl := lt_of_block hD
      gi_wp2_with fail
      refine ⟨by simp, .inl ⟨_, _, rfl, run_takeDeferred hD, ?_⟩⟩
      have flE := fld ((Gr.putObj W Dq (.deferred none)).obj i7 (by simp; omega))
      have flF := fld ((Gr.putObj W Dq (.deferred none)).obj i8 (by simp; omega))
      have hrd : rdL s = ([], false) := by
        obtain ⟨t, ht⟩ := hpx
        unfold rdL
        rw [if_neg H1.out, ← ht, mapM_pre _ _ _ i2]
      refine ⟨.tuple #[.slice none 0 0, .bool false], ?_, ⟨_, by rw [hrd], ?_, ?_⟩⟩
      · simp [results, Tryz.results53, go_sem, flE, flF]
      · rw [hrd]; exact ⟨rfl, .inl ⟨rfl, rfl⟩⟩
      · exact hgw.step (Gr.putObj _ Dq _) (fun i hi => .inr (by simp at hi; subst hi; omega))
end Go.Proofs.YtmonhpoogfdpoaaGreatDoor
