/-
  Walk of the program's making of a node.
-/
import Derived.Test.YtmonhpoogfdpoaaGreatXBn
import Derived.Deep.RegionHeldLaw
import Derived.Deep.CutRange
set_option linter.unusedVariables false
set_option linter.unusedSimpArgs false
namespace Go.Proofs.YtmonhpoogfdpoaaGreat
open Go.RowKit

def compX (p : MkP) (x : List Int) : SS := comps (fun t => satB p.c (x ++ t)) ((p.W.drop x.length).map vals)
def NodePost (p : MkP) (x : List Int) (svs : List Value) (D : List (List SS)) (w : World) (e : Ending) (w' : World) : Prop :=
  ∃ svs' D', e = .returned (.int .i64 (ixL (lay D' x.length) (compX p x))) ∧ MkV p w' svs' D' ∧ GrD D D' ∧ (compX p x = [] ∨ compX p x ∈ lay D' x.length) ∧
    Gr (wset p.Nb p.mbs svs) w w' ∧ (∀ b ∈ wset p.Nb p.mbs svs', b ∈ wset p.Nb p.mbs svs ∨ w.heap.size ≤ b) ∧ (∀ j : Nat, j < p.W.length → (lay D' j).length ≤ (lay D j).length + grow x.length j)
theorem compX_end {p : MkP} {x : List Int} (h : x.length = p.W.length) : compX p x = if satB p.c x then [[]] else [] := by
  unfold compX comps
  rw [h, List.drop_length, List.map_nil, tupsL]
  cases hs : satB p.c x <;> simp [hs]
theorem sufs_compX {p : MkP} {x : List Int} {d : Nat} (hd : p.W[x.length]? = some d) (v : Int) : sufs (compX p x) v = if v ∈ vals d then compX p (x ++ [v]) else [] := by
  unfold compX
  have e : p.W.drop x.length = d :: p.W.drop (x.length + 1) := drop_cons hd
  rw [e, List.map_cons, sufs_comps _ _ _ (vals_dom d).nodup, List.length_append, List.length_singleton]
  simp only [List.append_assoc, List.singleton_append]
theorem compX_good {p : MkP} {x : List Int} (h : x.length ≤ p.W.length) : Good (p.W.length - x.length) (compX p x) := by
  have := good_comps ((p.W.drop x.length).map vals) (fun t => satB p.c (x ++ t)) fun vs hv => by obtain ⟨d, _, rfl⟩ := List.mem_map.1 hv; exact vals_dom d
  rwa [List.length_map, List.length_drop] at this

set_option maxRecDepth 100000 in
set_option maxHeartbeats 2000000 in
theorem node_leaf (p : MkP) (hp : MkOk p) (x : List Int) (xv : Value) (w : World) (svs : List Value) (D : List (List SS)) (hx : x.length = p.W.length) (hb : ∀ v ∈ x, 0 ≤ v ∧ v ≤ 5) (h : MkV p w svs D) (hv : Nums (wset p.Nb p.mbs svs) w .i64 xv x) :
    Calls Tryz.prog 19 #[.pointer (some ⟨p.M, 0, none⟩), xv] w (NodePost p x svs D w) := by
  have Hv := hid hv
  have hw4 := hp.w4
  obtain ⟨xo, xc, rfl, ⟨h1, h2, -⟩, -⟩ := hv
  obtain ⟨dO, dc, hdv, -, -⟩ := h.dom [] (by simp)
  rw [ints_len] at hdv
  have fM := fld h.blk
  rw [hdv] at fM
  have hsat := satisfied_c p.c x _ _ w (h.con [] (by simp)) (Hv.out.sub (by simp)) (hp.fit x hx hb)
  have Hsat := hid hsat; have H := hid h; have Hx := hid hx; have Hb := hid hb
  have htt : ((x.length : Int) == (p.W.length : Int)) = true := by simp [hx]
  have hxl : x.length ≤ 4 := by omega
  obtain ⟨n, hn⟩ : ∃ n, n = p.W.length := ⟨_, rfl⟩
  rw [← hn] at fM htt
  have Hn := hid hn
  clear hdv hsat h hx hb hn hw4
  go_enter Tryz.func19, Tryz.ntmps19
  go_wp2_with fail
  refine Hsat.out.mono ?_
  rintro e w1 ⟨rfl, hg1⟩
  have he := compX_end Hx.out
  have hlay : lay D x.length = [[[]]] := lay_end (by rw [H.out.ok.len, Hx.out]; exact Nat.le_refl _)
  cases hs : satB p.c x
  · go_wp2_with fail
    go_ret
    refine ⟨svs, D, ?_, H.out.gr0 hg1, GrD.refl _, .inl (by rw [he, hs]; rfl), hg1.any, fun b hb => .inl hb, fun j hj => Nat.le_add_right _ _⟩
    rw [he, hs]; rfl
  · go_wp2_with fail
    go_ret
    refine ⟨svs, D, ?_, H.out.gr0 hg1, GrD.refl _, .inr (by rw [he, hs, hlay]; simp), hg1.any, fun b hb => .inl hb, fun j hj => Nat.le_add_right _ _⟩
    rw [he, hs, hlay]; rfl
theorem six {l : List Int} (h : l.length = 6) : ∃ a b c d e f, l = [a, b, c, d, e, f] := by
  match l, h with
  | [a, b, c, d, e, f], _ => exact ⟨a, b, c, d, e, f, rfl⟩
/-- What the loop over the values keeps. -/
structure NdI (p : MkP) (x : List Int) (xv : Value) (E : Nat) (w : World) (svs : List Value) (D : List (List SS)) (k : Nat) (b : Bool) (es : List Int) (svs' : List Value) (D' : List (List SS)) (wr : World) : Prop where
  eb : wr.heap[E]? = some (.cells (es.map (Value.int .i64)).toArray 74 (0, 0))
  el : es.length = 6
  ev : ∀ j : Nat, j < k → es[j]? = some (ixL (lay D' (x.length + 1)) (sufs (compX p x) (j : Int)))
  al : b = true ↔ ∃ j : Nat, j < k ∧ sufs (compX p x) (j : Int) ≠ []
  mv : MkV p wr svs' D'
  gr : GrD D D'
  cl : ∀ j : Nat, j < k → sufs (compX p x) (j : Int) = [] ∨ sufs (compX p x) (j : Int) ∈ lay D' (x.length + 1)
  fr : Gr (E :: wset p.Nb p.mbs svs) w wr
  ws : ∀ b ∈ wset p.Nb p.mbs svs', b ∈ wset p.Nb p.mbs svs ∨ w.heap.size ≤ b
  en : E ∉ wset p.Nb p.mbs svs'
  xr : Nums (E :: wset p.Nb p.mbs svs') wr .i64 xv x
  rm : ∀ j : Nat, j < p.W.length → (lay D' j).length ≤ (lay D j).length + k * grow (x.length + 1) j

theorem cells_set1 (es : List Int) (k : Nat) (v : Int) : ((es.map (Value.int .i64)).toArray.setIfInBounds k (.int .i64 v)) = ((es.set k v).map (Value.int .i64)).toArray := by
  apply Array.ext'
  simp [List.map_set]
theorem NdI.next {p : MkP} {x : List Int} {xv : Value} {E : Nat} {w : World} {svs svs' svs2 : List Value} {D D' D2 : List (List SS)} {k : Nat} {b : Bool} {es : List Int} {wr w' : World} (h : NdI p x xv E w svs D k b es svs' D' wr) (hk : k < 6) (r : Int)
    (hb : w'.heap[E]? = some (.cells ((es.set k r).map (Value.int .i64)).toArray 74 (0, 0))) (hr : r = ixL (lay D2 (x.length + 1)) (sufs (compX p x) (k : Int))) (hc : sufs (compX p x) (k : Int) = [] ∨ sufs (compX p x) (k : Int) ∈ lay D2 (x.length + 1))
    (hm : MkV p w' svs2 D2) (hg : GrD D' D2) (hfr : Gr (E :: wset p.Nb p.mbs svs') wr w') (hws : ∀ b ∈ wset p.Nb p.mbs svs2, b ∈ wset p.Nb p.mbs svs' ∨ wr.heap.size ≤ b) (hrm : ∀ j : Nat, j < p.W.length → (lay D2 j).length ≤ (lay D' j).length + grow (x.length + 1) j) :
    NdI p x xv E w svs D (k + 1) (b || decide (0 ≤ r)) (es.set k r) svs2 D2 w' := by
  have hEl := lt_of_block h.eb
  have hwl := h.fr.size
  have hr0 : 0 ≤ r ↔ sufs (compX p x) (k : Int) ≠ [] := by
    have := ixL_neg (nx := lay D2 (x.length + 1)) (r := sufs (compX p x) (k : Int))
    rw [← hr] at this
    constructor
    · intro h1 h2; have := this.2 h2; omega
    · intro h1
      by_cases h3 : 0 ≤ r
      · exact h3
      · exact absurd (this.1 (by omega)) h1
  have hen : E ∉ wset p.Nb p.mbs svs2 := fun hx => by
    rcases hws E hx with hx | hx
    · exact h.en hx
    · omega
  refine ⟨hb, by rw [List.length_set]; exact h.el, fun j hj => ?_, ?_, hm, h.gr.trans hg, fun j hj => ?_, h.fr.step hfr fun t ht => ?_, fun b hb' => ?_, hen, ?_, fun j hj => by have := h.rm j hj; have := hrm j hj; rw [Nat.succ_mul]; omega⟩
  · by_cases e : j = k
    · subst e
      rw [List.getElem?_set_self (by rw [h.el]; exact hk), hr]
    · rw [List.getElem?_set_ne (fun e' => e e'.symm), h.ev j (by omega), ixL_pre (hg.2 _) (h.cl j (by omega))]
  · rw [Bool.or_eq_true, decide_eq_true_eq, h.al, hr0]
    constructor
    · rintro (⟨j, hj, h0⟩ | h0)
      · exact ⟨j, by omega, h0⟩
      · exact ⟨k, by omega, h0⟩
    · rintro ⟨j, hj, h0⟩
      by_cases e : j = k
      · subst e; exact .inr h0
      · exact .inl ⟨j, by omega, h0⟩
  · by_cases e : j = k
    · subst e; exact hc
    · exact (h.cl j (by omega)).imp id fun h' => (hg.2 _).subset h'
  · rcases List.mem_cons.1 ht with rfl | ht
    · exact .inl (by simp)
    · rcases h.ws t ht with ht | ht
      · exact .inl (by simp [ht])
      · exact .inr ht
  · rcases hws b hb' with hx | hx
    · exact h.ws b hx
    · exact .inr (by omega)
  · refine h.xr.mv hfr (fun t ht => .inl ht) fun b hb' => ?_
    rcases List.mem_cons.1 hb' with rfl | hb'
    · exact .inl (by simp)
    · rcases hws b hb' with hx | hx
      · exact .inl (by simp [hx])
      · exact .inr hx

theorem infoE : (Tryz.prog.info? 74).map (fun i => (i.zero, i.size, i.bytes)) = some (some (.agg #[.int .i64 0, .int .i64 0, .int .i64 0, .int .i64 0, .int .i64 0, .int .i64 0]), 6, 48) := by kernel_rfl
set_option maxRecDepth 100000 in
set_option maxHeartbeats 4000000 in
theorem node_c (p : MkP) (hp : MkOk p) (r : Nat) : ∀ (x : List Int) (xv : Value) (w : World) (svs : List Value) (D : List (List SS)), x.length + r = p.W.length → (∀ v ∈ x, 0 ≤ v ∧ v ≤ 5) → MkV p w svs D → Nums (wset p.Nb p.mbs svs) w .i64 xv x → (∀ j : Nat, j < p.W.length → (lay D j).length + grow x.length j ≤ 10000) →
    Calls Tryz.prog 19 #[.pointer (some ⟨p.M, 0, none⟩), xv] w (NodePost p x svs D w) := by
  induction r with
  | zero => intro x xv w svs D hx hb h hv hrm; exact node_leaf p hp x xv w svs D hx hb h hv
  | succ r ih =>
    intro x xv w svs D hx hb h hv hrm
    have Hrm := hid hrm; clear hrm
    have Hp := hid hp; have Hih := hid ih; have Hb := hid hb; have H := hid h; have Hv := hid hv
    have hw4 := hp.w4
    obtain ⟨xo, xc, rfl, ⟨h1, h2, -⟩, -⟩ := hv
    obtain ⟨d, hd⟩ := get_some (xs := p.W) (k := x.length) (by omega)
    have hd64 := hp.b64 d (List.mem_of_getElem? hd)
    obtain ⟨dO, dc, hdv, -, -⟩ := h.dom [] (by simp)
    rw [ints_len] at hdv
    have hdm := h.dom [] (by simp)
    rw [hdv] at hdm
    have hdi : (ints p.W)[x.length]? = some (d : Int) := by rw [ints_get, hd]; rfl
    obtain ⟨bd, od, rfl, -, -⟩ := hdm.at hdi
    have fM := fld h.blk
    rw [hdv] at fM
    have hE1 : p.B ≤ w.heap.size ∧ w.heap.size ≠ p.Lb := by
      have := h.lt p.Lb (.inl rfl); have := h.lw.2; omega
    obtain ⟨i, hi⟩ : ∃ i, i = x.length := ⟨_, rfl⟩
    obtain ⟨n, hn⟩ : ∃ n, n = p.W.length := ⟨_, rfl⟩
    have hin : ((i : Int) == (n : Int)) = false := by simp; omega
    have hil : i < n := by omega
    have hn4 : n ≤ 4 := by omega
    have hxc : i ≤ xc := by omega
    rw [← hi] at h1 ⊢
    rw [← hn] at fM
    have Hdv := hid hdv; have Hd := hid hd; have HDI := hid hdi; have HE := hid hE1; have Hi := hid hi; have Hn := hid hn; have Hx := hid hx
    clear hp ih hb h hw4 hd hdv hdm hdi hE1 hi hn hx h1
    go_enter Tryz.func19, Tryz.ntmps19
    go_wp2_with fail
    have hgA : Gr [] w (w.alloc (.cells #[.int .i64 0, .int .i64 0, .int .i64 0, .int .i64 0, .int .i64 0, .int .i64 0] 74)) := (Gr.refl _ _).alloc _
    have hbA := heap_alloc_new w (.cells #[.int .i64 0, .int .i64 0, .int .i64 0, .int .i64 0, .int .i64 0, .int .i64 0] 74)
    generalize w.alloc (.cells #[.int .i64 0, .int .i64 0, .int .i64 0, .int .i64 0, .int .i64 0, .int .i64 0] 74) = w0 at *
    have HI0 : Hid (NdI p x (.slice xo i xc) w.heap.size w svs D 0 false [0, 0, 0, 0, 0, 0] svs D w0) := hid (by
      refine ⟨hbA, rfl, fun j hj => by omega, by simp, H.out.gr0 hgA, GrD.refl _, fun j hj => by omega, hgA.any, fun b hb => .inl hb, fun hm => by have := H.out.lt _ (.inr hm); omega, ?_, fun j hj => Nat.le_add_right _ _⟩
      rw [Hi.out]
      exact (Hv.out.sub (fun b hb hm => by rcases List.mem_cons.1 hm with rfl | hm; omega; exact hm)).gr hgA.any)
    clear hgA hbA fM
    go_loopw [7, 26] (fun al u wr => ∃ (k : Nat) (b : Bool) (es : List Int) (svs' : List Value) (D' : List (List SS)), k ≤ 6 ∧ u = .int .i64 k ∧ al = .bool b ∧ NdI p x (.slice xo i xc) w.heap.size w svs D k b es svs' D' wr) (fun _ u _ => 6 - (intOf u).toNat)
    case atStart => exact ⟨0, false, _, svs, D, by omega, rfl, rfl, HI0.out⟩
    case round =>
      obtain ⟨k, b, es, svs', D', hk, rfl, rfl, hI⟩ := hrel
      have HI := hid hI; clear hI
      by_cases hlt : k < 6
      · have ffE := fldF HI.out.eb
        obtain ⟨ek, hek⟩ := get_some (xs := es) (k := k) (by rw [HI.out.el]; exact hlt)
        have fE : wr.cell? ⟨w.heap.size, k, none⟩ = some (.int .i64 ek) := by rw [fld HI.out.eb k]; simp [hek]
        have hg1 : Gr [w.heap.size] wr (wr.setCell ⟨w.heap.size, k, none⟩ (.int .i64 (-1))) := (Gr.refl _ _).setCell _ _ (.inl (by simp))
        have hm1 := HI.out.mv.gr hg1 (fun t ht => by obtain rfl := List.mem_singleton.1 ht; exact ⟨HE.out.1, HE.out.2, HI.out.en⟩)
        have hb1 := cells_sto HI.out.eb k (.int .i64 (-1))
        have fM1 := fld hm1.blk
        rw [Hdv.out, ← Hn.out] at fM1
        have hdm1 := hm1.dom [] (by simp)
        rw [Hdv.out] at hdm1
        obtain ⟨bd', od', e1, -, hcd1⟩ := hdm1.at HDI.out
        cases e1
        rw [← Hi.out] at hcd1
        have Hg1 := hid hg1; have Hm1 := hid hm1; have Hb1 := hid hb1
        clear hg1 hm1 hb1 hdm1
        clear hek
        go_wp2_with fail
        refine (has_c d k hd64 hlt _).mono ?_
        rintro e w1 ⟨rfl, hw1⟩
        rw [← hw1] at Hg1 Hm1 Hb1
        clear hw1 fM1 hcd1 fE ffE
        have hsz1 := Hg1.out.size
        have fE1 : w1.cell? ⟨w.heap.size, k, none⟩ = some (.int .i64 (-1)) := by
          rw [fld Hb1.out k]
          have := HI.out.el
          simp [this, hlt]
        have hsk := sufs_compX Hd.out (k : Int)
        have hmk : ((k : Int) ∈ vals d) ↔ d.testBit k = true := by
          rw [mem_vals]
          constructor
          · rintro ⟨m, hm, _, hb⟩
            obtain rfl : k = m := by omega
            exact hb
          · intro hb; exact ⟨k, rfl, hlt, hb⟩
        cases hbt : d.testBit k
        · rw [if_neg (by rw [hmk, hbt]; simp)] at hsk
          have Hsk := hid hsk
          clear hsk hmk hbt
          have hN := HI.out.next hlt (-1) (by rw [← cells_set1]; exact Hb1.out) (by rw [Hsk.out]; rfl) (.inl Hsk.out) Hm1.out (GrD.refl _) (Hg1.out.sub (fun t _ ht => by simp at ht; simp [ht])) (fun b hb => .inl hb) (fun j hj => Nat.le_add_right _ _)
          have HN := hid hN; clear hN
          cases b
          all_goals
            go_wp2_with fail
            exact ⟨⟨k + 1, _, _, _, _, by omega, by go_num, rfl, HN.out⟩, by simp [intOf]; omega⟩
        · rw [if_pos (by rw [hmk, hbt])] at hsk
          have Hsk := hid hsk
          clear hsk hmk hbt
          have hgd : Gr (w.heap.size :: wset p.Nb p.mbs svs') wr w1 := Hg1.out.sub (fun t _ ht => by simp at ht; simp [ht])
          have hx1 := HI.out.xr.gr hgd
          have Hx1 := hid hx1
          clear hgd hx1
          go_wp2_with fail
          have hcl := Clone_c (.slice xo i xc) x w1 (Hx1.out.sub (by simp)) (by have := Hi.out; omega)
          refine hcl.mono ?_
          clear hcl
          rintro e w2 ⟨cv, rfl, hcl, hg2⟩
          have Hcl := hid hcl; have Hg2 := hid hg2
          clear hcl hg2
          go_wp2_with (at_builtin; refine wp_app1 rfl _ _ 23 rfl w1.heap.size 3 infoInt Tryz.underlying23 _ x rfl (Hcl.out.alloc _) _ 1 (k : Int) rfl (cell_new _ _ _) (by have := Hi.out; omega) (by have := Hg2.out.size; simp; omega) ?_; intro v' w4 hown4 hb4)
          have hg4 : Gr [] w1 w4 := (Hg2.out.alloc _).low hb4 (Nat.le_refl _)
          have hcall := Hih.out (x ++ [(k : Int)]) v' w4 svs' D' (by have := Hx.out; simp; omega) (by
            intro v hv
            rcases List.mem_append.1 hv with hv | hv
            · exact Hb.out v hv
            · obtain rfl := List.mem_singleton.1 hv; omega) (Hm1.out.gr0 hg4) (hown4.nums' fun b hb => .inl (Hm1.out.lt b (.inr hb))) (fun j hj => by
            have h1 := HI.out.rm j hj
            have h2 := Hrm.out j hj
            have h3 := grow_step x.length j
            have h4 : k * grow (x.length + 1) j ≤ 5 * grow (x.length + 1) j := Nat.mul_le_mul_right _ (by omega)
            rw [List.length_append, List.length_singleton]
            omega)
          have Hg4 := hid hg4
          clear hg4 hown4 hb4 Hcl Hg2
          refine hcall.mono ?_
          clear hcall
          rintro e w5 ⟨svs2, D2, he, hm5, hgD, hc5, hg5, hws5, hrm5⟩
          rw [List.length_append, List.length_singleton] at he hc5 hrm5
          rw [← Hsk.out] at he hc5
          obtain ⟨r5, hr5⟩ : ∃ r5, r5 = ixL (lay D2 (x.length + 1)) (sufs (compX p x) (k : Int)) := ⟨_, rfl⟩
          rw [← hr5] at he
          subst he
          have hb5 := hg5.obj (Hg4.out.obj Hb1.out (by simp)) HI.out.en
          rw [cells_set1] at hb5
          have fE5 : w5.cell? ⟨w.heap.size, k, none⟩ = some (.int .i64 (-1)) := by
            rw [fld hb5 k]
            have := HI.out.el
            simp [this, hlt]
          have ffE5 := fldF hb5
          have hb6 := cells_sto hb5 k (.int .i64 r5)
          rw [cells_set1, List.set_set] at hb6
          have fE6 : (w5.setCell ⟨w.heap.size, k, none⟩ (.int .i64 r5)).cell? ⟨w.heap.size, k, none⟩ = some (.int .i64 r5) := by
            rw [fld hb6 k]
            have := HI.out.el
            simp [this, hlt]
          have hE5 : w.heap.size ∉ wset p.Nb p.mbs svs2 := fun hx => by
            have h4 := Hg4.out.size
            have h0 := lt_of_block HI.out.eb
            rcases hws5 _ hx with hx | hx
            · exact HI.out.en hx
            · omega
          have hg6 : Gr [w.heap.size] w5 (w5.setCell ⟨w.heap.size, k, none⟩ (.int .i64 r5)) := (Gr.refl _ _).setCell _ _ (.inl (by simp))
          have hm6 := hm5.gr hg6 (fun t ht => by obtain rfl := List.mem_singleton.1 ht; exact ⟨HE.out.1, HE.out.2, hE5⟩)
          have hN := HI.out.next hlt r5 hb6 hr5 hc5 hm6 hgD
            (((Hg1.out.sub (fun t _ ht => by simp at ht; simp [ht])).trans (Hg4.out.any.trans (hg5.sub (fun t _ ht => by simp [ht])))).trans (hg6.sub (fun t _ ht => by simp at ht; simp [ht])))
            (fun b hb => (hws5 b hb).imp id fun h => by have := Hg4.out.size; omega) hrm5
          have HN := hid hN
          clear hN hm5 hgD hc5 hg5 hws5 hrm5 hr5 hb5 hb6 hE5 hg6 hm6 fE1
          cases b
          · by_cases h0 : 0 ≤ r5
            all_goals
              have HN' := HN.out
              simp only [h0, decide_true, decide_false, Bool.or_true, Bool.or_false] at HN'
              have HN2 := hid HN'
              clear HN' HN
              go_wp2_with fail
              exact ⟨⟨k + 1, _, _, _, _, by omega, by go_num, (by simp [h0]), HN2.out⟩, by simp [intOf]; omega⟩
          · have HN' := HN.out
            simp only [Bool.true_or] at HN'
            have HN2 := hid HN'
            clear HN' HN
            go_wp2_with fail
            exact ⟨⟨k + 1, _, _, _, _, by omega, by go_num, rfl, HN2.out⟩, by simp [intOf]; omega⟩
      · have hk6 : k = 6 := by omega
        subst hk6
        have HS := hid (compX_good (p := p) (x := x) (by have := Hx.out; omega))
        have hS0 : b = true ↔ compX p x ≠ [] := by
          rw [HI.out.al]
          constructor
          · rintro ⟨j, hj, h0⟩ he
            rw [he] at h0
            exact h0 rfl
          · intro h0
            have hg := HS.out
            rw [show p.W.length - x.length = r + 1 by have := Hx.out; omega] at hg
            obtain ⟨v, hv, h1⟩ := good_ne hg h0
            obtain ⟨j, hj, rfl⟩ := vs6_mem hv
            exact ⟨j, hj, h1⟩
        have HS0 := hid hS0
        have HF : Hid (Gr (wset p.Nb p.mbs svs) w wr) := hid ((Gr.refl _ _).step HI.out.fr (fun t ht => by
          rcases List.mem_cons.1 ht with rfl | ht
          · exact .inr (Nat.le_refl _)
          · exact .inl ht))
        clear hS0 hlt
        cases b
        · have h0 : compX p x = [] := by
            by_cases h0 : compX p x = []
            · exact h0
            · exact absurd (HS0.out.2 h0) (by simp)
          have H0 := hid h0
          clear h0
          go_wp2_with fail
          go_ret
          exact ⟨svs', D', by rw [H0.out]; rfl, HI.out.mv, HI.out.gr, .inl H0.out, HF.out, HI.out.ws, fun j hj => by have h1 := HI.out.rm j hj; have h3 := grow_step x.length j; omega⟩
        · have h0 := HS0.out.1 rfl
          have H0 := hid h0
          clear h0
          have hil2 : x.length < p.W.length := by have := Hx.out; omega
          have hcl6 : ClosedS (lay D' (x.length + 1)) (compX p x) := fun v hv => by
            obtain ⟨j, hj, rfl⟩ := vs6_mem hv
            exact HI.out.cl j hj
          have hes : es = rowP (lay D' (x.length + 1)) (compX p x) := List.ext_getElem? fun j => by
            by_cases hj : j < 6
            · rw [HI.out.ev j hj]
              unfold rowP
              rw [List.getElem?_map, vs6_get hj]; rfl
            · rw [List.getElem?_eq_none (by rw [HI.out.el]; omega), List.getElem?_eq_none (by have : (rowP (lay D' (x.length + 1)) (compX p x)).length = 6 := rfl; omega)]
          have hlx : (lay D' (x.length + 1)).length ≤ 10000 := by
            by_cases h9 : x.length + 1 < p.W.length
            · have h1 := HI.out.rm _ h9; have h2 := Hrm.out _ h9; have h3 := grow_step x.length (x.length + 1); omega
            · rw [lay_end (by rw [HI.out.mv.ok.len]; omega)]; decide
          have hll : (lay D' x.length).length ≤ 10000 := by
            have h1 := HI.out.rm _ hil2; have h2 := Hrm.out _ hil2; have h3 := grow_step x.length x.length; omega
          have hk6 : Key6 es := by rw [hes]; exact key6_row hcl6 hlx
          have hrk := key6_rows HI.out.mv.ok hil2 hlx
          have hnd := rowsD_nodup HI.out.mv.ok hil2
          obtain ⟨m, hm⟩ := get_some (xs := p.mbs) (k := x.length) (by rw [Hp.out.ml]; exact hil2)
          obtain ⟨hLb, hmap⟩ := HI.out.mv.lyr x.length m hm
          have hmem := rowsD_mem HI.out.mv.ok hil2 HS.out hcl6
          rw [← hes] at hmem
          obtain ⟨t, ht⟩ : ∃ t, t = decide (compX p x ∈ lay D' x.length) := ⟨_, rfl⟩
          obtain ⟨q, hq⟩ : ∃ q : Int, q = if es ∈ rowsD D' x.length then ((rowsD D' x.length).idxOf es : Int) else 0 := ⟨_, rfl⟩
          have hlk : ∀ nq, (Instr.lookup 53 (.map (some m)) (keyE es) true).run Tryz.prog (wr.drewN nq) = .ok (.tuple #[.int .i64 q, .bool t]) (wr.drewN nq) := fun nq => by
            have e1 : decide (es ∈ rowsD D' x.length) = t := by rw [ht, decide_eq_decide]; exact hmem
            rw [lookup6 (wr.drewN nq) m _ es hmap hrk hk6 hnd, ← hq, e1]
          have fE := fld HI.out.eb
          have fMr := fld HI.out.mv.blk
          rw [Hdv.out, ← Hn.out] at fMr
          rw [← Hi.out] at hLb
          have Hil2 := hid hil2; have Hcl6 := hid hcl6; have Hes := hid hes; have Hlx := hid hlx; have Hll := hid hll; have Hk6 := hid hk6; have Hrk := hid hrk; have Hm := hid hm; have Hmap := hid hmap; have Hmem := hid hmem; have Ht := hid ht; have Hq := hid hq; have Hnd := hid hnd
          obtain ⟨e0, e1, e2, e3, e4, e5, he6⟩ := six HI.out.el
          have hlk2 : ∀ nq, (Instr.lookup 53 (.map (some m)) (.agg #[.int .i64 e0, .int .i64 e1, .int .i64 e2, .int .i64 e3, .int .i64 e4, .int .i64 e5]) true).run Tryz.prog (wr.drewN nq) = .ok (.tuple #[.int .i64 q, .bool t]) (wr.drewN nq) := fun nq => by
            have := hlk nq
            rw [he6] at this; exact this
          rw [he6] at fE
          have He6 := hid he6
          have fE2 : ∀ i, wr.cell? ⟨w.heap.size, i, none⟩ = #[Value.int .i64 e0, .int .i64 e1, .int .i64 e2, .int .i64 e3, .int .i64 e4, .int .i64 e5][i]? := fE
          clear hil2 hcl6 hes hlx hll hk6 hrk hm hmap hmem ht hq hnd hlk fE he6
          go_wp2_with fail
          go_quiet (fail)
          have hgq : Gr [] wr (wr.drewN nq) := (Gr.refl _ _).drewN nq
          clear hlk2 fMr fE2 hLb
          generalize wr.drewN nq = wq at *
          have Hgq := hid hgq; have Hmq := hid (HI.out.mv.gr0 hgq); have HEq := hid (hgq.obj HI.out.eb (by simp))
          clear hgq
          cases t
          · have hn : compX p x ∉ lay D' x.length := by have := Ht.out; simpa using this
            obtain ⟨s, hs⟩ := get_some (xs := svs') (k := x.length) (by rw [Hmq.out.sl]; exact Hil2.out)
            have hrow := Hmq.out.row _ s hs
            obtain ⟨so, sc, rfl, hsc⟩ := hrow.form
            have hl6 : (cells6 (rowsD D' x.length)).length = (lay D' x.length).length := by simp [cells6, rowsD]
            rw [hl6] at hs hrow hsc
            obtain ⟨L, hL⟩ : ∃ L, L = (lay D' x.length).length := ⟨_, rfl⟩
            have hL1 : L ≤ 10000 := by rw [hL]; exact Hll.out
            rw [← hL] at hs hrow hsc
            have fMq := fld Hmq.out.blk
            rw [Hdv.out, ← Hn.out] at fMq
            have fNq : wq.cell? ⟨p.Nb, i, none⟩ = some (.slice so L sc) := by
              rw [fld Hmq.out.nod i, Hi.out]; simpa using hs
            have hnc := Hp.out.nc
            rw [← Hn.out] at hnc
            have hsc1 := hsc.1; have hsc2 := hsc.2.1
            have Hs := hid hs; have Hrow := hid hrow; have HL := hid hL; have Hni := hid hn
            clear hn hs hrow hL hsc hl6
            go_wp2_with fail
            have hLq := (Hmq.out.lyr x.length m Hm.out).1
            have hmapq := (Hmq.out.lyr x.length m Hm.out).2
            rw [← Hi.out] at hLq
            have fEq : ∀ j, wq.cell? ⟨w.heap.size, j, none⟩ = #[Value.int .i64 e0, .int .i64 e1, .int .i64 e2, .int .i64 e3, .int .i64 e4, .int .i64 e5][j]? := by
              have := fld HEq.out
              rw [He6.out] at this
              exact this
            have hnr : es ∉ rowsD D' x.length := fun h => Hni.out (Hmem.out.1 h)
            have hLr : (rowsD D' x.length).length = L := by rw [HL.out]; simp [rowsD]
            have hins := insert6 wq.drew m _ es hmapq Hrk.out Hk6.out hnr (by omega)
            rw [hLr] at hins
            obtain ⟨w7, hw7⟩ : ∃ w7, w7 = { wq.drew with heap := wq.drew.heap.setIfInBounds m (.map (esOf (rowsD D' x.length ++ [es])).toArray (rowsD D' x.length ++ [es]).length) } := ⟨_, rfl⟩
            rw [← hw7] at hins
            have hmlt := lt_of_block hmapq
            have hg7 : Gr [m] wq w7 := by
              rw [hw7]
              refine ⟨rfl, rfl, rfl, by simp, fun k hk hs => ?_⟩
              simp only [Array.getElem?_setIfInBounds]
              rw [if_neg (by intro e; subst e; simp at hs)]
              rfl
            have hm7 : w7.heap[m]? = some (.map (esOf (rowsD D' x.length ++ [es])).toArray (rowsD D' x.length ++ [es]).length) := by
              rw [hw7]
              simp only [Array.getElem?_setIfInBounds]
              rw [if_pos trivial, if_pos (by exact hmlt)]
            have hmw : m ∈ wset p.Nb p.mbs svs' := mem_wset.2 (.inr (.inl (List.mem_of_getElem? Hm.out)))
            have hnM : p.M ≠ m := fun e => by
              have h1 := Hmq.out.mB.1; have h2 := (Hmq.out.mb m (List.mem_of_getElem? Hm.out)).1; omega
            have hnL : p.Lb ≠ m := fun e => Hmq.out.lw.1 (e ▸ hmw)
            have hnE : w.heap.size ≠ m := fun e => HI.out.en (e ▸ hmw)
            have hnN : p.Nb ≠ m := fun e => (Hmq.out.mb m (List.mem_of_getElem? Hm.out)).2 e.symm
            have fM7 := hg7.cell (fMq 6) (by simp; exact hnM)
            have fM7b := hg7.cell (fMq 7) (by simp; exact hnM)
            have hL7 := hg7.cell hLq (by simp; exact hnL)
            have fN7 := hg7.cell fNq (by simp; exact hnN)
            have fE7 : ∀ j, w7.cell? ⟨w.heap.size, j, none⟩ = #[Value.int .i64 e0, .int .i64 e1, .int .i64 e2, .int .i64 e3, .int .i64 e4, .int .i64 e5][j]? := by
              have := fld (hg7.obj HEq.out (by simp; exact hnE))
              rw [He6.out] at this
              exact this
            have hins2 : (Instr.mapUpdate 53 (.map (some m)) (.agg #[.int .i64 e0, .int .i64 e1, .int .i64 e2, .int .i64 e3, .int .i64 e4, .int .i64 e5]) (.int .i64 (L : Int))).run Tryz.prog wq.drew = .ok () w7 := by
              have := hins
              rw [He6.out] at this
              exact this
            have Hg7 := hid hg7; have Hm7 := hid hm7; have HnE := hid hnE
            clear hins hw7 hg7 hm7 hmapq hnr hLr hmlt hnM hnL hnE hnN hmw fNq
            refine wp_region_held_drew (S := (fun W => W.cell? ⟨p.M, 6, none⟩ = some (.slice (some ⟨p.Lb, 0, none⟩) n p.lc) ∧ W.cell? ⟨p.Lb, i, none⟩ = some (.map (some m)) ∧ (∀ j, W.cell? ⟨w.heap.size, j, none⟩ = #[Value.int .i64 e0, .int .i64 e1, .int .i64 e2, .int .i64 e3, .int .i64 e4, .int .i64 e5][j]?))) (by kernel_rfl) ?_ (fun hHeld => ?_)
            · exact ⟨fMq 6, hLq, fEq⟩
            refine wpAnyH_take (i := 0) (v := ?_) rfl (by kernel_rfl) (by kernel_rfl) (by kernel_rfl) (fun _ _ _ h => h) (Or.inl ⟨by rfl, ?_⟩) (by assumption) ?_
            rotate_left
            · intro Wx hSw; (try dsimp only at hSw); obtain ⟨hS1, hS2, hS3⟩ := hSw; go_simp; (try with_reducible rfl)
            try simp only [Act.put, List.setIfInBounds_toArray, List.set_cons_zero, List.set_cons_succ, List.getElem_toArray, List.getElem_cons_zero, List.getElem_cons_succ]
            refine wpAnyH_take (i := 1) (v := ?_) rfl (by kernel_rfl) (by kernel_rfl) (by kernel_rfl) (fun _ _ _ h => h) (Or.inl ⟨by rfl, ?_⟩) (by assumption) ?_
            rotate_left
            · intro Wx hSw; (try dsimp only at hSw); obtain ⟨hS1, hS2, hS3⟩ := hSw; go_simp; (try with_reducible rfl)
            try simp only [Act.put, List.setIfInBounds_toArray, List.set_cons_zero, List.set_cons_succ, List.getElem_toArray, List.getElem_cons_zero, List.getElem_cons_succ]
            refine wpAnyH_take (i := 2) (v := ?_) rfl (by kernel_rfl) (by kernel_rfl) (by kernel_rfl) (fun _ _ _ h => h) (Or.inl ⟨by rfl, ?_⟩) (by assumption) ?_
            rotate_left
            · intro Wx hSw; (try dsimp only at hSw); obtain ⟨hS1, hS2, hS3⟩ := hSw; go_simp; (try with_reducible rfl)
            try simp only [Act.put, List.setIfInBounds_toArray, List.set_cons_zero, List.set_cons_succ, List.getElem_toArray, List.getElem_cons_zero, List.getElem_cons_succ]
            refine wpAnyH_take (i := 3) (v := ?_) rfl (by kernel_rfl) (by kernel_rfl) (by kernel_rfl) (fun _ _ _ h => h) (Or.inl ⟨by rfl, ?_⟩) (by assumption) ?_
            rotate_left
            · intro Wx hSw; (try dsimp only at hSw); obtain ⟨hS1, hS2, hS3⟩ := hSw; go_simp; (try with_reducible rfl)
            try simp only [Act.put, List.setIfInBounds_toArray, List.set_cons_zero, List.set_cons_succ, List.getElem_toArray, List.getElem_cons_zero, List.getElem_cons_succ]
            refine wpAnyH_take (i := 4) (v := ?_) rfl (by kernel_rfl) (by kernel_rfl) (by kernel_rfl) (fun _ _ _ h => h) (Or.inl ⟨by rfl, ?_⟩) (by assumption) ?_
            rotate_left
            · intro Wx hSw; (try dsimp only at hSw); obtain ⟨hS1, hS2, hS3⟩ := hSw; go_simp; (try with_reducible rfl)
            try simp only [Act.put, List.setIfInBounds_toArray, List.set_cons_zero, List.set_cons_succ, List.getElem_toArray, List.getElem_cons_zero, List.getElem_cons_succ]
            refine wpAnyH_take (i := 5) (v := ?_) rfl (by kernel_rfl) (by kernel_rfl) (by kernel_rfl) (fun _ _ _ h => h) (Or.inl ⟨by rfl, ?_⟩) (by assumption) ?_
            rotate_left
            · intro Wx hSw; (try dsimp only at hSw); obtain ⟨hS1, hS2, hS3⟩ := hSw; go_simp; (try with_reducible rfl)
            try simp only [Act.put, List.setIfInBounds_toArray, List.set_cons_zero, List.set_cons_succ, List.getElem_toArray, List.getElem_cons_zero, List.getElem_cons_succ]
            refine wpAnyH_take (i := 6) (v := ?_) rfl (by kernel_rfl) (by kernel_rfl) (by kernel_rfl) (fun _ _ _ h => h) (Or.inl ⟨by rfl, ?_⟩) (by assumption) ?_
            rotate_left
            · intro Wx hSw; (try dsimp only at hSw); obtain ⟨hS1, hS2, hS3⟩ := hSw; go_simp; (try with_reducible rfl)
            try simp only [Act.put, List.setIfInBounds_toArray, List.set_cons_zero, List.set_cons_succ, List.getElem_toArray, List.getElem_cons_zero, List.getElem_cons_succ]
            refine wpAnyH_take (i := 7) (v := ?_) rfl (by kernel_rfl) (by kernel_rfl) (by kernel_rfl) (fun _ _ _ h => h) (Or.inl ⟨by rfl, ?_⟩) (by assumption) ?_
            rotate_left
            · intro Wx hSw; (try dsimp only at hSw); obtain ⟨hS1, hS2, hS3⟩ := hSw; go_simp; (try with_reducible rfl)
            try simp only [Act.put, List.setIfInBounds_toArray, List.set_cons_zero, List.set_cons_succ, List.getElem_toArray, List.getElem_cons_zero, List.getElem_cons_succ]
            refine wpAnyH_take (i := 8) (v := ?_) rfl (by kernel_rfl) (by kernel_rfl) (by kernel_rfl) (fun _ _ _ h => h) (Or.inl ⟨by rfl, ?_⟩) (by assumption) ?_
            rotate_left
            · intro Wx hSw; (try dsimp only at hSw); obtain ⟨hS1, hS2, hS3⟩ := hSw; go_simp; (try with_reducible rfl)
            try simp only [Act.put, List.setIfInBounds_toArray, List.set_cons_zero, List.set_cons_succ, List.getElem_toArray, List.getElem_cons_zero, List.getElem_cons_succ]
            refine wpAnyH_ready (rs := [9]) (by kernel_rfl) (by simp) ?_
            refine AllReadyH.cons rfl (fun Kx hKx => ?_) AllReadyH.nil
            go_simp
            refine hKx.out _ _ ?_ (fun hHeld => ?_)
            · (try dsimp only); (exact ⟨fM7, hL7, fE7⟩)
            clear hKx Kx
            try simp only [Act.put, List.setIfInBounds_toArray, List.set_cons_zero, List.set_cons_succ, List.getElem_toArray, List.getElem_cons_zero, List.getElem_cons_succ]
            refine wpAnyH_done (by kernel_rfl) ?_ _
            go_wp2_with fail
            have hnb : ∀ b, (Value.slice so L sc).ownBlock = some b → b ≠ m ∧ b ≠ p.Nb ∧ b ≠ p.M ∧ b ≠ w.heap.size := fun b hb => by
              have hsv := List.mem_of_getElem? Hs.out
              have h1 := Hmq.out.sn _ hsv b hb
              refine ⟨fun e => h1.2 (e ▸ List.mem_of_getElem? Hm.out), h1.1, fun e => ?_, fun e => HI.out.en (e ▸ mem_wset.2 (.inr (.inr ⟨_, hsv, hb⟩)))⟩
              have := (Hrow.out.own hb).1; have := Hmq.out.mB.1; omega
            have hrowA : OwnV 6 p.B (w7.alloc (.cells #[.int .i64 e0, .int .i64 e1, .int .i64 e2, .int .i64 e3, .int .i64 e4, .int .i64 e5] 74)).drew 74 (.slice so L sc) (cells6 (rowsD D' x.length)) := (Hrow.out.keep Hg7.out (fun g hg hx => (hnb g hg).1 (List.mem_singleton.1 hx))).gr (((Gr.refl [] w7).alloc _).drew)
            have hgA : Gr [] w7 (w7.alloc (.cells #[.int .i64 e0, .int .i64 e1, .int .i64 e2, .int .i64 e3, .int .i64 e4, .int .i64 e5] 74)).drew := ((Gr.refl [] w7).alloc _).drew
            have hNm : p.Nb ≠ m := fun e => (Hmq.out.mb m (List.mem_of_getElem? Hm.out)).2 e.symm
            have hNb7 := Hg7.out.obj Hmq.out.nod (by simp; exact hNm)
            have hNbA := hgA.obj hNb7 (by simp)
            have fMA := hgA.cell fM7b (by simp)
            have fNA := hgA.cell fN7 (by simp)
            have fEA : ∀ j, (w7.alloc (.cells #[.int .i64 e0, .int .i64 e1, .int .i64 e2, .int .i64 e3, .int .i64 e4, .int .i64 e5] 74)).drew.cell? ⟨w.heap.size, j, none⟩ = #[Value.int .i64 e0, .int .i64 e1, .int .i64 e2, .int .i64 e3, .int .i64 e4, .int .i64 e5][j]? := by
              have := fld (hgA.obj (Hg7.out.obj HEq.out (by simp; exact HnE.out)) (by simp))
              rw [He6.out] at this
              exact this
            have hnewA : ∀ j u, [Value.int .i64 e0, .int .i64 e1, .int .i64 e2, .int .i64 e3, .int .i64 e4, .int .i64 e5][j]? = some u → (w7.alloc (.cells #[.int .i64 e0, .int .i64 e1, .int .i64 e2, .int .i64 e3, .int .i64 e4, .int .i64 e5] 74)).drew.cell? ⟨w7.heap.size, j, none⟩ = some u := fun j u hj => by
              have := fld (heap_alloc_new w7 (.cells #[.int .i64 e0, .int .i64 e1, .int .i64 e2, .int .i64 e3, .int .i64 e4, .int .i64 e5] 74)) j
              rw [← hj]
              refine Eq.trans this ?_
              match j with
              | 0 | 1 | 2 | 3 | 4 | 5 => rfl
              | k + 6 => simp
            have Hnb := hid hnb; have HrowA := hid hrowA; have HgA := hid hgA; have HNbA := hid hNbA; have HnewA := hid hnewA; have HfEA := hid fEA
            have hL6 : (cells6 (rowsD D' x.length)).length = L := by rw [HL.out]; simp [cells6, rowsD]
            have HL6 := hid hL6
            clear hnb hrowA hgA hNb7 hNbA hnewA hNm hL6
            refine wp_region_held_drew (S := (fun W => W.cell? ⟨p.M, 7, none⟩ = some (.slice (some ⟨p.Nb, 0, none⟩) n p.nc) ∧ (∀ j, W.cell? ⟨w.heap.size, j, none⟩ = #[Value.int .i64 e0, .int .i64 e1, .int .i64 e2, .int .i64 e3, .int .i64 e4, .int .i64 e5][j]?))) (by kernel_rfl) ?_ (fun hHeld => ?_)
            · exact ⟨fM7b, fE7⟩
            refine wpAnyH_take (i := 0) (v := ?_) rfl (by kernel_rfl) (by kernel_rfl) (by kernel_rfl) (fun _ _ _ h => h) (Or.inl ⟨by rfl, ?_⟩) (by assumption) ?_
            rotate_left
            · intro Wx hSw; (try dsimp only at hSw); obtain ⟨hS1, hS2⟩ := hSw; go_simp; (try with_reducible rfl)
            try simp only [Act.put, List.setIfInBounds_toArray, List.set_cons_zero, List.set_cons_succ, List.getElem_toArray, List.getElem_cons_zero, List.getElem_cons_succ]
            refine wpAnyH_take (i := 1) (v := ?_) rfl (by kernel_rfl) (by kernel_rfl) (by kernel_rfl) (fun _ _ _ h => h) (Or.inl ⟨by rfl, ?_⟩) (by assumption) ?_
            rotate_left
            · intro Wx hSw; (try dsimp only at hSw); obtain ⟨hS1, hS2⟩ := hSw; go_simp; (try with_reducible rfl)
            try simp only [Act.put, List.setIfInBounds_toArray, List.set_cons_zero, List.set_cons_succ, List.getElem_toArray, List.getElem_cons_zero, List.getElem_cons_succ]
            refine wpAnyH_take (i := 2) (v := ?_) rfl (by kernel_rfl) (by kernel_rfl) (by kernel_rfl) (fun _ _ _ h => h) (Or.inl ⟨by rfl, ?_⟩) (by assumption) ?_
            rotate_left
            · intro Wx hSw; (try dsimp only at hSw); obtain ⟨hS1, hS2⟩ := hSw; go_simp; (try with_reducible rfl)
            try simp only [Act.put, List.setIfInBounds_toArray, List.set_cons_zero, List.set_cons_succ, List.getElem_toArray, List.getElem_cons_zero, List.getElem_cons_succ]
            refine wpAnyH_take (i := 3) (v := ?_) rfl (by kernel_rfl) (by kernel_rfl) (by kernel_rfl) (fun _ _ _ h => h) (Or.inl ⟨by rfl, ?_⟩) (by assumption) ?_
            rotate_left
            · intro Wx hSw; (try dsimp only at hSw); obtain ⟨hS1, hS2⟩ := hSw; go_simp; (try with_reducible rfl)
            try simp only [Act.put, List.setIfInBounds_toArray, List.set_cons_zero, List.set_cons_succ, List.getElem_toArray, List.getElem_cons_zero, List.getElem_cons_succ]
            refine wpAnyH_take (i := 4) (v := ?_) rfl (by kernel_rfl) (by kernel_rfl) (by kernel_rfl) (fun _ _ _ h => h) (Or.inl ⟨by rfl, ?_⟩) (by assumption) ?_
            rotate_left
            · intro Wx hSw; (try dsimp only at hSw); obtain ⟨hS1, hS2⟩ := hSw; go_simp; (try with_reducible rfl)
            try simp only [Act.put, List.setIfInBounds_toArray, List.set_cons_zero, List.set_cons_succ, List.getElem_toArray, List.getElem_cons_zero, List.getElem_cons_succ]
            refine wpAnyH_take (i := 5) (v := ?_) rfl (by kernel_rfl) (by kernel_rfl) (by kernel_rfl) (fun _ _ _ h => h) (Or.inl ⟨by rfl, ?_⟩) (by assumption) ?_
            rotate_left
            · intro Wx hSw; (try dsimp only at hSw); obtain ⟨hS1, hS2⟩ := hSw; go_simp; (try with_reducible rfl)
            try simp only [Act.put, List.setIfInBounds_toArray, List.set_cons_zero, List.set_cons_succ, List.getElem_toArray, List.getElem_cons_zero, List.getElem_cons_succ]
            refine wpAnyH_take (i := 6) (v := ?_) rfl (by kernel_rfl) (by kernel_rfl) (by kernel_rfl) (fun _ _ _ h => h) (Or.inl ⟨by rfl, ?_⟩) (by assumption) ?_
            rotate_left
            · intro Wx hSw; (try dsimp only at hSw); obtain ⟨hS1, hS2⟩ := hSw; go_simp; (try with_reducible rfl)
            try simp only [Act.put, List.setIfInBounds_toArray, List.set_cons_zero, List.set_cons_succ, List.getElem_toArray, List.getElem_cons_zero, List.getElem_cons_succ]
            refine wpAnyH_take (i := 7) (v := ?_) rfl (by kernel_rfl) (by kernel_rfl) (by kernel_rfl) (fun _ _ _ h => h) (Or.inl ⟨by rfl, ?_⟩) (by assumption) ?_
            rotate_left
            · intro Wx hSw; (try dsimp only at hSw); obtain ⟨hS1, hS2⟩ := hSw; go_simp; (try with_reducible rfl)
            try simp only [Act.put, List.setIfInBounds_toArray, List.set_cons_zero, List.set_cons_succ, List.getElem_toArray, List.getElem_cons_zero, List.getElem_cons_succ]
            refine wpAnyH_take (i := 8) (v := ?_) rfl (by kernel_rfl) (by kernel_rfl) (by kernel_rfl) (fun _ _ _ h => h) (Or.inl ⟨by rfl, ?_⟩) (by assumption) ?_
            rotate_left
            · intro Wx hSw; (try dsimp only at hSw); obtain ⟨hS1, hS2⟩ := hSw; go_simp; (try with_reducible rfl)
            try simp only [Act.put, List.setIfInBounds_toArray, List.set_cons_zero, List.set_cons_succ, List.getElem_toArray, List.getElem_cons_zero, List.getElem_cons_succ]
            refine wpAnyH_take (i := 9) (v := ?_) rfl (by kernel_rfl) (by kernel_rfl) (by kernel_rfl) (fun _ _ _ h => h) (Or.inl ⟨by rfl, ?_⟩) (by assumption) ?_
            rotate_left
            · intro Wx hSw; (try dsimp only at hSw); obtain ⟨hS1, hS2⟩ := hSw; go_simp; (try with_reducible rfl)
            try simp only [Act.put, List.setIfInBounds_toArray, List.set_cons_zero, List.set_cons_succ, List.getElem_toArray, List.getElem_cons_zero, List.getElem_cons_succ]
            refine wpAnyH_take (i := 10) (v := ?_) rfl (by kernel_rfl) (by kernel_rfl) (by kernel_rfl) (fun _ _ _ h => h) (Or.inl ⟨by rfl, ?_⟩) (by assumption) ?_
            rotate_left
            · intro Wx hSw; (try dsimp only at hSw); obtain ⟨hS1, hS2⟩ := hSw; go_simp; (try with_reducible rfl)
            try simp only [Act.put, List.setIfInBounds_toArray, List.set_cons_zero, List.set_cons_succ, List.getElem_toArray, List.getElem_cons_zero, List.getElem_cons_succ]
            refine wpAnyH_take (i := 12) (v := ?_) rfl (by kernel_rfl) (by kernel_rfl) (by kernel_rfl) (fun _ _ _ h => h) (Or.inl ⟨by rfl, ?_⟩) (by assumption) ?_
            rotate_left
            · intro Wx hSw; (try dsimp only at hSw); obtain ⟨hS1, hS2⟩ := hSw; go_simp; (try with_reducible rfl)
            try simp only [Act.put, List.setIfInBounds_toArray, List.set_cons_zero, List.set_cons_succ, List.getElem_toArray, List.getElem_cons_zero, List.getElem_cons_succ]
            refine wpAnyH_ready (rs := [11, 13]) (by kernel_rfl) (by simp) ?_
            refine AllReadyH.cons rfl (fun Kx hKx => ?_) (AllReadyH.cons rfl (fun Kx hKx => ?_) AllReadyH.nil)
            · go_simp
              refine hKx.out _ _ ?_ (fun hHeld => ?_)
              · (try dsimp only); (exact ⟨fM7b, fE7⟩)
              clear hKx Kx
              try simp only [Act.put, List.setIfInBounds_toArray, List.set_cons_zero, List.set_cons_succ, List.getElem_toArray, List.getElem_cons_zero, List.getElem_cons_succ]
              refine wpAnyH_ready (rs := [13]) (by kernel_rfl) (by simp) ?_
              refine AllReadyH.cons rfl (fun Kx hKx => ?_) AllReadyH.nil
              go_simp
              refine hKx.out _ _ ?_ (fun hHeld => ?_)
              · (try dsimp only); (exact ⟨fMA, fEA⟩)
              clear hKx Kx
              try simp only [Act.put, List.setIfInBounds_toArray, List.set_cons_zero, List.set_cons_succ, List.getElem_toArray, List.getElem_cons_zero, List.getElem_cons_succ]
              refine wpAnyH_ready (rs := [14]) (by kernel_rfl) (by simp) ?_
              refine AllReadyH.cons rfl (fun Kx hKx => ?_) AllReadyH.nil
              refine step_appV rfl _ _ 77 rfl 6 p.B 74 _ 48 infoE rfl (by omega) (by omega) Tryz.underlying77 (.slice so L sc) (cells6 (rowsD D' x.length)) rfl HrowA.out w7.heap.size 1 [.int .i64 e0, .int .i64 e1, .int .i64 e2, .int .i64 e3, .int .i64 e4, .int .i64 e5] rfl rfl (by simp [Value.oneCell']) HnewA.out (by rw [HL6.out]; omega) (by have h1 := HE.out.1; have h2 := lt_of_block HEq.out; have h3 := Hg7.out.size; have h4 := HgA.out.size; omega) ?_
              intro g8 c8 w8 hown8 hg8 hwh8 hlt8
              have fM8 := hg8.cell fMA (by simp; exact fun h => (Hnb.out _ h).2.2.1 rfl)
              have fE8 : ∀ j, w8.cell? ⟨w.heap.size, j, none⟩ = #[Value.int .i64 e0, .int .i64 e1, .int .i64 e2, .int .i64 e3, .int .i64 e4, .int .i64 e5][j]? := by
                have := fld (hg8.obj (HgA.out.obj (Hg7.out.obj HEq.out (by simp; exact HnE.out)) (by simp)) (by simp; exact fun h => (Hnb.out _ h).2.2.2 rfl))
                rw [He6.out] at this
                exact this
              have hNb8 := hg8.obj HNbA.out (by simp; exact fun h => (Hnb.out _ h).2.1 rfl)
              have fN8 : w8.cell? ⟨p.Nb, i, none⟩ = some (.slice so L sc) := by
                rw [fld hNb8 i, Hi.out]; simpa using Hs.out
              have ffN8 := fldF hNb8 i
              have Hown8 := hid hown8; have Hg8 := hid hg8; have Hwh8 := hid hwh8; have HNb8 := hid hNb8
              clear hown8 hg8 hwh8 hNb8
              refine hKx.out _ _ ?_ (fun hHeld => ?_)
              · (try dsimp only); (exact ⟨fM8, fE8⟩)
              clear hKx Kx
              try simp only [Act.put, List.setIfInBounds_toArray, List.set_cons_zero, List.set_cons_succ, List.getElem_toArray, List.getElem_cons_zero, List.getElem_cons_succ]
              refine wpAnyH_take (i := 15) (v := ?_) rfl (by kernel_rfl) (by kernel_rfl) (by kernel_rfl) (fun _ _ _ h => h) (Or.inl ⟨by rfl, ?_⟩) (by assumption) ?_
              rotate_left
              · intro Wx hSw; (try dsimp only at hSw); obtain ⟨hS1, hS2⟩ := hSw; go_simp; (try with_reducible rfl)
              try simp only [Act.put, List.setIfInBounds_toArray, List.set_cons_zero, List.set_cons_succ, List.getElem_toArray, List.getElem_cons_zero, List.getElem_cons_succ]
              refine wpAnyH_ready (rs := [16]) (by kernel_rfl) (by simp) ?_
              refine AllReadyH.cons rfl (fun Kx hKx => ?_) AllReadyH.nil
              go_simp
              have hg9 : Gr [p.Nb] w8 (w8.setCell ⟨p.Nb, i, none⟩ (.slice (some ⟨g8, 0, none⟩) ((cells6 (rowsD D' x.length)).length + 1) c8)) := (Gr.refl _ _).setCell _ _ (.inl (by simp))
              have hNb9 := cells_sto HNb8.out i (.slice (some ⟨g8, 0, none⟩) ((cells6 (rowsD D' x.length)).length + 1) c8)
              have fM9 := hg9.cell fM8 (by simp; exact Hmq.out.mB.2)
              have hEN : w.heap.size ≠ p.Nb := fun e => HI.out.en (e ▸ mem_wset.2 (.inl rfl))
              have fE9 : ∀ j, (w8.setCell ⟨p.Nb, i, none⟩ (.slice (some ⟨g8, 0, none⟩) ((cells6 (rowsD D' x.length)).length + 1) c8)).cell? ⟨w.heap.size, j, none⟩ = #[Value.int .i64 e0, .int .i64 e1, .int .i64 e2, .int .i64 e3, .int .i64 e4, .int .i64 e5][j]? := fun j => by
                rw [World.cell?_setCell_other _ _ _ _ (by first | (simp; done) | (simp; exact fun e => absurd e hEN))]; exact fE8 j
              generalize (w8.setCell ⟨p.Nb, i, none⟩ (.slice (some ⟨g8, 0, none⟩) ((cells6 (rowsD D' x.length)).length + 1) c8)) = w9 at hg9 hNb9 fM9 fE9 ⊢
              refine hKx.out _ _ ?_ (fun hHeld => ?_)
              · (try dsimp only); (exact ⟨fM9, fE9⟩)
              clear hKx Kx
              try simp only [Act.put, List.setIfInBounds_toArray, List.set_cons_zero, List.set_cons_succ, List.getElem_toArray, List.getElem_cons_zero, List.getElem_cons_succ]
              refine wpAnyH_done (by kernel_rfl) ?_ _
              have Hg9 := hid hg9; have HNb9 := hid hNb9
              clear hg9 hNb9 fM9 fE9 fE8 fM8 fN8 ffN8
              go_wp2_with fail
              go_ret
              have hgT : Gr (m :: p.Nb :: (Value.slice so L sc).ownBlock.toList) wq w9 :=
                (((Hg7.out.sub (fun k _ hk => by simp at hk; simp [hk])).trans HgA.out.any).trans (Hg8.out.sub (fun k _ hk => by simp at hk ⊢; exact .inr (.inr hk)))).trans (Hg9.out.sub (fun k _ hk => by simp at hk; simp [hk]))
              have hm9 : w9.heap[m]? = some (.map (esOf (rowsD D' x.length ++ [es])).toArray (rowsD D' x.length ++ [es]).length) :=
                Hg9.out.obj (Hg8.out.obj (HgA.out.obj Hm7.out (by simp)) (by simp; exact fun h => (Hnb.out _ h).1 rfl)) (by first | (simp; done) | (simp; exact fun e => (Hmq.out.mb m (List.mem_of_getElem? Hm.out)).2 e) | (simp; exact (Hmq.out.mb m (List.mem_of_getElem? Hm.out)).2))
              have hown9 : OwnV 6 p.B w9 74 (.slice (some ⟨g8, 0, none⟩) ((cells6 (rowsD D' x.length)).length + 1) c8) (cells6 (rowsD D' x.length ++ [es])) := by
                rw [cells6_snoc, He6.out]
                refine Hown8.out.keep Hg9.out (fun g hg hx => ?_)
                simp only [Value.ownBlock, Option.some.injEq] at hg
                have e1 := List.mem_singleton.1 hx
                rw [← hg] at e1
                rcases Hwh8.out with h | h
                · exact (Hnb.out _ h).2.1 e1
                · have h1 := lt_of_block HNbA.out; omega
              have h29 : w9.heap[p.Nb]? = some (.cells (svs'.set x.length (.slice (some ⟨g8, 0, none⟩) ((cells6 (rowsD D' x.length)).length + 1) c8)).toArray 77 (0, 0)) := by
                have e9 : svs'.toArray.setIfInBounds i (.slice (some ⟨g8, 0, none⟩) ((cells6 (rowsD D' x.length)).length + 1) c8) = (svs'.set x.length (.slice (some ⟨g8, 0, none⟩) ((cells6 (rowsD D' x.length)).length + 1) c8)).toArray := by
                  apply Array.ext'
                  simp [Hi.out]
                rw [← e9]; exact HNb9.out
              rw [Hes.out] at hm9 hown9
              have hwq := Hg7.out.size; have hwa := HgA.out.size
              obtain ⟨k1, k2, k3⟩ := Hmq.out.add (g' := g8) Hp.out Hil2.out rfl Hm.out Hs.out H0.out HS.out Hcl6.out Hni.out hm9 h29 hown9 hgT rfl (Hwh8.out.imp id fun h => by omega)
              have he : ixL (lay (D'.set x.length (lay D' x.length ++ [compX p x])) x.length) (compX p x) = (L : Int) := by
                rw [lay_set _ _ _ (by rw [Hmq.out.ok.len]; exact Hil2.out) x.length, if_pos rfl]
                unfold ixL
                rw [if_neg H0.out, List.idxOf_append, if_neg Hni.out, HL.out]
                simp
              have hTw : ∀ t ∈ m :: p.Nb :: (Value.slice so L sc).ownBlock.toList, t ∈ wset p.Nb p.mbs svs' := fun t ht => by
                simp only [List.mem_cons, Option.mem_toList] at ht
                rcases ht with rfl | rfl | ht
                · exact mem_wset.2 (.inr (.inl (List.mem_of_getElem? Hm.out)))
                · exact mem_wset.2 (.inl rfl)
                · exact mem_wset.2 (.inr (.inr ⟨_, List.mem_of_getElem? Hs.out, ht⟩))
              have hwr := HF.out.size; have hwrq := Hgq.out.size
              refine ⟨_, _, ?_, k1, HI.out.gr.trans k3, .inr ?_, (HF.out.trans Hgq.out.any).step hgT (fun t ht => HI.out.ws t (hTw t ht)), fun b hb => ?_, fun j hj => ?_⟩
              · rw [he]; rfl
              · rw [lay_set _ _ _ (by rw [Hmq.out.ok.len]; exact Hil2.out) x.length, if_pos rfl]; simp
              · rcases k2 b hb with hx | hx
                · exact HI.out.ws b hx
                · exact .inr (by omega)
              · have h1 := HI.out.rm j hj
                have h3 := grow_step x.length j
                rw [lay_set _ _ _ (by rw [Hmq.out.ok.len]; exact Hil2.out) j]
                by_cases ej : j = x.length
                · subst ej
                  rw [if_pos rfl, List.length_append, List.length_singleton]
                  rw [if_pos rfl] at h3
                  omega
                · rw [if_neg ej]
                  rw [if_neg ej] at h3
                  omega
            · go_simp
              refine hKx.out _ _ ?_ (fun hHeld => ?_)
              · (try dsimp only); (exact ⟨fMA, fEA⟩)
              clear hKx Kx
              try simp only [Act.put, List.setIfInBounds_toArray, List.set_cons_zero, List.set_cons_succ, List.getElem_toArray, List.getElem_cons_zero, List.getElem_cons_succ]
              refine wpAnyH_ready (rs := [11]) (by kernel_rfl) (by simp) ?_
              refine AllReadyH.cons rfl (fun Kx hKx => ?_) AllReadyH.nil
              go_simp
              refine hKx.out _ _ ?_ (fun hHeld => ?_)
              · (try dsimp only); (exact ⟨fMA, fEA⟩)
              clear hKx Kx
              try simp only [Act.put, List.setIfInBounds_toArray, List.set_cons_zero, List.set_cons_succ, List.getElem_toArray, List.getElem_cons_zero, List.getElem_cons_succ]
              refine wpAnyH_ready (rs := [14]) (by kernel_rfl) (by simp) ?_
              refine AllReadyH.cons rfl (fun Kx hKx => ?_) AllReadyH.nil
              refine step_appV rfl _ _ 77 rfl 6 p.B 74 _ 48 infoE rfl (by omega) (by omega) Tryz.underlying77 (.slice so L sc) (cells6 (rowsD D' x.length)) rfl HrowA.out w7.heap.size 1 [.int .i64 e0, .int .i64 e1, .int .i64 e2, .int .i64 e3, .int .i64 e4, .int .i64 e5] rfl rfl (by simp [Value.oneCell']) HnewA.out (by rw [HL6.out]; omega) (by have h1 := HE.out.1; have h2 := lt_of_block HEq.out; have h3 := Hg7.out.size; have h4 := HgA.out.size; omega) ?_
              intro g8 c8 w8 hown8 hg8 hwh8 hlt8
              have fM8 := hg8.cell fMA (by simp; exact fun h => (Hnb.out _ h).2.2.1 rfl)
              have fE8 : ∀ j, w8.cell? ⟨w.heap.size, j, none⟩ = #[Value.int .i64 e0, .int .i64 e1, .int .i64 e2, .int .i64 e3, .int .i64 e4, .int .i64 e5][j]? := by
                have := fld (hg8.obj (HgA.out.obj (Hg7.out.obj HEq.out (by simp; exact HnE.out)) (by simp)) (by simp; exact fun h => (Hnb.out _ h).2.2.2 rfl))
                rw [He6.out] at this
                exact this
              have hNb8 := hg8.obj HNbA.out (by simp; exact fun h => (Hnb.out _ h).2.1 rfl)
              have fN8 : w8.cell? ⟨p.Nb, i, none⟩ = some (.slice so L sc) := by
                rw [fld hNb8 i, Hi.out]; simpa using Hs.out
              have ffN8 := fldF hNb8 i
              have Hown8 := hid hown8; have Hg8 := hid hg8; have Hwh8 := hid hwh8; have HNb8 := hid hNb8
              clear hown8 hg8 hwh8 hNb8
              refine hKx.out _ _ ?_ (fun hHeld => ?_)
              · (try dsimp only); (exact ⟨fM8, fE8⟩)
              clear hKx Kx
              try simp only [Act.put, List.setIfInBounds_toArray, List.set_cons_zero, List.set_cons_succ, List.getElem_toArray, List.getElem_cons_zero, List.getElem_cons_succ]
              refine wpAnyH_take (i := 15) (v := ?_) rfl (by kernel_rfl) (by kernel_rfl) (by kernel_rfl) (fun _ _ _ h => h) (Or.inl ⟨by rfl, ?_⟩) (by assumption) ?_
              rotate_left
              · intro Wx hSw; (try dsimp only at hSw); obtain ⟨hS1, hS2⟩ := hSw; go_simp; (try with_reducible rfl)
              try simp only [Act.put, List.setIfInBounds_toArray, List.set_cons_zero, List.set_cons_succ, List.getElem_toArray, List.getElem_cons_zero, List.getElem_cons_succ]
              refine wpAnyH_ready (rs := [16]) (by kernel_rfl) (by simp) ?_
              refine AllReadyH.cons rfl (fun Kx hKx => ?_) AllReadyH.nil
              go_simp
              have hg9 : Gr [p.Nb] w8 (w8.setCell ⟨p.Nb, i, none⟩ (.slice (some ⟨g8, 0, none⟩) ((cells6 (rowsD D' x.length)).length + 1) c8)) := (Gr.refl _ _).setCell _ _ (.inl (by simp))
              have hNb9 := cells_sto HNb8.out i (.slice (some ⟨g8, 0, none⟩) ((cells6 (rowsD D' x.length)).length + 1) c8)
              have fM9 := hg9.cell fM8 (by simp; exact Hmq.out.mB.2)
              have hEN : w.heap.size ≠ p.Nb := fun e => HI.out.en (e ▸ mem_wset.2 (.inl rfl))
              have fE9 : ∀ j, (w8.setCell ⟨p.Nb, i, none⟩ (.slice (some ⟨g8, 0, none⟩) ((cells6 (rowsD D' x.length)).length + 1) c8)).cell? ⟨w.heap.size, j, none⟩ = #[Value.int .i64 e0, .int .i64 e1, .int .i64 e2, .int .i64 e3, .int .i64 e4, .int .i64 e5][j]? := fun j => by
                rw [World.cell?_setCell_other _ _ _ _ (by first | (simp; done) | (simp; exact fun e => absurd e hEN))]; exact fE8 j
              generalize (w8.setCell ⟨p.Nb, i, none⟩ (.slice (some ⟨g8, 0, none⟩) ((cells6 (rowsD D' x.length)).length + 1) c8)) = w9 at hg9 hNb9 fM9 fE9 ⊢
              refine hKx.out _ _ ?_ (fun hHeld => ?_)
              · (try dsimp only); (exact ⟨fM9, fE9⟩)
              clear hKx Kx
              try simp only [Act.put, List.setIfInBounds_toArray, List.set_cons_zero, List.set_cons_succ, List.getElem_toArray, List.getElem_cons_zero, List.getElem_cons_succ]
              refine wpAnyH_done (by kernel_rfl) ?_ _
              have Hg9 := hid hg9; have HNb9 := hid hNb9
              clear hg9 hNb9 fM9 fE9 fE8 fM8 fN8 ffN8
              go_wp2_with fail
              go_ret
              have hgT : Gr (m :: p.Nb :: (Value.slice so L sc).ownBlock.toList) wq w9 :=
                (((Hg7.out.sub (fun k _ hk => by simp at hk; simp [hk])).trans HgA.out.any).trans (Hg8.out.sub (fun k _ hk => by simp at hk ⊢; exact .inr (.inr hk)))).trans (Hg9.out.sub (fun k _ hk => by simp at hk; simp [hk]))
              have hm9 : w9.heap[m]? = some (.map (esOf (rowsD D' x.length ++ [es])).toArray (rowsD D' x.length ++ [es]).length) :=
                Hg9.out.obj (Hg8.out.obj (HgA.out.obj Hm7.out (by simp)) (by simp; exact fun h => (Hnb.out _ h).1 rfl)) (by first | (simp; done) | (simp; exact fun e => (Hmq.out.mb m (List.mem_of_getElem? Hm.out)).2 e) | (simp; exact (Hmq.out.mb m (List.mem_of_getElem? Hm.out)).2))
              have hown9 : OwnV 6 p.B w9 74 (.slice (some ⟨g8, 0, none⟩) ((cells6 (rowsD D' x.length)).length + 1) c8) (cells6 (rowsD D' x.length ++ [es])) := by
                rw [cells6_snoc, He6.out]
                refine Hown8.out.keep Hg9.out (fun g hg hx => ?_)
                simp only [Value.ownBlock, Option.some.injEq] at hg
                have e1 := List.mem_singleton.1 hx
                rw [← hg] at e1
                rcases Hwh8.out with h | h
                · exact (Hnb.out _ h).2.1 e1
                · have h1 := lt_of_block HNbA.out; omega
              have h29 : w9.heap[p.Nb]? = some (.cells (svs'.set x.length (.slice (some ⟨g8, 0, none⟩) ((cells6 (rowsD D' x.length)).length + 1) c8)).toArray 77 (0, 0)) := by
                have e9 : svs'.toArray.setIfInBounds i (.slice (some ⟨g8, 0, none⟩) ((cells6 (rowsD D' x.length)).length + 1) c8) = (svs'.set x.length (.slice (some ⟨g8, 0, none⟩) ((cells6 (rowsD D' x.length)).length + 1) c8)).toArray := by
                  apply Array.ext'
                  simp [Hi.out]
                rw [← e9]; exact HNb9.out
              rw [Hes.out] at hm9 hown9
              have hwq := Hg7.out.size; have hwa := HgA.out.size
              obtain ⟨k1, k2, k3⟩ := Hmq.out.add (g' := g8) Hp.out Hil2.out rfl Hm.out Hs.out H0.out HS.out Hcl6.out Hni.out hm9 h29 hown9 hgT rfl (Hwh8.out.imp id fun h => by omega)
              have he : ixL (lay (D'.set x.length (lay D' x.length ++ [compX p x])) x.length) (compX p x) = (L : Int) := by
                rw [lay_set _ _ _ (by rw [Hmq.out.ok.len]; exact Hil2.out) x.length, if_pos rfl]
                unfold ixL
                rw [if_neg H0.out, List.idxOf_append, if_neg Hni.out, HL.out]
                simp
              have hTw : ∀ t ∈ m :: p.Nb :: (Value.slice so L sc).ownBlock.toList, t ∈ wset p.Nb p.mbs svs' := fun t ht => by
                simp only [List.mem_cons, Option.mem_toList] at ht
                rcases ht with rfl | rfl | ht
                · exact mem_wset.2 (.inr (.inl (List.mem_of_getElem? Hm.out)))
                · exact mem_wset.2 (.inl rfl)
                · exact mem_wset.2 (.inr (.inr ⟨_, List.mem_of_getElem? Hs.out, ht⟩))
              have hwr := HF.out.size; have hwrq := Hgq.out.size
              refine ⟨_, _, ?_, k1, HI.out.gr.trans k3, .inr ?_, (HF.out.trans Hgq.out.any).step hgT (fun t ht => HI.out.ws t (hTw t ht)), fun b hb => ?_, fun j hj => ?_⟩
              · rw [he]; rfl
              · rw [lay_set _ _ _ (by rw [Hmq.out.ok.len]; exact Hil2.out) x.length, if_pos rfl]; simp
              · rcases k2 b hb with hx | hx
                · exact HI.out.ws b hx
                · exact .inr (by omega)
              · have h1 := HI.out.rm j hj
                have h3 := grow_step x.length j
                rw [lay_set _ _ _ (by rw [Hmq.out.ok.len]; exact Hil2.out) j]
                by_cases ej : j = x.length
                · subst ej
                  rw [if_pos rfl, List.length_append, List.length_singleton]
                  rw [if_pos rfl] at h3
                  omega
                · rw [if_neg ej]
                  rw [if_neg ej] at h3
                  omega
          · go_wp2_with fail
            go_ret
            have hin := of_decide_eq_true Ht.out.symm
            refine ⟨svs', D', ?_, Hmq.out, HI.out.gr, .inr hin, HF.out.trans Hgq.out.any, HI.out.ws, fun j hj => by have h1 := HI.out.rm j hj; have h3 := grow_step x.length j; omega⟩
            rw [Hq.out, if_pos (Hmem.out.2 hin)]
            unfold ixL
            rw [if_neg H0.out, Hes.out, rowsD_idx HI.out.mv.ok Hil2.out HS.out Hcl6.out hin]
            rfl
end Go.Proofs.YtmonhpoogfdpoaaGreat
