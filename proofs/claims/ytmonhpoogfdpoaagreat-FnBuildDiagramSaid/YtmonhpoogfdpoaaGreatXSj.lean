/-
  Walk of the program's list of solutions.
-/
import Derived.Test.YtmonhpoogfdpoaaGreatXSiSf
import Derived.Test.YtmonhpoogfdpoaaGreatXG1
import Derived.Deep.AppendLies
set_option linter.unusedVariables false
namespace Go.Proofs.YtmonhpoogfdpoaaGreat
open Go.RowKit
attribute [local go_sem] Oper.semAt_some

theorem wp_rangeIter2 {α : Type} {P : Program} {g : Operand} {p : Tmp} {assign body : Code} {Q : Exit → Act → World → Prop} {a : Act} {w : World} (S : List Nat)
    {gf : Nat} {lb : Array Value} (hg : a.eval g = .func (.func gf) #[] lb) (eg : ∀ args w, (callFunc gf args).run P w = .ok (.enter gf args) w)
    (xs : List α) (rd : List Nat → World → Value → α → Prop) (hit : Iter P gf lb S w xs rd) (hS : ∀ s ∈ S, s < w.heap.size)
    (hrd : ∀ (A : List Nat) W W' v x, (∀ t ∈ A, t < W.heap.size) → rd A W v x → Gr A W W' → rd A W' v x) (hrs : ∀ (A B : List Nat) W v x, rd A W v x → (∀ b ∈ B, b ∈ A) → rd B W v x)
    (I : List α → List Nat → World → Prop) (Ix : Code → List α → List Nat → World → Prop) (hI : Stable w.heap.size I) (hIx : ∀ c, Stable w.heap.size (Ix c))
    (hms : ∀ pre ms W, I pre ms W → ∀ m ∈ ms, w.heap.size + 2 ≤ m ∧ m < W.heap.size) (h0 : I [] [] w) (a₁ : Value → Act)
    (hmsx : ∀ c pre ms W, Ix c pre ms W → ∀ m ∈ ms, w.heap.size + 2 ≤ m)
    (hassign : ∀ (l : Nat) (v : Value) (W : World) (K : Act → World → Prop), K (a₁ v) W →
      assign.wpIn (Fence.wide.inRound l) 0 P (Exit.then K (fun _ _ _ => False)) { tmps := a.tmps.setIfInBounds p v, defers := [] } W)
    (hbody : ∀ (l : Nat) (pre rest : List α) (x : α) (v : Value) (ms : List Nat) (W : World), xs = pre ++ x :: rest → w.heap.size + 2 ≤ W.heap.size → I pre ms W → rd (S ++ ms) W v x →
      body.wpIn (Fence.wide.inRound l) 0 P (roundEnd S I Ix (pre ++ [x]) ms W) (a₁ v) W)
    (hdone : ∀ (D : Nat) (ms : List Nat) (W : World), I xs ms W → W.heap[D]? = some (.deferred (some [])) → w.heap.size ≤ D → D ∉ ms → Q .normal { a with defers := { target := .collected D, args := #[] } :: a.defers } W)
    (hstop : ∀ (D : Nat) (c : Code) (pre : List α) (ms : List Nat) (W : World), pre <+: xs → Ix c pre ms W → W.heap[D]? = some (.deferred (some [])) → w.heap.size ≤ D → D ∉ ms →
      c.wpIn Fence.wide 0 P Q { a with defers := { target := .collected D, args := #[] } :: a.defers } W) :
    (Code.rangeFunc g #[p] assign body).wpIn Fence.wide 0 P Q a w := by
  refine wpIn_rangeFunc ?_
  intro fn hfn
  obtain ⟨rec, hrec⟩ : ∃ rec : LoopState → Option Code → Loop, rec = fun st pe => { state := st, pending := pe, fn, tmps := a.tmps, params := #[p], assign, body, defers := w.heap.size } := ⟨_, rfl⟩
  obtain ⟨W1, hW1⟩ : ∃ W1, (w.alloc (.deferred (some []))).alloc (.loop (rec .ready none)) = W1 := ⟨_, rfl⟩
  have hL1 : W1.heap[w.heap.size + 1]? = some (.loop (rec .ready none)) := by
    rw [← hW1]; have := World.alloc_heap_new (w.alloc (.deferred (some []))) (.loop (rec .ready none)); rwa [World.size_alloc] at this
  have hK1 : W1.heap[w.heap.size]? = some (.deferred (some [])) := by
    rw [← hW1]; exact (Below.heap_alloc _ _ _ (by simp)).trans (World.alloc_heap_new w _)
  have hg1 : Gr [] w W1 := by rw [← hW1]; exact ((Gr.refl _ _).alloc _).alloc _
  have hs1 : W1.heap.size = w.heap.size + 2 := by rw [← hW1]; simp
  have hI1 : I [] [] W1 := hI _ _ _ _ [] h0 hg1 (by simp)
  refine ⟨w.heap.size + 1, [{ target := .collected w.heap.size, args := #[] }], W1, { target := .fn (.func gf) lb, args := #[.func (.yield (w.heap.size + 1)) #[] #[]] }, W1, gf,
    #[.func (.yield (w.heap.size + 1)) #[] #[]] ++ lb, W1, ?_, ?_, ?_, ?_, fun h => by simp [Fence.wide] at h, ?_⟩
  · rw [← hW1, hrec]; exact run_enterLoop_outer _ _ _ _ _
  · simp only [resolve, hg]
    simp [go_sem]
  · intro f' _; trivial
  · simp [invoke, go_sem, eg]
  · have hn0 : (0 : Nat) - 1 = 0 := rfl
    refine (hit (w.heap.size + 1)
      (fun pre ms W => I pre ms W ∧ W.heap[w.heap.size + 1]? = some (.loop (rec .ready none)) ∧ W.heap[w.heap.size]? = some (.deferred (some [])))
      (fun pre ms W => ∃ c, Ix c pre ms W ∧ W.heap[w.heap.size + 1]? = some (.loop (rec .done (some c))) ∧ W.heap[w.heap.size]? = some (.deferred (some [])) ∧ (∀ m ∈ ms, w.heap.size + 2 ≤ m))
      W1 hg1.any (by omega) (by omega) ?_ ?_ ?_ ?_ ⟨hI1, hL1, hK1⟩).mono ?_
    · rintro pre ms A B T ⟨h1, h2, h3⟩ hgr hT
      exact ⟨hI _ _ _ _ T h1 hgr (fun t ht => ⟨by have := (hT t ht).1; omega, (hT t ht).2⟩), hgr.obj h2 (fun hm => by have := (hT _ hm).1; omega), hgr.obj h3 (fun hm => by have := (hT _ hm).1; omega)⟩
    · rintro pre ms A B T ⟨c, h1, h2, h3, h4⟩ hgr hT
      exact ⟨c, hIx c _ _ _ _ T h1 hgr (fun t ht => ⟨by have := (hT t ht).1; omega, (hT t ht).2⟩), hgr.obj h2 (fun hm => by have := (hT _ hm).1; omega), hgr.obj h3 (fun hm => by have := (hT _ hm).1; omega), h4⟩
    · rintro pre ms A ⟨h1, _, _⟩ m hm
      have := hms _ _ _ h1 m hm
      omega
    · rintro pre x rest v ms W hxs ⟨hi, hl, hk⟩ hr
      have hlt : w.heap.size + 1 < W.heap.size := (Array.getElem?_eq_some_iff.1 hl).1
      have hy := run_yield (P := P) (args := #[v]) hl (by rw [hrec]; rfl)
      rw [hrec] at hy
      have hmm := hms _ _ _ hi
      refine ⟨fn, _, assign, body, hy, roundIn_of_wpIn hfn ?_⟩
      have e1 : (Array.zip #[p] #[v]).foldl (fun tmps (x : Tmp × Value) => tmps.setIfInBounds x.1 x.2) a.tmps = a.tmps.setIfInBounds p v := by simp
      have e2 : (fun (tmps : Array Value) (x : Tmp × Value) => match x with | (t, a) => tmps.setIfInBounds t a) = (fun tmps (x : Tmp × Value) => tmps.setIfInBounds x.1 x.2) := by funext t ⟨x, y⟩; rfl
      have e3 : (Array.zip #[p] #[v]).foldl (fun (tmps : Array Value) (x : Tmp × Value) => match x with | (t, a) => tmps.setIfInBounds t a) a.tmps = a.tmps.setIfInBounds p v := by rw [e2, e1]
      rw [e3]
      refine hassign _ v W _ ⟨_, run_beginRound hl (by rw [hrec]), ?_⟩
      have hl2 : (W.putObj (w.heap.size + 1) (.loop { rec .ready none with state := .busy })).heap[w.heap.size + 1]? = some (.loop { rec .ready none with state := .busy }) := World.putObj_heap_same hlt
      have hk2 : (W.putObj (w.heap.size + 1) (.loop { rec .ready none with state := .busy })).heap[w.heap.size]? = some (.deferred (some [])) := (World.putObj_heap_other (by omega)).trans hk
      have hgb : Gr [w.heap.size + 1] W (W.putObj (w.heap.size + 1) (.loop { rec .ready none with state := .busy })) := Gr.putObj _ _ _
      have hnm : w.heap.size + 1 ∉ ms := fun hm => by have := hmm _ hm; omega
      have hnd : w.heap.size ∉ S ++ ms := fun hm => by rcases List.mem_append.1 hm with hm | hm; have := hS _ hm; omega; have := hmm _ hm; omega
      have hnl : w.heap.size + 1 ∉ S ++ ms := fun hm => by rcases List.mem_append.1 hm with hm | hm; have := hS _ hm; omega; have := hmm _ hm; omega
      have hi2 : I pre ms (W.putObj (w.heap.size + 1) (.loop { rec .ready none with state := .busy })) := hI _ _ _ _ _ hi hgb (by simpa using hnm)
      have hr2 := hrd (((w.heap.size + 1) :: S) ++ ms) W _ v x (by
        intro t ht
        rcases List.mem_append.1 ht with ht | ht
        · rcases List.mem_cons.1 ht with rfl | ht
          · exact hlt
          · have := hS _ ht; omega
        · exact (hmm _ ht).2) hr (hgb.sub (fun k _ h => by simp at h ⊢; exact .inl h))
      refine wpIn_mono (hbody _ pre rest x v ms _ hxs (by simp; omega) hi2 (hrs _ _ _ _ _ hr2 (by intro b hb; simp at hb ⊢; exact .inr hb))) ?_
      have fin : ∀ (jump : Option Code) (W3 : World), Gr (S ++ ms) (W.putObj (w.heap.size + 1) (.loop { rec .ready none with state := .busy })) W3 →
          (Instr.endRound (w.heap.size + 1) jump).run P W3 = .ok (.bool jump.isNone) (W3.putObj (w.heap.size + 1) (.loop (rec (if jump.isNone then .ready else .done) jump))) ∧
          (W3.putObj (w.heap.size + 1) (.loop (rec (if jump.isNone then .ready else .done) jump))).heap[w.heap.size + 1]? = some (.loop (rec (if jump.isNone then .ready else .done) jump)) ∧
          (W3.putObj (w.heap.size + 1) (.loop (rec (if jump.isNone then .ready else .done) jump))).heap[w.heap.size]? = some (.deferred (some [])) ∧
          Gr (((w.heap.size + 1) :: S) ++ ms) W (W3.putObj (w.heap.size + 1) (.loop (rec (if jump.isNone then .ready else .done) jump))) := fun jump W3 hk3 => by
        have hl3 := hk3.obj hl2 hnl
        have := run_endRound (P := P) jump hl3
        rw [hrec] at this ⊢
        refine ⟨this, World.putObj_heap_same (Array.getElem?_eq_some_iff.1 hl3).1, (World.putObj_heap_other (by omega)).trans (hk3.obj hk2 hnd), ?_⟩
        rw [hrec] at hgb hk3
        exact ((hgb.sub (fun k _ h => by simp at h ⊢; exact .inl h)).trans (hk3.sub (by intro k _ hk; simp at hk ⊢; exact .inr hk))).trans ((Gr.putObj _ _ _).sub (fun k _ h => by simp at h ⊢; exact .inl h))
      have hsz : (W.putObj (w.heap.size + 1) (.loop { rec .ready none with state := .busy })).heap.size = W.heap.size := by simp
      rintro e a3 W3 hp
      cases e with
      | normal =>
        obtain ⟨ms', hi3, hg3, hn3⟩ := hp
        obtain ⟨hr3, hl4, hk4, hg4⟩ := fin none W3 hg3
        have hnm' : w.heap.size + 1 ∉ ms' := fun hm => by rcases hn3 _ hm with hm | hm; exact hnm hm; rw [hsz] at hm; omega
        exact ⟨_, _, hr3, .inl ⟨rfl, ms', ⟨hI _ _ _ _ _ hi3 (Gr.putObj _ _ _) (by simpa using hnm'), hl4, hk4⟩, hg4, fun m hm => (hn3 m hm).imp id (fun h => by rw [hsz] at h; exact h)⟩⟩
      | ret =>
        obtain ⟨ms', hi3, hg3⟩ := hp
        obtain ⟨hr3, hl4, hk4, hg4⟩ := fin (some .ret) W3 hg3
        exact ⟨_, _, hr3, .inr ⟨rfl, ms', ⟨.ret, hIx _ _ _ _ _ _ hi3 (Gr.putObj _ _ _) (by have := hmsx _ _ _ _ hi3; intro t ht; simp at ht; subst ht; exact ⟨by omega, fun hm => by have := this _ hm; omega⟩), hl4, hk4, hmsx _ _ _ _ hi3⟩, hg4⟩⟩
      | exit id =>
        obtain ⟨ms', hi3, hg3⟩ := hp
        obtain ⟨hr3, hl4, hk4, hg4⟩ := fin (some (.exit id)) W3 hg3
        exact ⟨_, _, hr3, .inr ⟨rfl, ms', ⟨.exit id, hIx _ _ _ _ _ _ hi3 (Gr.putObj _ _ _) (by have := hmsx _ _ _ _ hi3; intro t ht; simp at ht; subst ht; exact ⟨by omega, fun hm => by have := this _ hm; omega⟩), hl4, hk4, hmsx _ _ _ _ hi3⟩, hg4⟩⟩
      | goto t =>
        obtain ⟨ms', hi3, hg3⟩ := hp
        obtain ⟨hr3, hl4, hk4, hg4⟩ := fin (some (.goto t)) W3 hg3
        exact ⟨_, _, hr3, .inr ⟨rfl, ms', ⟨.goto t, hIx _ _ _ _ _ _ hi3 (Gr.putObj _ _ _) (by have := hmsx _ _ _ _ hi3; intro t ht; simp at ht; subst ht; exact ⟨by omega, fun hm => by have := this _ hm; omega⟩), hl4, hk4, hmsx _ _ _ _ hi3⟩, hg4⟩⟩
      | panic ch => exact hp.elim
      | outgrown => exact hp.elim
    · rintro e W2 ⟨⟨v, rfl⟩, (⟨ms, hi, hl, hk⟩ | ⟨pre, ms, hpre, c, hi, hl, hk, hm⟩)⟩
      · have hmm := hms _ _ _ hi
        have hnm : w.heap.size + 1 ∉ ms := fun hm => by have := hmm _ hm; omega
        exact ⟨none, _, by have := run_endLoop (P := P) hl (by rw [hrec]; simp); rw [hrec] at this; exact this,
          hdone _ ms _ (hI _ _ _ _ _ hi (Gr.putObj _ _ _) (by simpa using hnm)) ((World.putObj_heap_other (by omega)).trans hk) (Nat.le_refl _) (fun hm => by have := hmm _ hm; omega)⟩
      · have hnm : w.heap.size + 1 ∉ ms := fun h => by have := hm _ h; omega
        exact ⟨some c, _, by have := run_endLoop (P := P) hl (by rw [hrec]; simp); rw [hrec] at this; exact this,
          hstop _ c pre ms _ hpre (hIx c _ _ _ _ _ hi (Gr.putObj _ _ _) (by simpa using hnm)) ((World.putObj_heap_other (by omega)).trans hk) (Nat.le_refl _) (fun h => by have := hm _ h; omega)⟩

/-- The rows lie each in a block of its own, none of them frozen. -/
def RowB (ms : List Nat) (W : World) (fv : Value) (css : List (List Value)) : Prop :=
  ∃ gs : List Nat, gs.Nodup ∧ gs.length = css.length ∧ (∀ g ∈ gs, g ∈ ms ∧ g < W.heap.size ∧ fv.ownBlock ≠ some g ∧ ∀ j, W.frozen? ⟨g, j, none⟩ = false) ∧
    ∀ (i : Nat) g, gs[i]? = some g → ∃ n c, css[i]? = some [.slice (some ⟨g, 0, none⟩) n c]
theorem RowB.gr {ms T : List Nat} {W W' : World} {fv : Value} {css : List (List Value)} (h : RowB ms W fv css) (hg : Gr T W W') (hT : ∀ t ∈ T, t ∉ ms) : RowB ms W' fv css := by
  obtain ⟨gs, h1, h2, h3, h4⟩ := h
  refine ⟨gs, h1, h2, fun g hgm => ?_, h4⟩
  obtain ⟨k1, k2, k3, k4⟩ := h3 g hgm
  exact ⟨k1, Nat.lt_of_lt_of_le k2 hg.size, k3, fun j => (hg.frozen k2 (fun hm => hT g hm k1)).trans (k4 j)⟩
theorem OwnC.frozen {B g n cap : Nat} {w : World} {e : TypeId} {xs : List Int} (h : OwnC B w e (.slice (some ⟨g, 0, none⟩) n cap) xs) (j : Nat) : w.frozen? ⟨g, j, none⟩ = false := by
  rcases h with ⟨h1, _⟩ | ⟨g', cap', cur, e1, h2, h3, _⟩
  · cases h1
  · cases e1; simp [World.frozen?, h3]

/-- A list of rows under construction: its own block, and its rows' in blocks ms, apart from the list's. -/
def OutV (g1 : Nat) (ms : List Nat) (W : World) (fv : Value) (xss : List (List Int)) : Prop :=
  ∃ css : List (List Value), css.length = xss.length ∧ (∀ cs ∈ css, cs.length = 1 ∧ ∀ u ∈ cs, u.oneCell' = true) ∧ W.ownsRow g1 23 1 fv xss.length css.flatten ∧
    (∀ b, fv.ownBlock = some b → b = g1 ∨ b ∈ ms) ∧
    (∀ (i : Nat) cs x, css[i]? = some cs → xss[i]? = some x → ∀ S : List Nat, (∀ b ∈ S, b ∉ ms ∨ fv.ownBlock = some b) → elRow S W cs x) ∧ RowB ms W fv css
theorem ownsRow_keep {T : List Nat} {B e size n : Nat} {w w' : World} {v : Value} {xs : List Value} (h : w.ownsRow B e size v n xs) (hg : Gr T w w') (hT : ∀ b, v.ownBlock = some b → b ∉ T) : w'.ownsRow B e size v n xs := by
  refine ⟨h.1, ?_⟩
  rcases h.2 with h | ⟨g, cap, cur, e1, hb, hgg, rest⟩
  · exact .inl h
  · exact .inr ⟨g, cap, cur, e1, hb, hg.obj hgg (hT g (by rw [e1]; rfl)), rest⟩
theorem OutV.keep {g1 : Nat} {ms T : List Nat} {W W' : World} {fv : Value} {xss : List (List Int)} (h : OutV g1 ms W fv xss) (hg : Gr T W W') (hT : ∀ t ∈ T, t ∉ ms ∧ t ≠ g1) : OutV g1 ms W' fv xss := by
  obtain ⟨css, h1, h2, h3, h4, h5, h6⟩ := h
  refine ⟨css, h1, h2, ownsRow_keep h3 hg fun b hb hm => ?_, h4, fun i cs x hi hx S hS => ?_, h6.gr hg fun t ht => (hT t ht).1⟩
  · rcases h4 b hb with h | h
    · exact (hT b hm).2 h
    · exact (hT b hm).1 h
  · have := h5 i cs x hi hx (T ++ S) (by
      intro b hb
      rcases List.mem_append.1 hb with hb | hb
      · exact .inl (hT b hb).1
      · exact hS b hb)
    exact elRow_ok.sub (elRow_ok.gr this (hg.sub (fun k _ hk => by simp [hk]))) (fun b _ hb => by simp [hb])
theorem OutV.slice {g1 : Nat} {ms : List Nat} {W : World} {fv : Value} {xss : List (List Int)} (h : OutV g1 ms W fv xss) : ∃ ao cap, fv = .slice ao xss.length cap ∧ xss.length ≤ cap ∧ cap ≤ 9223372036854775807 := by
  obtain ⟨css, h1, h2, h3, h4⟩ := h
  rcases h3.2 with ⟨e1, h5⟩ | ⟨g, cap, cur, e1, _, _, h6, h7, _⟩
  · exact ⟨none, 0, by rw [e1, h5], by omega, by omega⟩
  · exact ⟨_, _, e1, h6, by simp only [maxLen] at h7; omega⟩
theorem OutV.g {g1 : Nat} {ms : List Nat} {W : World} {fv : Value} {xss : List (List Int)} (h : OutV g1 ms W fv xss) {B : Nat} (hB : B ≤ g1) (hms : ∀ m ∈ ms, B ≤ m ∧ m < W.heap.size) : OwnG 1 elRow B W 23 fv xss := by
  obtain ⟨css, h1, h2, h3, h4, h5, h6⟩ := h
  refine ⟨css, h1, h2, ⟨h3.1, ?_⟩, fun i cs x hi hx S hS => h5 i cs x hi hx S fun b hb => ?_⟩
  · rcases h3.2 with h | ⟨g, cap, cur, e1, hb, r⟩
    · exact .inl h
    · exact .inr ⟨g, cap, cur, e1, by omega, r⟩
  · rcases hS b hb with h | h | h
    · exact .inl fun hm => by have := hms b hm; omega
    · exact .inl fun hm => by have := hms b hm; omega
    · exact .inr h
theorem OutV.lt {g1 : Nat} {ms : List Nat} {W : World} {fv : Value} {xss : List (List Int)} (h : OutV g1 ms W fv xss) {b : Nat} (hb : fv.ownBlock = some b) : g1 ≤ b ∧ b < W.heap.size :=
  let ⟨_, _, _, h3, _⟩ := h; ownsRow_ownBlock h3 hb

/-- Rows, each in a block of its own. -/
def RowsD (B : Nat) (w : World) (v : Value) (rows : List (List Int)) : Prop :=
  ∃ ao cap, v = .slice ao rows.length cap ∧ (rows.length ≤ cap ∧ cap ≤ 9223372036854775807 ∧ (ao = none → cap = 0)) ∧ ∃ gs : List Nat, gs.Nodup ∧ gs.length = rows.length ∧
    ∀ (i : Nat) r, rows[i]? = some r → ∃ g b c, ao = some ⟨g, 0, none⟩ ∧ gs[i]? = some b ∧ (B ≤ g ∧ g < w.heap.size) ∧ (B ≤ b ∧ b < w.heap.size) ∧ g ∉ gs ∧ w.cell? ⟨g, i, none⟩ = some (.slice (some ⟨b, 0, none⟩) r.length c) ∧
      (r.length ≤ c ∧ c ≤ 9223372036854775807) ∧ (∀ j, w.frozen? ⟨g, j, none⟩ = false) ∧ (∀ j, w.frozen? ⟨b, j, none⟩ = false) ∧ ∀ (j : Nat) y, r[j]? = some y → w.cell? ⟨b, j, none⟩ = some (.int .i64 y)
theorem OutV.d {g1 : Nat} {ms : List Nat} {W : World} {fv : Value} {xss : List (List Int)} (h : OutV g1 ms W fv xss) {B : Nat} (hB : B ≤ g1) (hms : ∀ m ∈ ms, B ≤ m ∧ m < W.heap.size) : RowsD B W fv xss := by
  have hG := h.g hB hms
  obtain ⟨ao, cap, rfl, hl⟩ := hG.slice
  obtain ⟨css, h1, h2, h3, h4, h5, gs, j1, j2, j3, j4⟩ := h
  refine ⟨ao, cap, rfl, hl, gs, j1, by omega, fun i r hi => ?_⟩
  have hil := (List.getElem?_eq_some_iff.1 hi).1
  obtain ⟨b, hb⟩ := get_some (xs := gs) (k := i) (by omega)
  obtain ⟨n, c, hcs⟩ := j4 i b hb
  have hbm := j3 b (List.mem_of_getElem? hb)
  obtain ⟨u, e1, hn⟩ := h5 i _ r hcs hi [] (by simp)
  cases e1
  obtain ⟨ao', c', e2, hl2, hc2⟩ := hn
  cases e2
  rcases h3.2 with ⟨e1, h5⟩ | ⟨g, cap', cur, e1, hgB, hg, h6, h7, h8, h9⟩
  · simp only [Value.slice.injEq] at e1; omega
  · cases e1
    refine ⟨g, b, c, rfl, hb, ⟨by omega, lt_of_block hg⟩, ⟨(hms b hbm.1).1, hbm.2.1⟩, fun hm => (j3 g hm).2.2.1 rfl, ?_, ⟨hl2.1, hl2.2.1⟩, fun j => by simp [World.frozen?, hg], hbm.2.2.2, fun j y hy => ?_⟩
    · have e3 := flatten_get (fun cs hc => (h2 cs hc).1) hcs (j := 0) (by omega)
      rw [← h9, List.getElem?_take] at e3
      simp only [Nat.mul_one, Nat.add_zero, if_pos hil] at e3
      simp only [World.cell?, hg]; simpa using e3
    · obtain ⟨b', o', e4, _, hcell⟩ := hc2 j y hy
      cases e4
      simpa using hcell
theorem OutV.drop {g1 gr n c : Nat} {ms : List Nat} {W : World} {xss : List (List Int)} (h : OutV g1 (ms ++ [gr, g1]) W (.slice (some ⟨g1, 0, none⟩) n c) xss) : OutV g1 (ms ++ [gr]) W (.slice (some ⟨g1, 0, none⟩) n c) xss := by
  obtain ⟨css, h1, h2, h3, h4, h5, gs, j1, j2, j3, j4⟩ := h
  refine ⟨css, h1, h2, h3, fun b hb => by simp [Value.ownBlock] at hb; exact .inl hb.symm, fun i cs x hi hx S hS => h5 i cs x hi hx S fun b hb => ?_, gs, j1, j2, fun g hgm => ?_, j4⟩
  rotate_left
  · obtain ⟨k1, k2, k3, k4⟩ := j3 g hgm
    have hne : g ≠ g1 := fun e => k3 (by rw [e]; rfl)
    refine ⟨?_, k2, k3, k4⟩
    simp at k1 ⊢
    rcases k1 with h | h | h
    · exact .inl h
    · exact .inr h
    · exact absurd h hne
  rcases hS b hb with h | h
  · by_cases hbg : b = g1
    · exact .inr (by rw [hbg]; rfl)
    · exact .inl (by simp at h ⊢; exact ⟨h.1, h.2, hbg⟩)
  · exact .inr h
theorem OwnC.ne {B g n cap : Nat} {w : World} {e : TypeId} {xs : List Int} (h : OwnC B w e (.slice (some ⟨g, 0, none⟩) n cap) xs) {S : List Nat} (hS : g ∉ S) : Nums S w .i64 (.slice (some ⟨g, 0, none⟩) n cap) xs := by
  obtain ⟨ao, c', e1, hb, _⟩ := h.nums' (S := []) (by simp)
  cases e1
  exact ⟨_, _, rfl, hb, fun i x hi => ⟨g, 0, rfl, hS, by rw [Nat.zero_add]; exact (h.at hi).1⟩⟩

theorem stepI_out {l n : Nat} {w : World} {ops : Array Oper} {o : Oper} {a : Act} {K : Act → World → Prop} {Q : Exit → Act → World → Prop} {E : Prop} (hgd : o.guard = none) (s x : Operand) (t : TypeId)
    (ho : o.op = .call { callee := .builtin .append, args := #[s, x], argTypes := #[t, t] }) (g1 : Nat) (ms : List Nat)
    (ht : Tryz.prog.underlying t = some (.slice 23)) (v : Value) (xss : List (List Int)) (hs : a.eval s = v) (hown : OutV g1 ms w v xss) (g c : Nat) (y : List Int) (gr m0 c0 : Nat) (hx : a.eval x = .slice (some ⟨g, 0, none⟩) 1 c)
    (hn : w.cell? ⟨g, 0, none⟩ = some (.slice (some ⟨gr, 0, none⟩) m0 c0)) (hel : ∀ S : List Nat, (∀ b ∈ S, b ≠ gr) → elRow S w [.slice (some ⟨gr, 0, none⟩) m0 c0] y) (hgr : v.ownBlock ≠ some gr)
    (hlen : xss.length ≤ 1000000) (hB : g1 ≤ w.heap.size) (hgrl : gr < w.heap.size) (hgrm : gr ∉ ms) (hgrf : ∀ j, w.frozen? ⟨gr, j, none⟩ = false)
    (h : ∀ g' c' w', OutV g1 (ms ++ [gr, g']) w' (.slice (some ⟨g', 0, none⟩) (xss.length + 1) c') (xss ++ [y]) → Gr v.ownBlock.toList w w' → (v.ownBlock = some g' ∨ w.heap.size ≤ g') → g' < w'.heap.size → K (a.put o.dst (.slice (some ⟨g', 0, none⟩) (xss.length + 1) c')) w') :
    if Region.wanted o (yielded ops a.tmps) = true then Oper.wpIn (Fence.wide.inRound l) n Tryz.prog o a w K Q else E := by
  have hw : Region.wanted o (yielded ops a.tmps) = true := by simp [Region.wanted, hgd]
  rw [if_pos hw]
  obtain ⟨css, k1, k2, k3, k4, k5, gs, j1, j2, j3, j4⟩ := hown
  obtain ⟨i0, hi, hz0, hz1, hz2⟩ := info_parts infoR
  obtain ⟨g', cap', w', hr, hown', hgrow, hwhere, hlt⟩ := run_append_lies (P := Tryz.prog) w t o.type g1 23 i0 (.slice none 0 0) 1 24 ht hi hz0 hz1 hz2 rfl (by decide) v xss.length css.flatten k3 ⟨g, 0, none⟩ 1 c [.slice (some ⟨gr, 0, none⟩) m0 c0] rfl
    (by intro j u hj; match j, hj with
        | 0, hj => simp at hj; subst hj; simpa [Addr.add] using hn
        | j + 1, hj => simp at hj) (by simp [Value.oneCell']) (by omega) (by simp only [maxLen]; omega) (by omega) hB w.heap.size rfl
  have hgr' : Gr v.ownBlock.toList w w' := ⟨hgrow.os, hgrow.tape, hgrow.output, hgrow.size, fun k hk hs => hgrow.block k hk (fun e => hs (by rw [← e]; simp))⟩
  have hfin := h g' cap' w' ?_ hgr' (hwhere.imp id (fun e => by omega)) hlt
  · unfold Oper.wpIn
    refine ⟨fun _ _ => trivial, ?_⟩
    rw [Oper.semAt_plain _ _ _ (by rw [ho]; intro c hc'; cases hc')]
    unfold execOp
    simp only [ho, resolve, invoke, builtin, Sem.run_bind, Sem.run_pure, Result.andThen_ok, List.map_toArray, List.map_cons, List.map_nil, hs, hx, hr]
    exact hfin
  · have hfr : ∀ cs z S, elRow (v.ownBlock.toList ++ S) w cs z → elRow S w' cs z := fun cs z S h0 =>
      elRow_ok.sub (elRow_ok.gr h0 (hgr'.sub (fun k _ hk => by simp at hk ⊢; exact .inl hk))) (fun b _ hb => by simp [hb])
    refine ⟨css ++ [[.slice (some ⟨gr, 0, none⟩) m0 c0]], by simp [k1], ?_, ?_, ?_, ?_, gs ++ [gr], ?_, by simp [j2], ?_, ?_⟩
    rotate_left 4
    · rw [List.nodup_append]
      refine ⟨j1, by simp, fun a ha b hb => ?_⟩
      simp at hb; subst hb
      exact fun e => hgrm (by rw [← e]; exact (j3 a ha).1)
    · intro g hg
      have hgl : g < w.heap.size ∧ v.ownBlock ≠ some g ∧ ∀ j, w.frozen? ⟨g, j, none⟩ = false := by
        rcases List.mem_append.1 hg with h | h
        · exact ⟨(j3 g h).2.1, (j3 g h).2.2.1, (j3 g h).2.2.2⟩
        · simp at h; subst h; exact ⟨hgrl, hgr, hgrf⟩
      refine ⟨?_, Nat.lt_of_lt_of_le hgl.1 hgr'.size, fun e => ?_, fun j => (hgr'.frozen hgl.1 (by simpa using hgl.2.1)).trans (hgl.2.2 j)⟩
      · rcases List.mem_append.1 hg with h | h
        · exact List.mem_append.2 (.inl (j3 g h).1)
        · simp at h; subst h; simp
      · simp [Value.ownBlock] at e
        subst e
        rcases hwhere with h | h
        · exact hgl.2.1 h
        · omega
    · intro i g hg
      by_cases hlti : i < gs.length
      · rw [List.getElem?_append_left hlti] at hg
        obtain ⟨n, c, hn⟩ := j4 i g hg
        exact ⟨n, c, by rw [List.getElem?_append_left (by omega)]; exact hn⟩
      · have hi' : i = gs.length := by
          have := (List.getElem?_eq_some_iff.1 hg).1
          simp at this; omega
        subst hi'
        rw [List.getElem?_append_right (by omega), Nat.sub_self] at hg
        simp at hg; subst hg
        exact ⟨m0, c0, by rw [List.getElem?_append_right (by omega), j2, Nat.sub_self]; rfl⟩
    · intro cs hc
      rcases List.mem_append.1 hc with hc | hc
      · exact k2 cs hc
      · simp at hc; subst hc; exact ⟨rfl, by simp [Value.oneCell']⟩
    · rw [List.flatten_append]; simpa using hown'
    · intro b hb; simp [Value.ownBlock] at hb; subst hb; exact .inr (by simp)
    · intro i cs z hc hz S hS
      have hcond : ∀ b ∈ S, (b ∉ ms ∧ b ≠ gr) ∨ b = g' := fun b hb => by
        rcases hS b hb with h | h
        · simp at h; exact .inl ⟨h.1, h.2.1⟩
        · simp [Value.ownBlock] at h; exact .inr h.symm
      by_cases hlti : i < xss.length
      · rw [List.getElem?_append_left (by omega)] at hc
        rw [List.getElem?_append_left hlti] at hz
        have h0 := k5 i cs z hc hz (v.ownBlock.toList ++ S.filter (fun b => decide (b < w.heap.size))) (by
          intro b hb
          rcases List.mem_append.1 hb with hb | hb
          · exact .inr (by simpa using hb)
          · obtain ⟨hb1, hb2⟩ := List.mem_filter.1 hb
            rcases hcond b hb1 with h | h
            · exact .inl h.1
            · rcases hwhere with hw' | hw'
              · exact .inr (by rw [h]; exact hw')
              · simp at hb2; omega)
        exact hfr _ _ _ (elRow_ok.sub h0 fun b hb hm => by
          rcases List.mem_append.1 hm with hm | hm
          · exact List.mem_append.2 (.inl hm)
          · exact List.mem_append.2 (.inr (List.mem_filter.2 ⟨hm, by simpa using hb⟩)))
      · have hi' : i = xss.length := by
          have := (List.getElem?_eq_some_iff.1 hz).1
          simp at this; omega
        subst hi'
        rw [List.getElem?_append_right (by omega), k1, Nat.sub_self] at hc
        rw [List.getElem?_append_right (by omega), Nat.sub_self] at hz
        simp at hc hz
        subst hc hz
        have h0 := hel (v.ownBlock.toList ++ S.filter (fun b => decide (b < w.heap.size))) (by
          intro b hb
          rcases List.mem_append.1 hb with hb | hb
          · intro e; subst e; exact hgr (by simpa using hb)
          · obtain ⟨hb1, hb2⟩ := List.mem_filter.1 hb
            rcases hcond b hb1 with h | h
            · exact h.2
            · intro e
              rcases hwhere with hw' | hw'
              · exact hgr (by rw [← e, h]; exact hw')
              · simp at hb2; omega)
        exact hfr _ _ _ (elRow_ok.sub h0 fun b hb hm => by
          rcases List.mem_append.1 hm with hm | hm
          · exact List.mem_append.2 (.inl hm)
          · exact List.mem_append.2 (.inr (List.mem_filter.2 ⟨hm, by simpa using hb⟩)))

set_option maxRecDepth 100000 in
set_option maxHeartbeats 1000000 in
theorem solutionsD_c (m : Mod) (D : List Nat) (mv : Value) (w : World) (hv : ModV [] w mv m) (hVM : VM m D) :
    Calls Tryz.prog 33 #[mv] w fun e w' => ∃ v, e = .returned v ∧ (OwnG 1 elRow w.heap.size w' 23 v (sols m.cons D) ∧ RowsD w.heap.size w' v (sols m.cons D)) ∧ Gr [] w w' := by
  have Hv := hid hv
  obtain ⟨dv, cv, rfl, hdv, hcv⟩ := hv
  have hg0 : Gr [] w (((w.alloc (.cells #[dv, cv] 40)).alloc (.cells #[] 23)).alloc (.cells #[.slice (some ⟨w.heap.size + 1, 0, none⟩) 0 0] 24)) := (((Gr.refl _ _).alloc _).alloc _).alloc _
  obtain ⟨hb0, hr0, ho0⟩ := heap3 w (.cells #[dv, cv] 40) (.cells #[] 23) (.cells #[.slice (some ⟨w.heap.size + 1, 0, none⟩) 0 0] 24)
  have hO0 : OutV (w.heap.size + 1) [] (((w.alloc (.cells #[dv, cv] 40)).alloc (.cells #[] 23)).alloc (.cells #[.slice (some ⟨w.heap.size + 1, 0, none⟩) 0 0] 24)) (.slice (some ⟨w.heap.size + 1, 0, none⟩) 0 0) [] :=
    ⟨[], rfl, by simp, ⟨rfl, .inr ⟨w.heap.size + 1, 0, #[], rfl, Nat.le_refl _, hr0, by simp, by simp [maxLen], by simp, by simp⟩⟩, fun b hb => by simp [Value.ownBlock] at hb; exact .inl hb.symm, fun i cs x hi => by simp at hi, [], by simp, rfl, by simp, by simp⟩
  have hd0 : Nums [] (((w.alloc (.cells #[dv, cv] 40)).alloc (.cells #[] 23)).alloc (.cells #[.slice (some ⟨w.heap.size + 1, 0, none⟩) 0 0] 24)) .i64 dv (ints D) := (hVM.doms ▸ hdv : Nums [] w .i64 dv (ints D)).gr hg0
  have Hg0 := hid hg0; have Hb0 := hid hb0; have Ho0 := hid ho0; have HO0 := hid hO0; have Hd0 := hid hd0; have HVM := hid hVM
  have fl0 := fld hb0
  have flo := fld ho0
  have Hv0 := hid (Hv.out.gr hg0)
  clear hg0 hb0 hr0 ho0 hO0 hd0 hdv hcv hVM
  refine (callsIn_wide (n := 0)).1 ?_
  refine callsIn_of_wp_marks Tryz.func33 rfl trivial ?_ rfl
  simp only [Tryz.ntmps33, List.size_toArray, List.length_cons, List.length_nil, Nat.reduceAdd, Nat.reduceSub, Array.replicate_succ, Array.replicate_zero, List.push_toArray, List.append_toArray, List.nil_append, List.cons_append]
  gi_wp2_with fail
  have hcall := (callsIn_wide (n := 0)).2 (propagate_c m D _ _ (((w.alloc (.cells #[dv, cv] 40)).alloc (.cells #[] 23)).alloc (.cells #[.slice (some ⟨w.heap.size + 1, 0, none⟩) 0 0] 24)) Hv0.out Hd0.out HVM.out.cons HVM.out.below HVM.out.len.2)
  refine ⟨trivial, rfl, ?_⟩
  (with_reducible refine hcall.mono ?_)
  clear hcall
  rintro e w3 ⟨v3, rfl, hown3, hg3⟩
  obtain ⟨wo, wc, rfl⟩ := hown3.form
  have Hown3 := hid hown3; have Hg3 := hid hg3
  clear hown3 hg3 fl0 flo
  dsimp only
  gi_wp2_with fail
  refine ⟨trivial, rfl, (callsIn_wide.2 (tuples_c _ _ _ _ _ rfl)).mono ?_⟩
  rintro e w4 ⟨rfl, rfl⟩
  dsimp only
  gi_wp2_with fail
  obtain ⟨wT, hwT⟩ : ∃ wT, wT = w3.alloc (.cells #[.slice wo (ints (fix m.cons D)).length wc] 23) := ⟨_, rfl⟩
  rw [← hwT]
  have hsT : wT.heap.size = w3.heap.size + 1 := by rw [hwT]; simp
  have hg3T : Gr [] w3 wT := by rw [hwT]; exact (Gr.refl _ _).alloc _
  have hgT : Gr [] (((w.alloc (.cells #[dv, cv] 40)).alloc (.cells #[] 23)).alloc (.cells #[.slice (some ⟨w.heap.size + 1, 0, none⟩) 0 0] 24)) wT := Hg3.out.trans hg3T
  have hbT : wT.heap[w3.heap.size]? = some (.cells #[.slice wo (ints (fix m.cons D)).length wc] 23 (0, 0)) := by rw [hwT]; exact heap_alloc_new _ _
  have hs3 : w.heap.size + 3 ≤ w3.heap.size := by have := Hg3.out.size; simpa using this
  have hnT : Nums [w.heap.size + 2, w.heap.size + 1] wT .i64 (.slice wo (ints (fix m.cons D)).length wc) (ints (fix m.cons D)) := (Hown3.out.nums' (by simp <;> omega)).gr hg3T.any
  have hit := tuples_iter [w.heap.size + 2, w.heap.size + 1] wT w3.heap.size _ (fix m.cons D) hbT hnT (by simp; omega) (by intro s hs; simp at hs; omega) (by rw [fix_len HVM.out.cons]; have := HVM.out.len; omega) (fix_below HVM.out.cons HVM.out.below)
  have Hit := hid hit; have HgT := hid hgT
  have HOT := hid (HO0.out.keep hgT (by simp))
  have HoT := hid (hgT.obj Ho0.out (by simp)); have HbT := hid (hgT.obj Hb0.out (by simp))
  clear hit hgT hbT hnT hg3T hwT
  refine' wp_rangeIter2 [w.heap.size + 2, w.heap.size + 1] rfl (fun _ _ => by kernel_rfl) _ _ Hit.out ?hS ?hrd ?hrs
    (fun pre ms W => ∃ fv, W.heap[w.heap.size + 2]? = some (.cells #[fv] 24 (0, 0)) ∧ OutV (w.heap.size + 1) ms W fv (pre.filter (solB m.cons)) ∧ Gr [w.heap.size + 2, w.heap.size + 1] wT W ∧ ∀ b ∈ ms, wT.heap.size + 2 ≤ b ∧ b < W.heap.size)
    (fun _ _ _ _ => False) ?hI (fun _ _ _ _ _ _ h _ _ => h) ?hms ?h0 _ (fun _ _ _ _ h => h.elim) ?hassign ?hbody ?hdone (fun _ _ _ _ _ _ h => h.elim)
  case hassign =>
    intro l v W K hK
    gi_wp2_with fail
    exact hK
  case hS => intro s hs; simp at hs; omega
  case hrd => intro A W W' v x _ h hg; exact h.gr hg
  case hrs => intro A B W v x h hb; exact h.sub fun b _ hm => hb b hm
  case hI =>
    rintro pre ms W W' T ⟨fv, h1, h2, h3, h4⟩ hg hT
    refine ⟨fv, hg.obj h1 (fun hm => by have := (hT _ hm).1; omega), h2.keep hg (fun t ht => ⟨(hT t ht).2, by have := (hT t ht).1; omega⟩), h3.step hg (fun i hi => .inr (hT i hi).1), fun b hb => ⟨(h4 b hb).1, by have := (h4 b hb).2; have := hg.size; omega⟩⟩
  case hms => rintro pre ms W ⟨fv, _, _, _, h4⟩ m hm; exact h4 m hm
  case h0 => exact ⟨_, HoT.out, HOT.out, Gr.refl _ _, by simp⟩
  case hbody =>
    rintro l pre rest x v ms W hxs hW2 ⟨fv, hbo, hout, hg, hms⟩ hr
    have hxm : x ∈ tups (fix m.cons D) := by
      have : x ∈ tupsL ((fix m.cons D).map vals) := by rw [hxs]; simp
      exact this
    have hxD : In x D := In.mono hxm (fix_sub HVM.out.cons)
    have hpl : (pre.filter (solB m.cons)).length ≤ 1000000 := by
      have h1 : (pre ++ x :: rest).length ≤ 6 ^ (fix m.cons D).length := by
        rw [← hxs]
        exact tups_length (fix m.cons D)
      have h2 : 6 ^ (fix m.cons D).length ≤ 6 ^ 4 := Nat.pow_le_pow_right (by omega) (by rw [fix_len HVM.out.cons]; exact HVM.out.len.2)
      have h3 := List.length_filter_le (solB m.cons) pre
      rw [List.length_append] at h1
      omega
    obtain ⟨zss, hz⟩ : ∃ zss, zss = pre.filter (solB m.cons) := ⟨_, rfl⟩
    rw [← hz] at hout hpl
    obtain ⟨fo, fc, rfl, hfc1, hfc2⟩ := hout.slice
    have hxp : 1 ≤ x.length := by rw [tups_len hxm, fix_len HVM.out.cons]; exact HVM.out.len.1
    have hxl : x.length ≤ 4 := by rw [tups_len hxm, fix_len HVM.out.cons]; exact HVM.out.len.2
    have hgw : Gr [] w W := (Hg0.out.trans HgT.out).step hg (fun i hi => .inr (by simp at hi; omega))
    have flm := fld (hg.obj HbT.out (by simp))
    have flo := fld hbo
    have ffo := fldF hbo
    have hlo := lt_of_block hbo
    have Hr := hid (hr.sub (S' := []) (by simp)); have Hrb := hid hr
    obtain ⟨xo, xc, rfl, ⟨hx1, hx2, _⟩, _⟩ := hr
    have Hbo := hid hbo; have Hout := hid hout; have Hg := hid hg; have Hms := hid hms; have Hz := hid hz; have HxD := hid hxD; have Hgw := hid hgw
    clear hbo hout hg hms hz hxD hgw hxm hxs
    have hmm : Hid (ModV [] W (.agg #[dv, cv]) m) := hid (Hv.out.gr Hgw.out)
    gi_wp2_with fail
    have hcall := CallsIn.inRound l ((callsIn_wide (n := 0)).2 (isSolution_c m D x _ _ W hmm.out HVM.out.doms HVM.out.below HVM.out.cons Hr.out HxD.out HVM.out.len.2))
    refine ⟨trivial, rfl, ?_⟩
    (with_reducible refine hcall.mono ?_)
    clear hcall
    rintro e W1 ⟨rfl, hg1⟩
    dsimp only
    have flo1 := fld (hg1.obj Hbo.out (by simp))
    have ffo1 := fldF (hg1.obj Hbo.out (by simp))
    have hlo1 := lt_of_block (hg1.obj Hbo.out (by simp))
    have hs1 := hg1.size
    have Hg1 := hid hg1
    clear hg1 flo ffo flm
    cases hb : solB m.cons x
    · have Hb := hid hb; clear hb
      gi_wp2_with fail
      refine ⟨ms, ⟨_, Hg1.out.obj Hbo.out (by simp), ?_, Hg.out.trans Hg1.out.any, fun b hb => ⟨(Hms.out b hb).1, by have := (Hms.out b hb).2; omega⟩⟩, Hg1.out.any, fun m hm => .inl hm⟩
      rw [List.filter_append, ← Hz.out]
      simp only [List.filter_cons, Hb.out, List.filter_nil, List.append_nil, Bool.false_eq_true, if_false]
      exact Hout.out.keep Hg1.out (by simp)
    · have Hb := hid hb; clear hb
      gi_wp2_with fail
      refine wpIn_region_any (by kernel_rfl) ?_
      (change wpAnyIn _ _ _ _ _ _ _ _ _ (World.drew _))
      refine wpAnyIn_ready (rs := [0, 1]) (by kernel_rfl) (by simp) ?_
      refine AllReadyIn.cons rfl (fun K hK => ?_) (AllReadyIn.cons rfl (fun K hK => ?_) AllReadyIn.nil)
      · go_simp
        refine hK _ _ ?_
        clear hK K
        refine wpAnyIn_ready (rs := [1]) (by kernel_rfl) (by simp) ?_
        refine AllReadyIn.cons rfl (fun K hK => ?_) AllReadyIn.nil
        go_simp
        refine hK _ _ ?_
        clear hK K
        refine wpAnyIn_ready (rs := [2]) (by kernel_rfl) (by simp) ?_
        refine AllReadyIn.cons rfl (fun K hK => ?_) AllReadyIn.nil
        go_simp
        have hcall := CallsIn.inRound l ((callsIn_wide (n := 0)).2 (copied_c _ x _ ((Hr.out.gr Hg1.out).gr ((Gr.refl _ _).drew)) (by omega)))
        refine ⟨trivial, rfl, ?_⟩
        (with_reducible refine hcall.mono ?_)
        clear hcall
        rintro e w5 ⟨v5, rfl, hown5, hg5⟩
        dsimp only
        have hg15 : Gr [] W1 w5 := Gr.trans ((Gr.refl _ _).drew) hg5
        obtain ⟨gr5, cr5, rfl⟩ := hown5.open (by omega)
        obtain ⟨hgr51, hgr52⟩ := hown5.block
        have hgr51 : W1.heap.size ≤ gr5 := hgr51
        have flo5 := fld (hg15.obj (Hg1.out.obj Hbo.out (by simp)) (by simp))
        have ffo5 := fldF (hg15.obj (Hg1.out.obj Hbo.out (by simp)) (by simp))
        have hlo5 := lt_of_block (hg15.obj (Hg1.out.obj Hbo.out (by simp)) (by simp))
        have hs5 := hg15.size
        have Hown5 := hid hown5
        have Hg15 := hid hg15
        clear hown5 hg5 hg15
        refine hK _ _ ?_
        clear hK K
        refine wpAnyIn_ready (rs := [3]) (by kernel_rfl) (by simp) ?_
        refine AllReadyIn.cons rfl (fun K hK => ?_) AllReadyIn.nil
        go_simp
        refine hK _ _ ?_
        clear hK K
        refine wpAnyIn_ready (rs := [4]) (by kernel_rfl) (by simp) ?_
        refine AllReadyIn.cons rfl (fun K hK => ?_) AllReadyIn.nil
        have hg16 : Gr [] W1 (w5.alloc (.cells #[.slice (some ⟨gr5, 0, none⟩) x.length cr5] 23)) := Hg15.out.alloc _
        refine stepI_out rfl _ _ 24 rfl (w.heap.size + 1) ms Tryz.underlying24 (.slice fo zss.length fc) zss rfl ((Hout.out.keep Hg1.out (by simp)).keep hg16 (by simp)) w5.heap.size 1 x gr5 x.length cr5 rfl (by rw [fld (heap_alloc_new w5 (.cells #[.slice (some ⟨gr5, 0, none⟩) x.length cr5] 23))]; rfl) (fun S hS => ⟨_, rfl, (OwnC.ne Hown5.out (fun hm => hS _ hm rfl)).gr ((Gr.refl _ _).alloc _)⟩) (fun e => by have := (Hout.out.lt e).2; omega) (by omega) (by simp; omega) (by simp; omega) (fun hm => by have := (Hms.out _ hm).2; omega) (fun j => by rw [World.frozen?_alloc_old _ _ _ (by dsimp only; omega)]; exact Hown5.out.frozen j) ?_
        intro g7 c7 w7 hout7 hg7 hwh7 hlt7
        have hobo : ∀ b, (Value.slice fo zss.length fc).ownBlock = some b → b = w.heap.size + 1 ∨ b ∈ ms := by obtain ⟨_, _, _, _, h4, _⟩ := Hout.out; exact h4
        have hno : w.heap.size + 2 ∉ (Value.slice fo zss.length fc).ownBlock.toList := fun hm => by
          rcases hobo (w.heap.size + 2) (by simpa using hm) with h | h
          · omega
          · have := (Hms.out _ h).1; omega
        have hbo7 := hg7.obj (hg16.obj (Hg1.out.obj Hbo.out (by simp)) (by simp)) hno
        have flo7 := fld hbo7
        have ffo7 := fldF hbo7
        have hlo7 := lt_of_block hbo7
        have hs7 := hg7.size
        simp at hs7
        have Hbo7 := hid hbo7; have Hout7 := hid hout7; have Hg7 := hid hg7; have Hwh7 := hid hwh7; have Hobo := hid hobo; have Hg16 := hid hg16
        clear hbo7 hout7 hg7 hwh7 hobo hno hg16
        refine hK _ _ ?_
        clear hK K
        refine wpAnyIn_ready (rs := [5]) (by kernel_rfl) (by simp) ?_
        refine AllReadyIn.cons rfl (fun K hK => ?_) AllReadyIn.nil
        go_simp
        refine hK _ _ ?_
        clear hK K
        refine wpAnyIn_done (by kernel_rfl) ?_ _
        gi_wp2_with fail
        have hgs : Gr [w.heap.size + 2] w7 (w7.setCell ⟨w.heap.size + 2, 0, none⟩ (.slice (some ⟨g7, 0, none⟩) (zss.length + 1) c7)) := Gr.cell1 _ _ _ _ (by simp)
        have hfl : (pre ++ [x]).filter (solB m.cons) = zss ++ [x] := by
          rw [List.filter_append, ← Hz.out]
          simp only [List.filter_cons, Hb.out, List.filter_nil, if_true]
        have hsE := hgs.size
        have hgr5m : w.heap.size + 2 ≠ gr5 := by omega
        have hg7m : w.heap.size + 2 ≠ g7 := by
          rcases Hwh7.out with h | h
          · intro e
            rcases Hobo.out g7 h with h | h
            · omega
            · have := (Hms.out _ h).1; omega
          · simp at h; omega
        have hkeep : ∀ t ∈ [w.heap.size + 2], t ∉ ms ++ [gr5, g7] ∧ t ≠ w.heap.size + 1 := by
          intro t ht
          simp at ht; subst ht
          refine ⟨fun hm => ?_, by omega⟩
          simp at hm
          rcases hm with h | h | h
          · have := (Hms.out _ h).1; omega
          · exact hgr5m h
          · exact hg7m h
        have hOE := Hout7.out.keep hgs hkeep
        have hgW7 : Gr ([w.heap.size + 2, w.heap.size + 1] ++ ms) W w7 := by
          refine ((Hg1.out.trans Hg16.out).any (S := [w.heap.size + 2, w.heap.size + 1] ++ ms)).trans (Hg7.out.sub fun k _ hk => ?_)
          rcases Hobo.out k (by simpa using hk) with h | h
          · simp [h]
          · simp [h]
        have hgWE : Gr ([w.heap.size + 2, w.heap.size + 1] ++ ms) W (w7.setCell ⟨w.heap.size + 2, 0, none⟩ (.slice (some ⟨g7, 0, none⟩) (zss.length + 1) c7)) := hgW7.trans (hgs.sub fun k _ hk => by simp at hk ⊢; exact .inl hk)
        have hgTE : Gr [w.heap.size + 2, w.heap.size + 1] wT (w7.setCell ⟨w.heap.size + 2, 0, none⟩ (.slice (some ⟨g7, 0, none⟩) (zss.length + 1) c7)) := Hg.out.step hgWE fun i hi => by
          rcases List.mem_append.1 hi with h | h
          · exact .inl h
          · exact .inr (by have := (Hms.out i h).1; omega)
        have hsWE := hgWE.size
        by_cases hg71 : g7 = w.heap.size + 1
        · subst hg71
          refine ⟨ms ++ [gr5], ⟨_, cells_set Hbo7.out 0 _, ?_, hgTE, ?_⟩, hgWE, ?_⟩
          · rw [hfl]; exact hOE.drop
          · intro b hb
            rcases List.mem_append.1 hb with h | h
            · exact ⟨(Hms.out b h).1, by have := (Hms.out b h).2; simp [World.setCell]; omega⟩
            · simp at h; subst h; exact ⟨by omega, by simp [World.setCell]; omega⟩
          · intro b hb
            rcases List.mem_append.1 hb with h | h
            · exact .inl h
            · simp at h; subst h; exact .inr (by omega)
        · refine ⟨ms ++ [gr5, g7], ⟨_, cells_set Hbo7.out 0 _, ?_, hgTE, ?_⟩, hgWE, ?_⟩
          · rw [hfl]; exact hOE
          · intro b hb
            rcases List.mem_append.1 hb with h | h
            · exact ⟨(Hms.out b h).1, by have := (Hms.out b h).2; simp [World.setCell]; omega⟩
            · simp at h
              rcases h with h | h
              · subst h; exact ⟨by omega, by simp [World.setCell]; omega⟩
              · subst h
                refine ⟨?_, by simp [World.setCell]; omega⟩
                rcases Hwh7.out with h | h
                · rcases Hobo.out _ h with h | h
                  · exact absurd h hg71
                  · exact (Hms.out _ h).1
                · simp at h; omega
          · intro b hb
            rcases List.mem_append.1 hb with h | h
            · exact .inl h
            · simp at h
              rcases h with h | h
              · subst h; exact .inr (by omega)
              · subst h
                rcases Hwh7.out with h | h
                · rcases Hobo.out _ h with h | h
                  · exact absurd h hg71
                  · exact .inl h
                · exact .inr (by simp at h; omega)
      · go_simp
        refine hK _ _ ?_
        clear hK K
        refine wpAnyIn_ready (rs := [0, 2]) (by kernel_rfl) (by simp) ?_
        refine AllReadyIn.cons rfl (fun K hK => ?_) (AllReadyIn.cons rfl (fun K hK => ?_) AllReadyIn.nil)
        · go_simp
          refine hK _ _ ?_
          clear hK K
          refine wpAnyIn_ready (rs := [2]) (by kernel_rfl) (by simp) ?_
          refine AllReadyIn.cons rfl (fun K hK => ?_) AllReadyIn.nil
          go_simp
          have hcall := CallsIn.inRound l ((callsIn_wide (n := 0)).2 (copied_c _ x _ ((Hr.out.gr Hg1.out).gr ((Gr.refl _ _).drew)) (by omega)))
          refine ⟨trivial, rfl, ?_⟩
          (with_reducible refine hcall.mono ?_)
          clear hcall
          rintro e w5 ⟨v5, rfl, hown5, hg5⟩
          dsimp only
          have hg15 : Gr [] W1 w5 := Gr.trans ((Gr.refl _ _).drew) hg5
          obtain ⟨gr5, cr5, rfl⟩ := hown5.open (by omega)
          obtain ⟨hgr51, hgr52⟩ := hown5.block
          have hgr51 : W1.heap.size ≤ gr5 := hgr51
          have flo5 := fld (hg15.obj (Hg1.out.obj Hbo.out (by simp)) (by simp))
          have ffo5 := fldF (hg15.obj (Hg1.out.obj Hbo.out (by simp)) (by simp))
          have hlo5 := lt_of_block (hg15.obj (Hg1.out.obj Hbo.out (by simp)) (by simp))
          have hs5 := hg15.size
          have Hown5 := hid hown5
          have Hg15 := hid hg15
          clear hown5 hg5 hg15
          refine hK _ _ ?_
          clear hK K
          refine wpAnyIn_ready (rs := [3]) (by kernel_rfl) (by simp) ?_
          refine AllReadyIn.cons rfl (fun K hK => ?_) AllReadyIn.nil
          go_simp
          refine hK _ _ ?_
          clear hK K
          refine wpAnyIn_ready (rs := [4]) (by kernel_rfl) (by simp) ?_
          refine AllReadyIn.cons rfl (fun K hK => ?_) AllReadyIn.nil
          have hg16 : Gr [] W1 (w5.alloc (.cells #[.slice (some ⟨gr5, 0, none⟩) x.length cr5] 23)) := Hg15.out.alloc _
          refine stepI_out rfl _ _ 24 rfl (w.heap.size + 1) ms Tryz.underlying24 (.slice fo zss.length fc) zss rfl ((Hout.out.keep Hg1.out (by simp)).keep hg16 (by simp)) w5.heap.size 1 x gr5 x.length cr5 rfl (by rw [fld (heap_alloc_new w5 (.cells #[.slice (some ⟨gr5, 0, none⟩) x.length cr5] 23))]; rfl) (fun S hS => ⟨_, rfl, (OwnC.ne Hown5.out (fun hm => hS _ hm rfl)).gr ((Gr.refl _ _).alloc _)⟩) (fun e => by have := (Hout.out.lt e).2; omega) (by omega) (by simp; omega) (by simp; omega) (fun hm => by have := (Hms.out _ hm).2; omega) (fun j => by rw [World.frozen?_alloc_old _ _ _ (by dsimp only; omega)]; exact Hown5.out.frozen j) ?_
          intro g7 c7 w7 hout7 hg7 hwh7 hlt7
          have hobo : ∀ b, (Value.slice fo zss.length fc).ownBlock = some b → b = w.heap.size + 1 ∨ b ∈ ms := by obtain ⟨_, _, _, _, h4, _⟩ := Hout.out; exact h4
          have hno : w.heap.size + 2 ∉ (Value.slice fo zss.length fc).ownBlock.toList := fun hm => by
            rcases hobo (w.heap.size + 2) (by simpa using hm) with h | h
            · omega
            · have := (Hms.out _ h).1; omega
          have hbo7 := hg7.obj (hg16.obj (Hg1.out.obj Hbo.out (by simp)) (by simp)) hno
          have flo7 := fld hbo7
          have ffo7 := fldF hbo7
          have hlo7 := lt_of_block hbo7
          have hs7 := hg7.size
          simp at hs7
          have Hbo7 := hid hbo7; have Hout7 := hid hout7; have Hg7 := hid hg7; have Hwh7 := hid hwh7; have Hobo := hid hobo; have Hg16 := hid hg16
          clear hbo7 hout7 hg7 hwh7 hobo hno hg16
          refine hK _ _ ?_
          clear hK K
          refine wpAnyIn_ready (rs := [5]) (by kernel_rfl) (by simp) ?_
          refine AllReadyIn.cons rfl (fun K hK => ?_) AllReadyIn.nil
          go_simp
          refine hK _ _ ?_
          clear hK K
          refine wpAnyIn_done (by kernel_rfl) ?_ _
          gi_wp2_with fail
          have hgs : Gr [w.heap.size + 2] w7 (w7.setCell ⟨w.heap.size + 2, 0, none⟩ (.slice (some ⟨g7, 0, none⟩) (zss.length + 1) c7)) := Gr.cell1 _ _ _ _ (by simp)
          have hfl : (pre ++ [x]).filter (solB m.cons) = zss ++ [x] := by
            rw [List.filter_append, ← Hz.out]
            simp only [List.filter_cons, Hb.out, List.filter_nil, if_true]
          have hsE := hgs.size
          have hgr5m : w.heap.size + 2 ≠ gr5 := by omega
          have hg7m : w.heap.size + 2 ≠ g7 := by
            rcases Hwh7.out with h | h
            · intro e
              rcases Hobo.out g7 h with h | h
              · omega
              · have := (Hms.out _ h).1; omega
            · simp at h; omega
          have hkeep : ∀ t ∈ [w.heap.size + 2], t ∉ ms ++ [gr5, g7] ∧ t ≠ w.heap.size + 1 := by
            intro t ht
            simp at ht; subst ht
            refine ⟨fun hm => ?_, by omega⟩
            simp at hm
            rcases hm with h | h | h
            · have := (Hms.out _ h).1; omega
            · exact hgr5m h
            · exact hg7m h
          have hOE := Hout7.out.keep hgs hkeep
          have hgW7 : Gr ([w.heap.size + 2, w.heap.size + 1] ++ ms) W w7 := by
            refine ((Hg1.out.trans Hg16.out).any (S := [w.heap.size + 2, w.heap.size + 1] ++ ms)).trans (Hg7.out.sub fun k _ hk => ?_)
            rcases Hobo.out k (by simpa using hk) with h | h
            · simp [h]
            · simp [h]
          have hgWE : Gr ([w.heap.size + 2, w.heap.size + 1] ++ ms) W (w7.setCell ⟨w.heap.size + 2, 0, none⟩ (.slice (some ⟨g7, 0, none⟩) (zss.length + 1) c7)) := hgW7.trans (hgs.sub fun k _ hk => by simp at hk ⊢; exact .inl hk)
          have hgTE : Gr [w.heap.size + 2, w.heap.size + 1] wT (w7.setCell ⟨w.heap.size + 2, 0, none⟩ (.slice (some ⟨g7, 0, none⟩) (zss.length + 1) c7)) := Hg.out.step hgWE fun i hi => by
            rcases List.mem_append.1 hi with h | h
            · exact .inl h
            · exact .inr (by have := (Hms.out i h).1; omega)
          have hsWE := hgWE.size
          by_cases hg71 : g7 = w.heap.size + 1
          · subst hg71
            refine ⟨ms ++ [gr5], ⟨_, cells_set Hbo7.out 0 _, ?_, hgTE, ?_⟩, hgWE, ?_⟩
            · rw [hfl]; exact hOE.drop
            · intro b hb
              rcases List.mem_append.1 hb with h | h
              · exact ⟨(Hms.out b h).1, by have := (Hms.out b h).2; simp [World.setCell]; omega⟩
              · simp at h; subst h; exact ⟨by omega, by simp [World.setCell]; omega⟩
            · intro b hb
              rcases List.mem_append.1 hb with h | h
              · exact .inl h
              · simp at h; subst h; exact .inr (by omega)
          · refine ⟨ms ++ [gr5, g7], ⟨_, cells_set Hbo7.out 0 _, ?_, hgTE, ?_⟩, hgWE, ?_⟩
            · rw [hfl]; exact hOE
            · intro b hb
              rcases List.mem_append.1 hb with h | h
              · exact ⟨(Hms.out b h).1, by have := (Hms.out b h).2; simp [World.setCell]; omega⟩
              · simp at h
                rcases h with h | h
                · subst h; exact ⟨by omega, by simp [World.setCell]; omega⟩
                · subst h
                  refine ⟨?_, by simp [World.setCell]; omega⟩
                  rcases Hwh7.out with h | h
                  · rcases Hobo.out _ h with h | h
                    · exact absurd h hg71
                    · exact (Hms.out _ h).1
                  · simp at h; omega
            · intro b hb
              rcases List.mem_append.1 hb with h | h
              · exact .inl h
              · simp at h
                rcases h with h | h
                · subst h; exact .inr (by omega)
                · subst h
                  rcases Hwh7.out with h | h
                  · rcases Hobo.out _ h with h | h
                    · exact absurd h hg71
                    · exact .inl h
                  · exact .inr (by simp at h; omega)
        · go_simp
          have hcall := CallsIn.inRound l ((callsIn_wide (n := 0)).2 (copied_c _ x _ ((Hr.out.gr Hg1.out).gr ((Gr.refl _ _).drew)) (by omega)))
          refine ⟨trivial, rfl, ?_⟩
          (with_reducible refine hcall.mono ?_)
          clear hcall
          rintro e w5 ⟨v5, rfl, hown5, hg5⟩
          dsimp only
          have hg15 : Gr [] W1 w5 := Gr.trans ((Gr.refl _ _).drew) hg5
          obtain ⟨gr5, cr5, rfl⟩ := hown5.open (by omega)
          obtain ⟨hgr51, hgr52⟩ := hown5.block
          have hgr51 : W1.heap.size ≤ gr5 := hgr51
          have flo5 := fld (hg15.obj (Hg1.out.obj Hbo.out (by simp)) (by simp))
          have ffo5 := fldF (hg15.obj (Hg1.out.obj Hbo.out (by simp)) (by simp))
          have hlo5 := lt_of_block (hg15.obj (Hg1.out.obj Hbo.out (by simp)) (by simp))
          have hs5 := hg15.size
          have Hown5 := hid hown5
          have Hg15 := hid hg15
          clear hown5 hg5 hg15
          refine hK _ _ ?_
          clear hK K
          refine wpAnyIn_ready (rs := [0, 3]) (by kernel_rfl) (by simp) ?_
          refine AllReadyIn.cons rfl (fun K hK => ?_) (AllReadyIn.cons rfl (fun K hK => ?_) AllReadyIn.nil)
          · go_simp
            refine hK _ _ ?_
            clear hK K
            refine wpAnyIn_ready (rs := [3]) (by kernel_rfl) (by simp) ?_
            refine AllReadyIn.cons rfl (fun K hK => ?_) AllReadyIn.nil
            go_simp
            refine hK _ _ ?_
            clear hK K
            refine wpAnyIn_ready (rs := [4]) (by kernel_rfl) (by simp) ?_
            refine AllReadyIn.cons rfl (fun K hK => ?_) AllReadyIn.nil
            have hg16 : Gr [] W1 (w5.alloc (.cells #[.slice (some ⟨gr5, 0, none⟩) x.length cr5] 23)) := Hg15.out.alloc _
            refine stepI_out rfl _ _ 24 rfl (w.heap.size + 1) ms Tryz.underlying24 (.slice fo zss.length fc) zss rfl ((Hout.out.keep Hg1.out (by simp)).keep hg16 (by simp)) w5.heap.size 1 x gr5 x.length cr5 rfl (by rw [fld (heap_alloc_new w5 (.cells #[.slice (some ⟨gr5, 0, none⟩) x.length cr5] 23))]; rfl) (fun S hS => ⟨_, rfl, (OwnC.ne Hown5.out (fun hm => hS _ hm rfl)).gr ((Gr.refl _ _).alloc _)⟩) (fun e => by have := (Hout.out.lt e).2; omega) (by omega) (by simp; omega) (by simp; omega) (fun hm => by have := (Hms.out _ hm).2; omega) (fun j => by rw [World.frozen?_alloc_old _ _ _ (by dsimp only; omega)]; exact Hown5.out.frozen j) ?_
            intro g7 c7 w7 hout7 hg7 hwh7 hlt7
            have hobo : ∀ b, (Value.slice fo zss.length fc).ownBlock = some b → b = w.heap.size + 1 ∨ b ∈ ms := by obtain ⟨_, _, _, _, h4, _⟩ := Hout.out; exact h4
            have hno : w.heap.size + 2 ∉ (Value.slice fo zss.length fc).ownBlock.toList := fun hm => by
              rcases hobo (w.heap.size + 2) (by simpa using hm) with h | h
              · omega
              · have := (Hms.out _ h).1; omega
            have hbo7 := hg7.obj (hg16.obj (Hg1.out.obj Hbo.out (by simp)) (by simp)) hno
            have flo7 := fld hbo7
            have ffo7 := fldF hbo7
            have hlo7 := lt_of_block hbo7
            have hs7 := hg7.size
            simp at hs7
            have Hbo7 := hid hbo7; have Hout7 := hid hout7; have Hg7 := hid hg7; have Hwh7 := hid hwh7; have Hobo := hid hobo; have Hg16 := hid hg16
            clear hbo7 hout7 hg7 hwh7 hobo hno hg16
            refine hK _ _ ?_
            clear hK K
            refine wpAnyIn_ready (rs := [5]) (by kernel_rfl) (by simp) ?_
            refine AllReadyIn.cons rfl (fun K hK => ?_) AllReadyIn.nil
            go_simp
            refine hK _ _ ?_
            clear hK K
            refine wpAnyIn_done (by kernel_rfl) ?_ _
            gi_wp2_with fail
            have hgs : Gr [w.heap.size + 2] w7 (w7.setCell ⟨w.heap.size + 2, 0, none⟩ (.slice (some ⟨g7, 0, none⟩) (zss.length + 1) c7)) := Gr.cell1 _ _ _ _ (by simp)
            have hfl : (pre ++ [x]).filter (solB m.cons) = zss ++ [x] := by
              rw [List.filter_append, ← Hz.out]
              simp only [List.filter_cons, Hb.out, List.filter_nil, if_true]
            have hsE := hgs.size
            have hgr5m : w.heap.size + 2 ≠ gr5 := by omega
            have hg7m : w.heap.size + 2 ≠ g7 := by
              rcases Hwh7.out with h | h
              · intro e
                rcases Hobo.out g7 h with h | h
                · omega
                · have := (Hms.out _ h).1; omega
              · simp at h; omega
            have hkeep : ∀ t ∈ [w.heap.size + 2], t ∉ ms ++ [gr5, g7] ∧ t ≠ w.heap.size + 1 := by
              intro t ht
              simp at ht; subst ht
              refine ⟨fun hm => ?_, by omega⟩
              simp at hm
              rcases hm with h | h | h
              · have := (Hms.out _ h).1; omega
              · exact hgr5m h
              · exact hg7m h
            have hOE := Hout7.out.keep hgs hkeep
            have hgW7 : Gr ([w.heap.size + 2, w.heap.size + 1] ++ ms) W w7 := by
              refine ((Hg1.out.trans Hg16.out).any (S := [w.heap.size + 2, w.heap.size + 1] ++ ms)).trans (Hg7.out.sub fun k _ hk => ?_)
              rcases Hobo.out k (by simpa using hk) with h | h
              · simp [h]
              · simp [h]
            have hgWE : Gr ([w.heap.size + 2, w.heap.size + 1] ++ ms) W (w7.setCell ⟨w.heap.size + 2, 0, none⟩ (.slice (some ⟨g7, 0, none⟩) (zss.length + 1) c7)) := hgW7.trans (hgs.sub fun k _ hk => by simp at hk ⊢; exact .inl hk)
            have hgTE : Gr [w.heap.size + 2, w.heap.size + 1] wT (w7.setCell ⟨w.heap.size + 2, 0, none⟩ (.slice (some ⟨g7, 0, none⟩) (zss.length + 1) c7)) := Hg.out.step hgWE fun i hi => by
              rcases List.mem_append.1 hi with h | h
              · exact .inl h
              · exact .inr (by have := (Hms.out i h).1; omega)
            have hsWE := hgWE.size
            by_cases hg71 : g7 = w.heap.size + 1
            · subst hg71
              refine ⟨ms ++ [gr5], ⟨_, cells_set Hbo7.out 0 _, ?_, hgTE, ?_⟩, hgWE, ?_⟩
              · rw [hfl]; exact hOE.drop
              · intro b hb
                rcases List.mem_append.1 hb with h | h
                · exact ⟨(Hms.out b h).1, by have := (Hms.out b h).2; simp [World.setCell]; omega⟩
                · simp at h; subst h; exact ⟨by omega, by simp [World.setCell]; omega⟩
              · intro b hb
                rcases List.mem_append.1 hb with h | h
                · exact .inl h
                · simp at h; subst h; exact .inr (by omega)
            · refine ⟨ms ++ [gr5, g7], ⟨_, cells_set Hbo7.out 0 _, ?_, hgTE, ?_⟩, hgWE, ?_⟩
              · rw [hfl]; exact hOE
              · intro b hb
                rcases List.mem_append.1 hb with h | h
                · exact ⟨(Hms.out b h).1, by have := (Hms.out b h).2; simp [World.setCell]; omega⟩
                · simp at h
                  rcases h with h | h
                  · subst h; exact ⟨by omega, by simp [World.setCell]; omega⟩
                  · subst h
                    refine ⟨?_, by simp [World.setCell]; omega⟩
                    rcases Hwh7.out with h | h
                    · rcases Hobo.out _ h with h | h
                      · exact absurd h hg71
                      · exact (Hms.out _ h).1
                    · simp at h; omega
              · intro b hb
                rcases List.mem_append.1 hb with h | h
                · exact .inl h
                · simp at h
                  rcases h with h | h
                  · subst h; exact .inr (by omega)
                  · subst h
                    rcases Hwh7.out with h | h
                    · rcases Hobo.out _ h with h | h
                      · exact absurd h hg71
                      · exact .inl h
                    · exact .inr (by simp at h; omega)
          · go_simp
            refine hK _ _ ?_
            clear hK K
            refine wpAnyIn_ready (rs := [0]) (by kernel_rfl) (by simp) ?_
            refine AllReadyIn.cons rfl (fun K hK => ?_) AllReadyIn.nil
            go_simp
            refine hK _ _ ?_
            clear hK K
            refine wpAnyIn_ready (rs := [4]) (by kernel_rfl) (by simp) ?_
            refine AllReadyIn.cons rfl (fun K hK => ?_) AllReadyIn.nil
            have hg16 : Gr [] W1 (w5.alloc (.cells #[.slice (some ⟨gr5, 0, none⟩) x.length cr5] 23)) := Hg15.out.alloc _
            refine stepI_out rfl _ _ 24 rfl (w.heap.size + 1) ms Tryz.underlying24 (.slice fo zss.length fc) zss rfl ((Hout.out.keep Hg1.out (by simp)).keep hg16 (by simp)) w5.heap.size 1 x gr5 x.length cr5 rfl (by rw [fld (heap_alloc_new w5 (.cells #[.slice (some ⟨gr5, 0, none⟩) x.length cr5] 23))]; rfl) (fun S hS => ⟨_, rfl, (OwnC.ne Hown5.out (fun hm => hS _ hm rfl)).gr ((Gr.refl _ _).alloc _)⟩) (fun e => by have := (Hout.out.lt e).2; omega) (by omega) (by simp; omega) (by simp; omega) (fun hm => by have := (Hms.out _ hm).2; omega) (fun j => by rw [World.frozen?_alloc_old _ _ _ (by dsimp only; omega)]; exact Hown5.out.frozen j) ?_
            intro g7 c7 w7 hout7 hg7 hwh7 hlt7
            have hobo : ∀ b, (Value.slice fo zss.length fc).ownBlock = some b → b = w.heap.size + 1 ∨ b ∈ ms := by obtain ⟨_, _, _, _, h4, _⟩ := Hout.out; exact h4
            have hno : w.heap.size + 2 ∉ (Value.slice fo zss.length fc).ownBlock.toList := fun hm => by
              rcases hobo (w.heap.size + 2) (by simpa using hm) with h | h
              · omega
              · have := (Hms.out _ h).1; omega
            have hbo7 := hg7.obj (hg16.obj (Hg1.out.obj Hbo.out (by simp)) (by simp)) hno
            have flo7 := fld hbo7
            have ffo7 := fldF hbo7
            have hlo7 := lt_of_block hbo7
            have hs7 := hg7.size
            simp at hs7
            have Hbo7 := hid hbo7; have Hout7 := hid hout7; have Hg7 := hid hg7; have Hwh7 := hid hwh7; have Hobo := hid hobo; have Hg16 := hid hg16
            clear hbo7 hout7 hg7 hwh7 hobo hno hg16
            refine hK _ _ ?_
            clear hK K
            refine wpAnyIn_ready (rs := [5]) (by kernel_rfl) (by simp) ?_
            refine AllReadyIn.cons rfl (fun K hK => ?_) AllReadyIn.nil
            go_simp
            refine hK _ _ ?_
            clear hK K
            refine wpAnyIn_done (by kernel_rfl) ?_ _
            gi_wp2_with fail
            have hgs : Gr [w.heap.size + 2] w7 (w7.setCell ⟨w.heap.size + 2, 0, none⟩ (.slice (some ⟨g7, 0, none⟩) (zss.length + 1) c7)) := Gr.cell1 _ _ _ _ (by simp)
            have hfl : (pre ++ [x]).filter (solB m.cons) = zss ++ [x] := by
              rw [List.filter_append, ← Hz.out]
              simp only [List.filter_cons, Hb.out, List.filter_nil, if_true]
            have hsE := hgs.size
            have hgr5m : w.heap.size + 2 ≠ gr5 := by omega
            have hg7m : w.heap.size + 2 ≠ g7 := by
              rcases Hwh7.out with h | h
              · intro e
                rcases Hobo.out g7 h with h | h
                · omega
                · have := (Hms.out _ h).1; omega
              · simp at h; omega
            have hkeep : ∀ t ∈ [w.heap.size + 2], t ∉ ms ++ [gr5, g7] ∧ t ≠ w.heap.size + 1 := by
              intro t ht
              simp at ht; subst ht
              refine ⟨fun hm => ?_, by omega⟩
              simp at hm
              rcases hm with h | h | h
              · have := (Hms.out _ h).1; omega
              · exact hgr5m h
              · exact hg7m h
            have hOE := Hout7.out.keep hgs hkeep
            have hgW7 : Gr ([w.heap.size + 2, w.heap.size + 1] ++ ms) W w7 := by
              refine ((Hg1.out.trans Hg16.out).any (S := [w.heap.size + 2, w.heap.size + 1] ++ ms)).trans (Hg7.out.sub fun k _ hk => ?_)
              rcases Hobo.out k (by simpa using hk) with h | h
              · simp [h]
              · simp [h]
            have hgWE : Gr ([w.heap.size + 2, w.heap.size + 1] ++ ms) W (w7.setCell ⟨w.heap.size + 2, 0, none⟩ (.slice (some ⟨g7, 0, none⟩) (zss.length + 1) c7)) := hgW7.trans (hgs.sub fun k _ hk => by simp at hk ⊢; exact .inl hk)
            have hgTE : Gr [w.heap.size + 2, w.heap.size + 1] wT (w7.setCell ⟨w.heap.size + 2, 0, none⟩ (.slice (some ⟨g7, 0, none⟩) (zss.length + 1) c7)) := Hg.out.step hgWE fun i hi => by
              rcases List.mem_append.1 hi with h | h
              · exact .inl h
              · exact .inr (by have := (Hms.out i h).1; omega)
            have hsWE := hgWE.size
            by_cases hg71 : g7 = w.heap.size + 1
            · subst hg71
              refine ⟨ms ++ [gr5], ⟨_, cells_set Hbo7.out 0 _, ?_, hgTE, ?_⟩, hgWE, ?_⟩
              · rw [hfl]; exact hOE.drop
              · intro b hb
                rcases List.mem_append.1 hb with h | h
                · exact ⟨(Hms.out b h).1, by have := (Hms.out b h).2; simp [World.setCell]; omega⟩
                · simp at h; subst h; exact ⟨by omega, by simp [World.setCell]; omega⟩
              · intro b hb
                rcases List.mem_append.1 hb with h | h
                · exact .inl h
                · simp at h; subst h; exact .inr (by omega)
            · refine ⟨ms ++ [gr5, g7], ⟨_, cells_set Hbo7.out 0 _, ?_, hgTE, ?_⟩, hgWE, ?_⟩
              · rw [hfl]; exact hOE
              · intro b hb
                rcases List.mem_append.1 hb with h | h
                · exact ⟨(Hms.out b h).1, by have := (Hms.out b h).2; simp [World.setCell]; omega⟩
                · simp at h
                  rcases h with h | h
                  · subst h; exact ⟨by omega, by simp [World.setCell]; omega⟩
                  · subst h
                    refine ⟨?_, by simp [World.setCell]; omega⟩
                    rcases Hwh7.out with h | h
                    · rcases Hobo.out _ h with h | h
                      · exact absurd h hg71
                      · exact (Hms.out _ h).1
                    · simp at h; omega
              · intro b hb
                rcases List.mem_append.1 hb with h | h
                · exact .inl h
                · simp at h
                  rcases h with h | h
                  · subst h; exact .inr (by omega)
                  · subst h
                    rcases Hwh7.out with h | h
                    · rcases Hobo.out _ h with h | h
                      · exact absurd h hg71
                      · exact .inl h
                    · exact .inr (by simp at h; omega)
  case hdone =>
    rintro D' ms W ⟨fv, hbo, hout, hg, hms⟩ hD hD1 hD2
    obtain ⟨fo, fc, rfl, _, _⟩ := hout.slice
    have flo := fld hbo
    have hgw : Gr [] w W := (Hg0.out.trans HgT.out).step hg (fun i hi => .inr (by simp at hi; omega))
    have Hout := hid hout; have Hms := hid hms; have HD := hid hD; have HD2 := hid hD2; have Hgw := hid hgw
    clear hbo hout hms hD hD2 hg hgw
    gi_wp2_with fail
    have hK : W.heap[D']? = some (.deferred (some [])) := HD.out
    refine ⟨by simp, .inl ⟨_, _, rfl, run_takeDeferred hK, ?_⟩⟩
    refine ⟨_, results_tmp rfl _ _ _, ?_⟩
    refine ⟨_, rfl, ?_, ?_⟩
    · have e : sols m.cons D = (tupsL ((fix m.cons D).map vals)).filter (solB m.cons) := by rw [← sols_fix HVM.out.cons]; rfl
      rw [e]
      have hO := fun o : Obj => Hout.out.keep (Gr.putObj W D' o) (by intro t ht; simp at ht; subst ht; exact ⟨HD2.out, by omega⟩)
      have hmB : ∀ o : Obj, ∀ b ∈ ms, w.heap.size ≤ b ∧ b < (W.putObj D' o).heap.size := fun o b hb => ⟨by have := (Hms.out b hb).1; omega, by have := (Hms.out b hb).2; simp; omega⟩
      exact ⟨OutV.g (hO _) (by omega) (hmB _), OutV.d (hO _) (by omega) (hmB _)⟩
    · exact Hgw.out.step (Gr.putObj W D' _) (fun i hi => .inr (by simp at hi; subst hi; omega))
theorem solutions_c (m : Mod) (D : List Nat) (mv : Value) (w : World) (hv : ModV [] w mv m) (hVM : VM m D) :
    Calls Tryz.prog 33 #[mv] w fun e w' => ∃ v, e = .returned v ∧ OwnG 1 elRow w.heap.size w' 23 v (sols m.cons D) ∧ Gr [] w w' :=
  (solutionsD_c m D mv w hv hVM).mono fun e w' ⟨v, h1, h2, h3⟩ => ⟨v, h1, h2.1, h3⟩
end Go.Proofs.YtmonhpoogfdpoaaGreat
