/-
  A range over a function with any number of loop variables: the law for the caller, and what the iterator owes. No program is mentioned.
-/
import Derived.Test.YtmonhpoogfdpoaaGreatXLib
set_option linter.unusedVariables false
set_option linter.unusedSimpArgs false
namespace Go.Proofs.YtmonhpoogfdpoaaGreat
open Go.RowKit
attribute [local go_sem] Oper.semAt_some

/-- What an iterator owes. -/
def IterN {α : Type} (P : Program) (g : Nat) (lb : Array Value) (S : List Nat) (w0 : World) (xs : List α) (rd : List Nat → World → Value → Value → α → Prop) : Prop :=
  ∀ (l : Nat) (J Jx : List α → List Nat → World → Prop) (W : World), Gr S w0 W → w0.heap.size ≤ l → l < W.heap.size → Stable W.heap.size J → Stable W.heap.size Jx →
    (∀ pre ms W1, J pre ms W1 → ∀ m ∈ ms, W.heap.size ≤ m ∧ m < W1.heap.size) →
    (∀ pre x rest v v2 ms W1, xs = pre ++ x :: rest → J pre ms W1 → rd (l :: S ++ ms) W1 v v2 x → ∃ fn tmps assign body, (Instr.yield l #[v, v2]).run P W1 = .ok (.round l fn tmps assign body) W1 ∧
      RoundIn Fence.wide 0 P l fn tmps assign body W1 fun e W' =>
        (e = .returned (.bool true) ∧ ∃ ms', J (pre ++ [x]) ms' W' ∧ Gr (l :: S ++ ms) W1 W' ∧ ∀ m ∈ ms', m ∈ ms ∨ W1.heap.size ≤ m) ∨
        (e = .returned (.bool false) ∧ ∃ ms', Jx (pre ++ [x]) ms' W' ∧ Gr (l :: S ++ ms) W1 W')) →
    J [] [] W →
    CallsIn Fence.wide 0 P g (#[.func (.yield l) #[] #[]] ++ lb) W fun e W' => (∃ v, e = .returned v) ∧ ((∃ ms, J xs ms W') ∨ (∃ pre ms, pre <+: xs ∧ Jx pre ms W'))

theorem wp_rangeIterN {α : Type} {P : Program} {g : Operand} {p q : Tmp} {assign body : Code} {Q : Exit → Act → World → Prop} {a : Act} {w : World} (S : List Nat)
    {gf : Nat} {lb : Array Value} (hg : a.eval g = .func (.func gf) #[] lb) (eg : ∀ args w, (callFunc gf args).run P w = .ok (.enter gf args) w)
    (xs : List α) (rd : List Nat → World → Value → Value → α → Prop) (hit : IterN P gf lb S w xs rd) (hS : ∀ s ∈ S, s < w.heap.size)
    (hrd : ∀ (A : List Nat) W W' v v2 x, (∀ t ∈ A, t < W.heap.size) → rd A W v v2 x → Gr A W W' → rd A W' v v2 x) (hrs : ∀ (A B : List Nat) W v v2 x, rd A W v v2 x → (∀ b ∈ B, b ∈ A) → rd B W v v2 x)
    (I : List α → List Nat → World → Prop) (Ix : Code → List α → List Nat → World → Prop) (hI : Stable w.heap.size I) (hIx : ∀ c, Stable w.heap.size (Ix c))
    (hms : ∀ pre ms W, I pre ms W → ∀ m ∈ ms, w.heap.size + 2 ≤ m ∧ m < W.heap.size) (h0 : I [] [] w) (a₁ : Value → Value → Act)
    (hmsx : ∀ c pre ms W, Ix c pre ms W → ∀ m ∈ ms, w.heap.size + 2 ≤ m)
    (hassign : ∀ (l : Nat) (v v2 : Value) (W : World) (K : Act → World → Prop), K (a₁ v v2) W →
      assign.wpIn (Fence.wide.inRound l) 0 P (Exit.then K (fun _ _ _ => False)) { tmps := (a.tmps.setIfInBounds p v).setIfInBounds q v2, defers := [] } W)
    (hbody : ∀ (l : Nat) (pre rest : List α) (x : α) (v v2 : Value) (ms : List Nat) (W : World), xs = pre ++ x :: rest → w.heap.size + 2 ≤ W.heap.size → I pre ms W → rd (S ++ ms) W v v2 x →
      body.wpIn (Fence.wide.inRound l) 0 P (roundEnd S I Ix (pre ++ [x]) ms W) (a₁ v v2) W)
    (hdone : ∀ (D : Nat) (ms : List Nat) (W : World), I xs ms W → W.heap[D]? = some (.deferred (some [])) → w.heap.size ≤ D → D ∉ ms → Q .normal { a with defers := { target := .collected D, args := #[] } :: a.defers } W)
    (hstop : ∀ (D : Nat) (c : Code) (pre : List α) (ms : List Nat) (W : World), pre <+: xs → Ix c pre ms W → W.heap[D]? = some (.deferred (some [])) → w.heap.size ≤ D → D ∉ ms →
      c.wpIn Fence.wide 0 P Q { a with defers := { target := .collected D, args := #[] } :: a.defers } W) :
    (Code.rangeFunc g #[p, q] assign body).wpIn Fence.wide 0 P Q a w := by
  refine wpIn_rangeFunc ?_
  intro fn hfn
  obtain ⟨rec, hrec⟩ : ∃ rec : LoopState → Option Code → Loop, rec = fun st pe => { state := st, pending := pe, fn, tmps := a.tmps, params := #[p, q], assign, body, defers := w.heap.size } := ⟨_, rfl⟩
  obtain ⟨W1, hW1⟩ : ∃ W1, (w.alloc (.deferred (some []))).alloc (.loop (rec .ready none)) = W1 := ⟨_, rfl⟩
  have hL1 : W1.heap[w.heap.size + 1]? = some (.loop (rec .ready none)) := by
    rw [← hW1]; have := World.alloc_heap_new (w.alloc (.deferred (some []))) (.loop (rec .ready none)); rwa [World.size_alloc] at this
  have hK1 : W1.heap[w.heap.size]? = some (.deferred (some [])) := by
    rw [← hW1]; exact (Below.heap_alloc _ _ _ (by simp)).trans (World.alloc_heap_new w _)
  have hg1 : Gr [] w W1 := by rw [← hW1]; exact ((Gr.refl _ _).alloc _).alloc _
  have hs1 : W1.heap.size = w.heap.size + 2 := by rw [← hW1]; simp
  have hI1 : I [] [] W1 := hI _ _ _ _ [] h0 hg1 (by simp)
  refine ⟨w.heap.size + 1, [{ target := .collected w.heap.size, args := #[] }], W1, { target := .fn (.func gf) lb, args := #[.func (.yield (w.heap.size + 1)) #[] #[]] }, W1, gf,
    #[.func (.yield (w.heap.size + 1)) #[] #[]] ++ lb, W1, ?_, ?_, ?_, ?_, fun h => by simp [Fence.wide] at h, ?_⟩
  · rw [← hW1, hrec]; exact run_enterLoop_outer _ _ _ _ _
  · simp only [resolve, hg]
    simp [go_sem]
  · intro f' _; trivial
  · simp [invoke, go_sem, eg]
  · have hn0 : (0 : Nat) - 1 = 0 := rfl
    refine (hit (w.heap.size + 1)
      (fun pre ms W => I pre ms W ∧ W.heap[w.heap.size + 1]? = some (.loop (rec .ready none)) ∧ W.heap[w.heap.size]? = some (.deferred (some [])))
      (fun pre ms W => ∃ c, Ix c pre ms W ∧ W.heap[w.heap.size + 1]? = some (.loop (rec .done (some c))) ∧ W.heap[w.heap.size]? = some (.deferred (some [])) ∧ (∀ m ∈ ms, w.heap.size + 2 ≤ m))
      W1 hg1.any (by omega) (by omega) ?_ ?_ ?_ ?_ ⟨hI1, hL1, hK1⟩).mono ?_
    · rintro pre ms A B T ⟨h1, h2, h3⟩ hgr hT
      exact ⟨hI _ _ _ _ T h1 hgr (fun t ht => ⟨by have := (hT t ht).1; omega, (hT t ht).2⟩), hgr.obj h2 (fun hm => by have := (hT _ hm).1; omega), hgr.obj h3 (fun hm => by have := (hT _ hm).1; omega)⟩
    · rintro pre ms A B T ⟨c, h1, h2, h3, h4⟩ hgr hT
      exact ⟨c, hIx c _ _ _ _ T h1 hgr (fun t ht => ⟨by have := (hT t ht).1; omega, (hT t ht).2⟩), hgr.obj h2 (fun hm => by have := (hT _ hm).1; omega), hgr.obj h3 (fun hm => by have := (hT _ hm).1; omega), h4⟩
    · rintro pre ms A ⟨h1, _, _⟩ m hm
      have := hms _ _ _ h1 m hm
      omega
    · rintro pre x rest v v2 ms W hxs ⟨hi, hl, hk⟩ hr
      have hlt : w.heap.size + 1 < W.heap.size := (Array.getElem?_eq_some_iff.1 hl).1
      have hy := run_yield (P := P) (args := #[v, v2]) hl (by rw [hrec]; rfl)
      rw [hrec] at hy
      have hmm := hms _ _ _ hi
      refine ⟨fn, _, assign, body, hy, roundIn_of_wpIn hfn ?_⟩
      have e1 : (Array.zip #[p, q] #[v, v2]).foldl (fun tmps (x : Tmp × Value) => tmps.setIfInBounds x.1 x.2) a.tmps = (a.tmps.setIfInBounds p v).setIfInBounds q v2 := by simp
      have e2 : (fun (tmps : Array Value) (x : Tmp × Value) => match x with | (t, a) => tmps.setIfInBounds t a) = (fun tmps (x : Tmp × Value) => tmps.setIfInBounds x.1 x.2) := by funext t ⟨x, y⟩; rfl
      have e3 : (Array.zip #[p, q] #[v, v2]).foldl (fun (tmps : Array Value) (x : Tmp × Value) => match x with | (t, a) => tmps.setIfInBounds t a) a.tmps = (a.tmps.setIfInBounds p v).setIfInBounds q v2 := by rw [e2, e1]
      rw [e3]
      refine hassign _ v v2 W _ ⟨_, run_beginRound hl (by rw [hrec]), ?_⟩
      have hl2 : (W.putObj (w.heap.size + 1) (.loop { rec .ready none with state := .busy })).heap[w.heap.size + 1]? = some (.loop { rec .ready none with state := .busy }) := World.putObj_heap_same hlt
      have hk2 : (W.putObj (w.heap.size + 1) (.loop { rec .ready none with state := .busy })).heap[w.heap.size]? = some (.deferred (some [])) := (World.putObj_heap_other (by omega)).trans hk
      have hgb : Gr [w.heap.size + 1] W (W.putObj (w.heap.size + 1) (.loop { rec .ready none with state := .busy })) := Gr.putObj _ _ _
      have hnm : w.heap.size + 1 ∉ ms := fun hm => by have := hmm _ hm; omega
      have hnd : w.heap.size ∉ S ++ ms := fun hm => by rcases List.mem_append.1 hm with hm | hm; have := hS _ hm; omega; have := hmm _ hm; omega
      have hnl : w.heap.size + 1 ∉ S ++ ms := fun hm => by rcases List.mem_append.1 hm with hm | hm; have := hS _ hm; omega; have := hmm _ hm; omega
      have hi2 : I pre ms (W.putObj (w.heap.size + 1) (.loop { rec .ready none with state := .busy })) := hI _ _ _ _ _ hi hgb (by simpa using hnm)
      have hr2 := hrd (((w.heap.size + 1) :: S) ++ ms) W _ v v2 x (by
        intro t ht
        rcases List.mem_append.1 ht with ht | ht
        · rcases List.mem_cons.1 ht with rfl | ht
          · exact hlt
          · have := hS _ ht; omega
        · exact (hmm _ ht).2) hr (hgb.sub (fun k _ h => by simp at h ⊢; exact .inl h))
      refine wpIn_mono (hbody _ pre rest x v v2 ms _ hxs (by simp; omega) hi2 (hrs _ _ _ _ _ _ hr2 (by intro b hb; simp at hb ⊢; exact .inr hb))) ?_
      have fin : ∀ (jump : Option Code) (W3 : World), Gr (S ++ ms) (W.putObj (w.heap.size + 1) (.loop { rec .ready none with state := .busy })) W3 →
          (Instr.endRound (w.heap.size + 1) jump).run P W3 = .ok (.bool jump.isNone) (W3.putObj (w.heap.size + 1) (.loop (rec (if jump.isNone then .ready else .done) jump))) ∧
          (W3.putObj (w.heap.size + 1) (.loop (rec (if jump.isNone then .ready else .done) jump))).heap[w.heap.size + 1]? = some (.loop (rec (if jump.isNone then .ready else .done) jump)) ∧
          (W3.putObj (w.heap.size + 1) (.loop (rec (if jump.isNone then .ready else .done) jump))).heap[w.heap.size]? = some (.deferred (some [])) ∧
          Gr (((w.heap.size + 1) :: S) ++ ms) W (W3.putObj (w.heap.size + 1) (.loop (rec (if jump.isNone then .ready else .done) jump))) := fun jump W3 hk3 => by
        have hl3 := hk3.obj hl2 hnl
        have := run_endRound (P := P) jump hl3
        rw [hrec] at this ⊢
        refine ⟨this, World.putObj_heap_same (Array.getElem?_eq_some_iff.1 hl3).1, (World.putObj_heap_other (by omega)).trans (hk3.obj hk2 hnd), ?_⟩
        rw [hrec] at hgb hk3
        exact ((hgb.sub (fun k _ h => by simp at h ⊢; exact .inl h)).trans (hk3.sub (by intro k _ hk; simp at hk ⊢; exact .inr hk))).trans ((Gr.putObj _ _ _).sub (fun k _ h => by simp at h ⊢; exact .inl h))
      have hsz : (W.putObj (w.heap.size + 1) (.loop { rec .ready none with state := .busy })).heap.size = W.heap.size := by simp
      rintro e a3 W3 hp
      cases e with
      | normal =>
        obtain ⟨ms', hi3, hg3, hn3⟩ := hp
        obtain ⟨hr3, hl4, hk4, hg4⟩ := fin none W3 hg3
        have hnm' : w.heap.size + 1 ∉ ms' := fun hm => by rcases hn3 _ hm with hm | hm; exact hnm hm; rw [hsz] at hm; omega
        exact ⟨_, _, hr3, .inl ⟨rfl, ms', ⟨hI _ _ _ _ _ hi3 (Gr.putObj _ _ _) (by simpa using hnm'), hl4, hk4⟩, hg4, fun m hm => (hn3 m hm).imp id (fun h => by rw [hsz] at h; exact h)⟩⟩
      | ret =>
        obtain ⟨ms', hi3, hg3⟩ := hp
        obtain ⟨hr3, hl4, hk4, hg4⟩ := fin (some .ret) W3 hg3
        exact ⟨_, _, hr3, .inr ⟨rfl, ms', ⟨.ret, hIx _ _ _ _ _ _ hi3 (Gr.putObj _ _ _) (by have := hmsx _ _ _ _ hi3; intro t ht; simp at ht; subst ht; exact ⟨by omega, fun hm => by have := this _ hm; omega⟩), hl4, hk4, hmsx _ _ _ _ hi3⟩, hg4⟩⟩
      | exit id =>
        obtain ⟨ms', hi3, hg3⟩ := hp
        obtain ⟨hr3, hl4, hk4, hg4⟩ := fin (some (.exit id)) W3 hg3
        exact ⟨_, _, hr3, .inr ⟨rfl, ms', ⟨.exit id, hIx _ _ _ _ _ _ hi3 (Gr.putObj _ _ _) (by have := hmsx _ _ _ _ hi3; intro t ht; simp at ht; subst ht; exact ⟨by omega, fun hm => by have := this _ hm; omega⟩), hl4, hk4, hmsx _ _ _ _ hi3⟩, hg4⟩⟩
      | goto t =>
        obtain ⟨ms', hi3, hg3⟩ := hp
        obtain ⟨hr3, hl4, hk4, hg4⟩ := fin (some (.goto t)) W3 hg3
        exact ⟨_, _, hr3, .inr ⟨rfl, ms', ⟨.goto t, hIx _ _ _ _ _ _ hi3 (Gr.putObj _ _ _) (by have := hmsx _ _ _ _ hi3; intro t ht; simp at ht; subst ht; exact ⟨by omega, fun hm => by have := this _ hm; omega⟩), hl4, hk4, hmsx _ _ _ _ hi3⟩, hg4⟩⟩
      | panic ch => exact hp.elim
      | outgrown => exact hp.elim
    · rintro e W2 ⟨⟨v, rfl⟩, (⟨ms, hi, hl, hk⟩ | ⟨pre, ms, hpre, c, hi, hl, hk, hm⟩)⟩
      · have hmm := hms _ _ _ hi
        have hnm : w.heap.size + 1 ∉ ms := fun hm => by have := hmm _ hm; omega
        exact ⟨none, _, by have := run_endLoop (P := P) hl (by rw [hrec]; simp); rw [hrec] at this; exact this,
          hdone _ ms _ (hI _ _ _ _ _ hi (Gr.putObj _ _ _) (by simpa using hnm)) ((World.putObj_heap_other (by omega)).trans hk) (Nat.le_refl _) (fun hm => by have := hmm _ hm; omega)⟩
      · have hnm : w.heap.size + 1 ∉ ms := fun h => by have := hm _ h; omega
        exact ⟨some c, _, by have := run_endLoop (P := P) hl (by rw [hrec]; simp); rw [hrec] at this; exact this,
          hstop _ c pre ms _ hpre (hIx c _ _ _ _ _ hi (Gr.putObj _ _ _) (by simpa using hnm)) ((World.putObj_heap_other (by omega)).trans hk) (Nat.le_refl _) (fun h => by have := hm _ h; omega)⟩

end Go.Proofs.YtmonhpoogfdpoaaGreat
