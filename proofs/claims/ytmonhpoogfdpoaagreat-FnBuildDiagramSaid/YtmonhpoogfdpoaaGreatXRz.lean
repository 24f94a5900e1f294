/-
  A region inside a round of a range over a function, walked as outside (whatever its order). No program is mentioned.
-/
import Derived.Test.YtmonhpoogfdpoaaGreatXRb
import Derived.Deep.RegionHeld
set_option linter.unusedVariables false
set_option linter.unusedSimpArgs false
namespace Go.Proofs.YtmonhpoogfdpoaaGreat
open Go.RowKit

/-- How the region is to end: it runs through. -/
def endsQ (Q : Exit → Act → World → Prop) : Exit → Act → World → Prop := fun e a w => e = .normal ∧ Q .normal a w
theorem endsQ_lets (Q : Exit → Act → World → Prop) : ¬ LetsOut (endsQ Q) := by
  rintro ⟨a, w, h, _⟩
  cases h
theorem opIn_round {l : Nat} {P : Program} {o : Oper} {a : Act} {w : World} {K K' : Act → World → Prop} {Q : Exit → Act → World → Prop} (hd : ∀ c, o.op ≠ .defer c) (hK : ∀ a w, K a w → K' a w) (h : o.wp P a w K (endsQ Q)) :
    o.wpIn (Fence.wide.inRound l) 0 P a w K' Q := by
  unfold Oper.wp at h
  refine ⟨fun _ _ => trivial, ?_⟩
  rw [Fence.inRound_round, Oper.semAt_some l _ _ hd]
  generalize (execOp a.eval o).run P w = r at *
  cases r with
  | ok x w' =>
    cases x with
    | value v => exact hK _ _ h
    | skip => exact hK _ _ h
    | defer d => exact hK _ _ h
    | enter f args =>
      refine ⟨fun h => by simp [Fence.wide] at h, ?_⟩
      have h2 : CallsIn Fence.wide (0 - 1) P f args w' _ := callsIn_wide.2 h
      refine ⟨trivial, fun cs hr => ?_⟩
      obtain ⟨e, w'', fr, r, s, x⟩ := h2.2 cs hr
      refine ⟨e, w'', fr, ?_, s, x⟩
      cases e with
      | returned v => exact hK _ _ r
      | panicked c => cases r.1
      | outgrown => exact absurd r (endsQ_lets Q)
    | row row args =>
      refine ⟨fun h => by simp [Fence.wide] at h, fun c cs _ => ?_⟩
      obtain ⟨v, w'', r, s⟩ := h c cs
      exact ⟨v, w'', hK _ _ r, stepsIn_wide.2 s⟩
    | _ => exact h.elim
  | halt x w' =>
    cases x with
    | panic v => cases h.1
    | _ => exact h.elim
theorem wpOpsIn_round {l : Nat} {P : Program} {ops : Array Oper} {Q : Exit → Act → World → Prop} (hd : ∀ (i : Nat) (o : Oper), ops[i]? = some o → ∀ c, o.op ≠ .defer c) :
    ∀ (is : List Nat) (a : Act) (w : World), wpOps P ops (endsQ Q) is a w → wpOpsIn (Fence.wide.inRound l) 0 P ops Q is a w
  | [], a, w, h => h.2
  | i :: is, a, w, h => by
    simp only [wpOps] at h
    simp only [wpOpsIn]
    cases ho : ops[i]? with
    | none => simp only [ho] at h; exact wpOpsIn_round hd is a w h
    | some o =>
      simp only [ho] at h
      simp only []
      split at h
      · rename_i hw
        rw [if_pos hw]
        rcases h with h | h
        · exact opIn_round (hd i o ho) (fun a w => wpOpsIn_round hd is a w) h
        · exact absurd h.2 (endsQ_lets Q)
      · rename_i hw
        rw [if_neg hw]
        exact ⟨fun _ _ => trivial, wpOpsIn_round hd is _ _ h⟩
def noDefer (ops : Array Oper) : Bool := ops.toList.all fun o => match o.op with | .defer _ => false | _ => true
theorem noDefer_spec {ops : Array Oper} (h : noDefer ops = true) (i : Nat) (o : Oper) (ho : ops[i]? = some o) (c : Call) : o.op ≠ .defer c := fun e => by
  unfold noDefer at h
  rw [List.all_eq_true] at h
  have := h o (by obtain ⟨hl, e⟩ := Array.getElem?_eq_some_iff.1 ho; rw [← e]; simp)
  rw [e] at this
  cases this
/-- **A region inside a round, in whatever order.** -/
theorem wpIn_region_round {l : Nat} {P : Program} {id : Nat} {ops : Array Oper} {Q : Exit → Act → World → Prop} {S : World → Prop} {a : Act} {w : World} (hm : P.follows .mixedOrders = true) (hd : noDefer ops = true) (hS : S w.drew)
    (h : S w.drew → wpAnyH P .any ops (endsQ Q) S ops.size (Array.replicate ops.size false) a w.drew) : (Code.region id ops true).wpIn (Fence.wide.inRound l) 0 P Q a w :=
  wpIn_region_draw fun t => wpOpsIn_round (noDefer_spec hd) _ _ _ (by
    simp only [Region.schedule, hm, Bool.true_or, if_true]
    exact wpAny_sound ops.size t _ a _ (wpAny_of_held _ _ _ _ (h hS)))
end Go.Proofs.YtmonhpoogfdpoaaGreat
