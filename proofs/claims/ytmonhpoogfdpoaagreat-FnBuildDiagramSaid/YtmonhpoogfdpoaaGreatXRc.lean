/-
  Walk of slices.Backward over layers, and of the program's paths.
-/
import Derived.Test.YtmonhpoogfdpoaaGreatXRb
import Derived.Test.YtmonhpoogfdpoaaGreatXBz
import Derived.Test.YtmonhpoogfdpoaaGreatXQFil
set_option linter.unusedVariables false
set_option linter.unusedSimpArgs false
namespace Go.Proofs.YtmonhpoogfdpoaaGreat
open Go.RowKit
attribute [local go_sem] Oper.semAt_some

/-- The layers, from the last on, with their numbers. -/
def backN (d : List (List (List Int))) : Nat → List (Nat × List (List Int))
  | 0 => []
  | m + 1 => (m, d.getD m []) :: backN d m
def rdB (A : List Nat) (W : World) (v v2 : Value) (x : Nat × List (List Int)) : Prop := v = .int .i64 (x.1 : Int) ∧ RowsV A W v2 x.2

set_option maxRecDepth 100000 in
set_option maxHeartbeats 2000000 in
theorem backward_iter (S : List Nat) (w0 : World) (bd : Nat) (dv : Value) (d : List (List (List Int))) (hd1 : w0.heap[bd]? = some (.cells #[dv] 29 (0, 0))) (hdn : DgV S w0 dv d) (hbS : bd ∉ S) (hS : ∀ s ∈ S, s < w0.heap.size) (hn : d.length ≤ 1000) :
    IterN Tryz.prog 85 #[.pointer (some ⟨bd, 0, none⟩)] S w0 (backN d d.length) rdB := by
  intro l J Jx W hgr hl0 hlW hsj hsx hjm hrnd hj0
  have hbd0 : bd < w0.heap.size := (Array.getElem?_eq_some_iff.1 hd1).1
  have hsz := hgr.size
  have hdW := hgr.obj hd1 hbS
  have hdN : ∀ A : List Nat, (∀ a ∈ A, a = l ∨ a ∈ S ∨ W.heap.size ≤ a) → DgV A W dv d := fun A hA =>
    (((hdn.sub (S' := l :: S) (fun b hb h => by
      rcases List.mem_cons.1 h with rfl | h
      · omega
      · exact h)).gr (hgr.sub fun k _ h => by simp [h])).sub (S' := A) fun b hb h => by
        rcases hA b h with rfl | h | h
        · simp
        · simp [h]
        · omega)
  have HdN := hid hdN
  obtain ⟨dO, dc, rfl, ⟨hd3, hd4, _⟩, _⟩ := hdN [] (by simp)
  have fd := fld hdW
  have HdW := hid hdW
  have Hrnd := hid hrnd
  have Hjm := hid hjm
  have Hj0 := hid hj0
  clear hdW hrnd hjm hj0 hdN hd1 hdn
  refine callsIn_of_wp Tryz.func85 rfl trivial ?_ rfl
  simp only [Tryz.ntmps85, List.size_toArray, List.length_cons, List.length_nil, Nat.reduceAdd, Nat.reduceSub, Array.replicate_succ, Array.replicate_zero, List.push_toArray, List.append_toArray, List.nil_append, List.cons_append]
  gi_wp2_with fail
  gi_loopw [3] (fun u wr => ∃ (m : Nat) (pre : List (Nat × List (List Int))) (ms : List Nat), m ≤ d.length ∧ u = .int .i64 ((m : Int) - 1) ∧ backN d d.length = pre ++ backN d m ∧ J pre ms wr ∧
    (∀ A : List Nat, (∀ a ∈ A, a = l ∨ a ∈ S ∨ W.heap.size ≤ a) → DgV A wr (.slice dO d.length dc) d) ∧ wr.heap[bd]? = some (.cells #[.slice dO d.length dc] 29 (0, 0)) ∧ W.heap.size ≤ wr.heap.size) (fun u _ => (intOf u + 1).toNat)
  case atStart => exact ⟨d.length, [], [], Nat.le_refl _, rfl, rfl, Hj0.out, HdN.out, HdW.out, Nat.le_refl _⟩
  case round =>
    obtain ⟨m, pre, ms, hm, rfl, hpre, hj, hrd, hbx, hsz2⟩ := hrel
    have Hpre := hid hpre; have Hj := hid hj; have Hrd := hid hrd; have Hbx := hid hbx
    clear hpre hj hrd hbx
    cases m with
    | zero =>
      have e0 : (((0 : Nat) : Int) - 1) = -1 := rfl
      rw [e0]
      clear e0 fd
      gi_wp2_with fail
      refine bodyPost_end (results_none rfl _ _ _) rfl ?_
      have hp := Hpre.out
      rw [backN, List.append_nil] at hp
      exact ⟨⟨_, rfl⟩, .inl ⟨ms, by rw [hp]; exact Hj.out⟩⟩
    | succ m =>
      have e0 : (((m + 1 : Nat) : Int) - 1) = (m : Int) := by omega
      rw [e0]
      clear e0
      obtain ⟨L, hL⟩ := get_some (xs := d) (k := m) (by omega)
      have hmm := Hjm.out _ _ _ Hj.out
      have hall : ∀ a ∈ l :: S ++ ms, a = l ∨ a ∈ S ∨ W.heap.size ≤ a := fun a ha => by
        simp only [List.cons_append, List.mem_cons, List.mem_append] at ha
        rcases ha with h | h | h
        · exact .inl h
        · exact .inr (.inl h)
        · exact .inr (.inr (hmm a h).1)
      have hdg := Hrd.out (l :: S ++ ms) hall
      obtain ⟨b, o, lo, lc, rfl, hbn, hcell, ⟨h5, h6⟩, hLv⟩ := hdg.at3 hL
      have hgd : d.getD m [] = L := by simp [List.getD_eq_getElem?_getD, hL]
      have hbk : backN d d.length = pre ++ (m, L) :: backN d m := by rw [Hpre.out, backN, hgd]
      obtain ⟨fn, tmps, assign, body, hrun, hround⟩ := Hrnd.out pre (m, L) (backN d m) (.int .i64 (m : Int)) (.slice lo L.length lc) ms wr hbk Hj.out ⟨rfl, hLv⟩
      have Hround := hid hround; have Hbk := hid hbk; have Hall := hid hall; have Hmm := hid hmm
      have fdx := fld Hbx.out
      clear fd hround hbk hall hmm hdg hLv hL hgd
      gi_wp2_with fail
      refine ⟨rfl, Hround.out.mono ?_⟩
      rintro e W' (⟨rfl, ms', k1, k2, k3⟩ | ⟨rfl, ms', k1, k2⟩)
      · dsimp only
        have K1 := hid k1; have K2 := hid k2
        clear k1 k2 k3 fdx hcell hrun
        gi_wp2_with fail
        refine ⟨⟨m, pre ++ [(m, L)], ms', by omega, rfl, Hbk.out.trans (by simp), K1.out, fun A hA => ?_, K2.out.obj Hbx.out (fun hm => ?_), by have := K2.out.size; omega⟩, by simp [intOf]⟩
        · refine (Hrd.out ((l :: S ++ ms) ++ A) (fun a ha => ?_)).mv (L' := A) K2.out (fun t ht => .inl (List.mem_append.2 (.inl ht))) (fun b hb => .inl (List.mem_append.2 (.inr hb)))
          rcases List.mem_append.1 ha with ha | ha
          · exact Hall.out a ha
          · exact hA a ha
        · simp only [List.cons_append, List.mem_cons, List.mem_append] at hm
          rcases hm with h | h | h
          · omega
          · exact hbS h
          · have := (Hmm.out _ h).1; omega
      · dsimp only
        have K1 := hid k1
        clear k1 k2 fdx hcell hrun
        gi_wp2_with fail
        refine bodyPost_ret (results_none rfl _ _ _) rfl ?_
        refine ⟨⟨_, rfl⟩, .inr ⟨pre ++ [(m, L)], ms', ?_, K1.out⟩⟩
        rw [Hbk.out]
        exact ⟨backN d m, by simp⟩
end Go.Proofs.YtmonhpoogfdpoaaGreat
