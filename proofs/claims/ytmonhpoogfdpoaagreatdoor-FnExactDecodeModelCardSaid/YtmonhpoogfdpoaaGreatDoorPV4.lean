/-
  Walk of the library's iterator over the pieces of a text.
-/
import Derived.Test.YtmonhpoogfdpoaaGreatDoorPTl
import Derived.Test.YtmonhpoogfdpoaaGreatDoorPRi
import Derived.Test.YtmonhpoogfdpoaaGreatDoorPQFil
import Derived.Shelf.Abstract
import Derived.Shelf.RegionOpen
import Derived.OwnWalkIn
import Derived.TacticsInMore
import Derived.LoopNIn
import Derived.LoopIn
import Derived.Laws.EntriesVeiled
set_option linter.unusedVariables false
set_option linter.unusedSimpArgs false
namespace Go.Proofs.YtmonhpoogfdpoaaGreatDoor
open Go.RowKit
attribute [local go_sem] Oper.semAt_some

theorem SplitSeq_c (s : Bs) (w : World) :
    Calls Tryz.prog 90 #[.string ⟨s.toArray⟩, .string ⟨#[44]⟩] w fun e w' => e = .returned (.func (.func 133) #[] #[.pointer (some ⟨w.heap.size + 1, 0, none⟩), .pointer (some ⟨w.heap.size, 0, none⟩), .pointer (some ⟨w.heap.size + 2, 0, none⟩)]) ∧
      w' = ((w.alloc (.cells #[.string ⟨s.toArray⟩] 9)).alloc (.cells #[.string ⟨#[44]⟩] 9)).alloc (.cells #[.int .i64 0] 3) := by
  have hin : ∀ W : World, Calls Tryz.prog 116 #[.string ⟨s.toArray⟩, .string ⟨#[44]⟩, .int .i64 0] W fun e w' => e = .returned (.func (.func 133) #[] #[.pointer (some ⟨W.heap.size + 1, 0, none⟩), .pointer (some ⟨W.heap.size, 0, none⟩), .pointer (some ⟨W.heap.size + 2, 0, none⟩)]) ∧
      w' = ((W.alloc (.cells #[.string ⟨s.toArray⟩] 9)).alloc (.cells #[.string ⟨#[44]⟩] 9)).alloc (.cells #[.int .i64 0] 3) := by
    intro W
    go_enter Tryz.func116, Tryz.ntmps116
    go_wp2_with fail
    go_ret
    exact ⟨rfl, rfl⟩
  have Hin := hid hin; clear hin
  go_enter Tryz.func90, Tryz.ntmps90
  go_wp2_with (go_at_call 116; (with_reducible refine (Hin.out _).mono ?_); rintro e w' ⟨rfl, rfl⟩)
  go_ret
  exact ⟨rfl, rfl⟩

/-- How much of the text is left. -/
def leftS (b : Nat) (w : World) : Nat := match w.cell? ⟨b, 0, none⟩ with | some (.string s) => s.size | _ => 0
theorem leftS_of {b : Nat} {w : World} {l : Bs} (h : w.heap[b]? = some (.cells #[.string ⟨l.toArray⟩] 9 (0, 0))) : leftS b w = l.length := by
  unfold leftS
  rw [fld h 0]
  exact bs_size l

set_option maxRecDepth 100000 in
set_option maxHeartbeats 1000000 in
theorem splitSeq_iter (S : List Nat) (w0 : World) (bs bp bz : Nat) (s : Bs) (h1 : w0.heap[bs]? = some (.cells #[.string ⟨s.toArray⟩] 9 (0, 0))) (h2 : w0.heap[bp]? = some (.cells #[.string ⟨#[44]⟩] 9 (0, 0)))
    (h3 : w0.heap[bz]? = some (.cells #[.int .i64 0] 3 (0, 0))) (hbS : bs ∉ S ∧ bp ∉ S ∧ bz ∉ S) (hne : bs ≠ bp ∧ bs ≠ bz) (hs : s.length ≤ 1000000000) :
    IterE [bs] Tryz.prog 133 #[.pointer (some ⟨bp, 0, none⟩), .pointer (some ⟨bs, 0, none⟩), .pointer (some ⟨bz, 0, none⟩)] S w0 (sp 44 s) (fun A W v x => v = .string ⟨x.toArray⟩) := by
  intro l J Jx W hgr hl0 hlW hsj hsx hjm hrnd hj0
  have hs0 : bs < w0.heap.size := lt_of_block h1
  have hp0 : bp < w0.heap.size := lt_of_block h2
  have hz0 : bz < w0.heap.size := lt_of_block h3
  have hsW := hgr.size
  have k1 := hgr.obj h1 hbS.1; have k2 := hgr.obj h2 hbS.2.1; have k3 := hgr.obj h3 hbS.2.2
  have Hrnd := hid hrnd; have Hjm := hid hjm; have Hj0 := hid hj0
  have f2 := fld k2
  have K1 := hid k1; have K2 := hid k2; have K3 := hid k3
  clear hrnd hjm hj0 h1 h2 h3
  refine callsIn_of_wp Tryz.func133 rfl trivial ?_ rfl
  simp only [Tryz.ntmps133, List.size_toArray, List.length_cons, List.length_nil, Nat.reduceAdd, Nat.reduceSub, Array.replicate_succ, Array.replicate_zero, List.push_toArray, List.append_toArray, List.nil_append, List.cons_append]
  gi_wp2_with fail
  clear f2
  gi_loopw [7, 8] (fun u v wr => ∃ (pre : List Bs) (rest : Bs) (ms : List Nat), sp 44 s = pre ++ sp 44 rest ∧ rest.length ≤ s.length ∧ J pre ms wr ∧ wr.heap[bs]? = some (.cells #[.string ⟨rest.toArray⟩] 9 (0, 0)) ∧ wr.heap[bp]? = some (.cells #[.string ⟨#[44]⟩] 9 (0, 0)) ∧ wr.heap[bz]? = some (.cells #[.int .i64 0] 3 (0, 0))) (fun _ _ wr => leftS bs wr)
  case atStart => exact ⟨[], s, [], rfl, Nat.le_refl _, Hj0.out, K1.out, K2.out, K3.out⟩
  case round =>
    obtain ⟨pre, rest, ms, hsp, hrl, hj, hb1, hb2, hb3⟩ := hrel
    have fb1 := fld hb1; have fb2 := fld hb2; have fb3 := fld hb3
    have Hb1 := hid hb1; have Hb2 := hid hb2; have Hb3 := hid hb3; have Hsp := hid hsp; have Hj := hid hj
    clear hb1 hb2 hb3 hsp hj
    have hsz : rest.length ≤ 1000000000 := by omega
    have hyl : ∀ x xs', sp 44 rest = x :: xs' → ∃ fn tmps assign body, (Instr.yield l #[.string ⟨x.toArray⟩]).run Tryz.prog wr = .ok (.round l fn tmps assign body) wr ∧
      RoundIn Fence.wide 0 Tryz.prog l fn tmps assign body wr fun e W' =>
        (e = .returned (.bool true) ∧ ∃ ms', J (pre ++ [x]) ms' W' ∧ Gr (l :: S ++ ms) wr W' ∧ ∀ m ∈ ms', m ∈ ms ∨ wr.heap.size ≤ m) ∨
        (e = .returned (.bool false) ∧ ∃ ms', Jx (pre ++ [x]) ms' W' ∧ Gr (l :: S ++ ms) wr W') := fun x xs' hx =>
      Hrnd.out pre x xs' _ ms wr (by rw [Hsp.out, hx]) Hj.out rfl
    have hmm := Hjm.out _ _ _ Hj.out
    have hnot : ∀ b, b < w0.heap.size → b ∉ S → b ∉ l :: S ++ ms := by
      intro b hb hbs h
      simp only [List.cons_append, List.mem_cons, List.mem_append] at h
      rcases h with h | h | h
      · omega
      · exact hbs h
      · have := (hmm _ h).1; omega
    have Hmm := hid hmm; have Hnot := hid hnot; clear hmm hnot
    rcases hi : Lib.indexByte rest 44 with i | i
    · obtain ⟨q1, q2, q3⟩ := indexByte_some 44 rest i (by rw [hi]; rfl)
      have hx : sp 44 rest = rest.take i :: sp 44 (rest.drop (i + 1)) := by
        conv => lhs; rw [q3]
        exact sp_hit 44 _ _ q2
      obtain ⟨fn, tmps, assign, body, hr, hR⟩ := hyl _ _ hx
      have HR := hid hR; have Hq3 := hid q3; have Hx := hid hx; clear hR hyl q3 hx
      have hi' : Lib.indexByte rest 44 = (i : Int) := by rw [hi]; rfl
      have n1 : ¬ ((i : Int) < 0) := by omega
      have he : Value.string ((⟨rest.toArray⟩ : ByteArray).extract 0 i) = .string ⟨(rest.take i).toArray⟩ := by rw [str_extract]; simp
      have hw1 : IntKind.i64.wrap ((i : Int) + 1) = (i : Int) + 1 := by rw [IntKind.wrap_i64]; omega
      have n2 : ¬ ((i : Int) + 1 < 0) := by omega
      have n3 : ((i : Int) + 1).toNat = i + 1 := by omega
      have n4 : i + 1 ≤ rest.length := by omega
      have he2 : Value.string ((⟨rest.toArray⟩ : ByteArray).extract (i + 1) rest.length) = .string ⟨(rest.drop (i + 1)).toArray⟩ := str_rest _ _
      gi_wp2_with (refine ⟨trivial, rfl, (callsIn_wide.2 (Index1_c rest 44 wr)).mono ?_⟩; rintro e w' ⟨rfl, rfl⟩; (try dsimp only); rw [hi'])
      refine ⟨rfl, HR.out.mono ?_⟩
      clear fb1 fb2 fb3
      rintro e W' (⟨rfl, ms', j1, j2, j3⟩ | ⟨rfl, ms', j1, j2⟩)
      · dsimp only
        have c1 := j2.obj Hb1.out (Hnot.out _ hs0 hbS.1)
        have c2 := j2.obj Hb2.out (Hnot.out _ hp0 hbS.2.1)
        have c3 := j2.obj Hb3.out (Hnot.out _ hz0 hbS.2.2)
        have fc1 := fld c1; have fc1F := fldF c1; have fc2 := fld c2; have fc3 := fld c3
        have C1 := hid c1; have C2 := hid c2; have C3 := hid c3; have J1 := hid j1; have J2 := hid j2; have J3 := hid j3
        clear c1 c2 c3 j1 j2 j3
        gi_wp2_with fail
        have gst : Gr [bs] W' (W'.setCell ⟨bs, 0, none⟩ (.string ⟨(rest.drop (i + 1)).toArray⟩)) := (Gr.refl [bs] W').setCell _ _ (.inl (by simp))
        have jst := hsj _ _ _ _ [bs] J1.out gst (by
          intro t ht
          have ht : t = bs := by simpa using ht
          refine ⟨.inr (by simp [ht]), fun h => ?_⟩
          have hbw := lt_of_block Hb1.out
          rcases J3.out _ h with h | h
          · have := (Hmm.out _ h).1; omega
          · omega)
        have d1 := box_set (.string ⟨(rest.drop (i + 1)).toArray⟩) C1.out
        refine ⟨⟨_, rest.drop (i + 1), ms', by rw [Hsp.out, Hx.out]; simp, by simp; omega, jst, d1, gst.obj C2.out (by simp; exact fun e => hne.1 e.symm), gst.obj C3.out (by simp; exact fun e => hne.2 e.symm)⟩, ?_⟩
        rw [leftS_of d1, leftS_of Hb1.out]
        simp; omega
      · dsimp only
        have Hj1 := hid j1; clear j1 j2
        gi_wp2_with fail
        (first | go_end0 | (refine bodyPost_ret (results_none rfl _ _ _) rfl ?_))
        exact ⟨⟨_, rfl⟩, .inr ⟨_, ms', ⟨sp 44 (rest.drop (i + 1)), by rw [Hsp.out, Hx.out]; simp⟩, Hj1.out⟩⟩
    · have hm : Lib.indexByte rest 44 = -1 := by
        have := Lib.indexByte_ge rest 44
        omega
      have hx : sp 44 rest = [rest] := sp_none 44 rest (indexByte_none 44 rest hm)
      obtain ⟨fn, tmps, assign, body, hr, hR⟩ := hyl _ _ hx
      have HR := hid hR; have Hx := hid hx; clear hR hyl hx
      gi_wp2_with (refine ⟨trivial, rfl, (callsIn_wide.2 (Index1_c rest 44 wr)).mono ?_⟩; rintro e w' ⟨rfl, rfl⟩; (try dsimp only); rw [hm])
      refine ⟨rfl, HR.out.mono ?_⟩
      rintro e W' (⟨rfl, ms', j1, j2, j3⟩ | ⟨rfl, ms', j1, j2⟩)
      · dsimp only
        have Hj1 := hid j1; clear j1 j2 j3
        gi_wp2_with fail
        (first | go_end0 | (refine bodyPost_ret (results_none rfl _ _ _) rfl ?_))
        exact ⟨⟨_, rfl⟩, .inl ⟨ms', by rw [Hsp.out, Hx.out]; exact Hj1.out⟩⟩
      · dsimp only
        have Hj1 := hid j1; clear j1 j2
        gi_wp2_with fail
        (first | go_end0 | (refine bodyPost_ret (results_none rfl _ _ _) rfl ?_))
        exact ⟨⟨_, rfl⟩, .inr ⟨_, ms', ⟨[], by rw [Hsp.out, Hx.out]; simp⟩, Hj1.out⟩⟩
end Go.Proofs.YtmonhpoogfdpoaaGreatDoor
