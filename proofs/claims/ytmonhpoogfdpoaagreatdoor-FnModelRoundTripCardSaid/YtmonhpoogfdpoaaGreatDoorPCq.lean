/-
  Walk of the program's deep copy of a model.
-/
import Derived.Test.YtmonhpoogfdpoaaGreatDoorPCpCt
import Derived.Test.YtmonhpoogfdpoaaGreatDoorPG13
import Derived.Deep.RegionHeldLaw
import Derived.Deep.CutRange
set_option linter.unusedVariables false
set_option linter.unusedSimpArgs false
namespace Go.Proofs.YtmonhpoogfdpoaaGreatDoor
open Go.RowKit

theorem run_make0 {P : Program} (t e : TypeId) (z : Value) (size bytes : Nat) (ht : P.underlying t = some (.slice e)) (hinfo : (P.info? e).map (fun i => (i.zero, i.size, i.bytes)) = some (some z, size, bytes)) (c : Nat) (hb : bytes * c ≤ 281474976710656) (h63 : c ≤ 9223372036854775807) (w : World) :
    (Instr.makeSlice t (.int .i64 0) (.int .i64 (c : Int))).run P w = .ok (.slice (some ⟨w.heap.size, 0, none⟩) 0 c) (w.alloc (.cells (madeCells z.cells (c * size)) e)) := by
  obtain ⟨i, hi, hz0, hz1, hz2⟩ := info_parts hinfo
  have hb' : (i.bytes : Int) * (c : Int) ≤ 281474976710656 := by
    have h : ((i.bytes * c : Nat) : Int) ≤ 281474976710656 := by rw [hz2]; omega
    rwa [Int.natCast_mul] at h
  have hr := run_make (P := P) w t e i z ht hi hz0 .i64 .i64 0 c (Int.le_refl _) (by omega) hb' (by omega)
  simp only [Int.toNat_zero, Int.toNat_natCast, hz1] at hr
  exact hr
/-- What the opening of the copy leaves: the new model's box, its list of constraints, still empty, its domains. -/
def CpCut (m : Mod) (w0 wx : World) (p : Value) : Prop :=
  ∃ (bk gc : Nat) (ufo : Option Addr) (ufc : Nat), p = .pointer (some ⟨bk, 0, none⟩) ∧ w0.heap.size ≤ bk ∧ wx.heap[bk]? = some (.cells #[.slice ufo m.doms.length ufc, .slice (some ⟨gc, 0, none⟩) 0 m.cons.length] 27 (0, 0)) ∧ Gr [] w0 wx ∧
    NumsM (fun b => New w0.heap.size wx b ∧ b ≠ bk ∧ b ≠ gc) wx (.slice ufo m.doms.length ufc) m.doms ∧ wx.heap[gc]? = some (.cells (madeCells #[.int .i64 0, .slice none 0 0, .slice none 0 0, .int .i64 0, .slice none 0 0] (m.cons.length * 5)) 49 (0, 0)) ∧ w0.heap.size ≤ gc ∧ gc ≠ bk
theorem cp_meet {m : Mod} {w0 wc wa WE : World} {bk gc : Nat} {ufo : Option Addr} {ufc : Nat} (hbk : w0.heap.size ≤ bk) (hbb : WE.heap[bk]? = some (.cells #[.slice ufo m.doms.length ufc, .slice (some ⟨gc, 0, none⟩) 0 m.cons.length] 27 (0, 0)))
    (hg0 : Gr [] w0 wa) (hgE : Gr [bk] wa WE) (hn : NumsM (New wc.heap.size wa) wa (.slice ufo m.doms.length ufc) m.doms) (hB : w0.heap.size ≤ wc.heap.size) (hbk2 : bk < wc.heap.size ∨ wa.heap.size ≤ bk) (hgc2 : gc < wc.heap.size ∨ wa.heap.size ≤ gc)
    (hgc : WE.heap[gc]? = some (.cells (madeCells #[.int .i64 0, .slice none 0 0, .slice none 0 0, .int .i64 0, .slice none 0 0] (m.cons.length * 5)) 49 (0, 0))) (hgcB : w0.heap.size ≤ gc) (hne : gc ≠ bk) : CpCut m w0 WE (.pointer (some ⟨bk, 0, none⟩)) :=
  ⟨bk, gc, ufo, ufc, rfl, hbk, hbb, hg0.step hgE (fun i hi => .inr (by simp at hi; omega)),
    hn.gr' hgE (fun b hb hm => by have h1 := hm.1; have h2 := hm.2; simp at hb; omega) (fun b hlt hm => ⟨⟨Nat.le_trans hB hm.1, Nat.lt_of_lt_of_le hm.2 hgE.size⟩, by have h1 := hm.1; have h2 := hm.2; omega, by have h1 := hm.1; have h2 := hm.2; omega⟩), hgc, hgcB, hne⟩



end Go.Proofs.YtmonhpoogfdpoaaGreatDoor
