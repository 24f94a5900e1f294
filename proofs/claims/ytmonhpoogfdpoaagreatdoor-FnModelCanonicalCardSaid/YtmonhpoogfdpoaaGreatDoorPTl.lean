/-
  The library's functions on texts, as this program's walks use them.
-/
import Derived.Test.YtmonhpoogfdpoaaGreatDoorPA
import Derived.Test.YtmonhpoogfdpoaaGreatDoorPTxTs
import Derived.Test.YtmonhpoogfdpoaaGreatDoorPSh
import Derived.WalkSmall
import Derived.Lib.LaidTab
set_option linter.unusedVariables false
set_option linter.unusedSimpArgs false
namespace Go.Proofs.YtmonhpoogfdpoaaGreatDoor
open Go.RowKit

theorem gPow : Tryz.prog.globalNamed "internal/strconv.uint64pow10" = some 5 := by kernel_rfl
theorem gSyn : Tryz.prog.globalNamed "strconv.ErrSyntax" = some 1 := by kernel_rfl
theorem gRng : Tryz.prog.globalNamed "strconv.ErrRange" = some 2 := by kernel_rfl
/-- What the library's variables hold. -/
structure TabT (w : World) : Prop where
  pow : Lib.TabIs Tryz.prog w "internal/strconv.uint64pow10" .u64 Lib.pow10Tab
  syn : ∃ t p, w.var? Tryz.prog "strconv.ErrSyntax" = some #[.iface t p]
  rng : ∃ t p, w.var? Tryz.prog "strconv.ErrRange" = some #[.iface t p]
theorem var_gr {w w' : World} {n : String} {g : Nat} {cs : Array Value} (hg : Gr [] w w') (hn : Tryz.prog.globalNamed n = some g) (h0 : 0 < cs.size) (h : w.var? Tryz.prog n = some cs) : w'.var? Tryz.prog n = some cs := by
  have h1 := World.var?_cell hn h 0
  have hlt := World.block_lt_of_cell? w _ (h1.trans (Array.getElem?_eq_getElem h0))
  exact Go.var?_below hg.below hn hlt h
theorem TabT.gr {w w' : World} (h : TabT w) (hg : Gr [] w w') : TabT w' := by
  obtain ⟨h1, ⟨t2, p2, h2⟩, ⟨t3, p3, h3⟩⟩ := h
  exact ⟨var_gr hg gPow (by simp [Lib.pow10Tab]) h1, ⟨t2, p2, var_gr hg gSyn (by simp) h2⟩, ⟨t3, p3, var_gr hg gRng (by simp) h3⟩⟩
theorem TabT.drew {w : World} (h : TabT w) : TabT w.drew := h.gr ((Gr.refl [] w).drew)
theorem Gr.sgrow {S : List Nat} {a w : World} (h : Gr S a w) (os : Array Obj) : Gr S a (Sort.grow w os) := by
  refine ⟨h.os, h.tape, h.output, by have := h.size; simp [Sort.grow]; omega, fun k hk hs => ?_⟩
  have h1 := h.block k hk hs
  have h2 : k < w.heap.size := Nat.lt_of_lt_of_le hk h.size
  show (w.heap ++ os)[k]? = _
  rw [Array.getElem?_append_left h2]
  exact h1

theorem Itoa_c (n : Int) (hn : I64 n) (w : World) (hT : TabT w) :
    Calls Tryz.prog 70 #[.int .i64 n] w fun e w' => e = .returned (.string ⟨(num n).toArray⟩) ∧ Gr [] w w' := by
  refine (Go.Proofs.Any.strconv_Itoa laysM171 n hn.1 hn.2 w hT.pow).mono ?_
  rintro e w' ⟨rfl, k, os, rfl⟩
  exact ⟨rfl, ((Gr.refl [] w).drewN k).sgrow os⟩

theorem Atoi_c (s : Bs) (hs : s.length ≤ 1000000000) (w : World) (hT : TabT w) :
    Calls Tryz.prog 54 #[.string ⟨s.toArray⟩] w fun e w' => (∃ er, e = .returned (.tuple #[.int .i64 (atoiV s), er]) ∧ (if (atoiO s).isSome then er = .nilIface else ∃ t p, er = .iface t (.pointer (some ⟨p, 0, none⟩)))) ∧ Gr [] w w' := by
  have hsz : (⟨s.toArray⟩ : ByteArray).size ≤ 281474976710656 := by rw [bs_size]; omega
  have hdt : (⟨s.toArray⟩ : ByteArray).data.toList = s := by simp
  cases h : Lib.atoiAll s
  · rename_i v
    have hV : atoiV s = v := by unfold atoiV; rw [h]
    have hO : atoiO s = some v := by unfold atoiO; rw [h]
    refine (Go.Proofs.Any.strconv_Atoi_ok laysC172 ⟨s.toArray⟩ (by omega) v (by rw [hdt]; exact h) w).mono ?_
    rintro e w' ⟨rfl, hw⟩
    refine ⟨⟨_, by rw [hV], by rw [hO]; rfl⟩, ?_⟩
    rcases hw with rfl | ⟨t, rfl⟩
    · exact Gr.refl _ _
    · exact ⟨rfl, rfl, rfl, by rw [Lib.bytesWorld_size]; omega, fun k hk _ => Lib.bytesWorld_at_old _ _ _ _ hk⟩
  · have hV : atoiV s = 0 := by unfold atoiV; rw [h]
    have hO : atoiO s = none := by unfold atoiO; rw [h]
    obtain ⟨t, p, hv⟩ := hT.syn
    refine (Go.Proofs.Any.strconv_Atoi_syntax laysC172 ⟨s.toArray⟩ hsz (by rw [hdt]; exact h) (.iface t p) w (World.var?_cell gSyn hv 0) (Or.inr ⟨t, p, rfl⟩)).mono ?_
    rintro e w' ⟨N, rfl, _, _, hb⟩
    exact ⟨⟨_, by rw [hV], by rw [hO]; exact ⟨_, _, rfl⟩⟩, Gr.of_below hb⟩
  · have hV : atoiV s = Lib.atoiSat s := by unfold atoiV; rw [h]
    have hO : atoiO s = none := by unfold atoiO; rw [h]
    obtain ⟨t, p, hv⟩ := hT.rng
    refine (Go.Proofs.Any.strconv_Atoi_range laysC172 ⟨s.toArray⟩ hsz (by rw [hdt]; exact h) (.iface t p) w (World.var?_cell gRng hv 0) (Or.inr ⟨t, p, rfl⟩)).mono ?_
    rintro e w' ⟨N, rfl, _, _, hb⟩
    exact ⟨⟨_, by rw [hV], by rw [hO]; exact ⟨_, _, rfl⟩⟩, Gr.of_below hb⟩

theorem Index1_c (s : Bs) (c : UInt8) (w : World) :
    Calls Tryz.prog 89 #[.string ⟨s.toArray⟩, .string ⟨#[c]⟩] w fun e w' => e = .returned (.int .i64 (Lib.indexByte s c)) ∧ w' = w := by
  refine (Go.Proofs.Any.strings_Index_one lays143 ⟨s.toArray⟩ c w).mono ?_
  rintro e w' ⟨rfl, rfl⟩
  exact ⟨by simp, rfl⟩
theorem HasPrefix_c (s p : Bs) (w : World) :
    Calls Tryz.prog 22 #[.string ⟨s.toArray⟩, .string ⟨p.toArray⟩] w fun e w' => e = .returned (.bool (Lib.hasPrefix s p)) ∧ w' = w := by
  refine (Go.Proofs.Any.strings_HasPrefix lays99 ⟨s.toArray⟩ ⟨p.toArray⟩ w).mono ?_
  rintro e w' ⟨rfl, rfl⟩
  exact ⟨by simp, rfl⟩
theorem Join_c (xs : List Bs) (v : Value) (w : World) (hv : Strs [] w v xs) (hx : xs.length ≤ 100000000) (hl : (Lib.join xs [44]).length ≤ 140737488355328) (h0 : xs ≠ []) :
    Calls Tryz.prog 71 #[v, .string ⟨#[44]⟩] w fun e w' => e = .returned (.string ⟨(Lib.join xs [44]).toArray⟩) ∧ Gr [] w w' := by
  obtain ⟨ao, cap, rfl, ⟨h1, h2, _⟩, hc⟩ := hv
  obtain ⟨x0, r, hxs⟩ : ∃ x r, xs = x :: r := by cases xs with | nil => exact absurd rfl h0 | cons x r => exact ⟨x, r, rfl⟩
  obtain ⟨b, o, rfl, _, hc0⟩ := hc 0 x0 (by rw [hxs]; rfl)
  have e1 : (xs.map fun x => (⟨x.toArray⟩ : ByteArray)).map (·.data.toList) = xs := by
    rw [List.map_map]
    conv => rhs; rw [← List.map_id xs]
    exact List.map_congr_left fun x _ => by simp
  have := Go.Proofs.Any.strings_Join lays156 Builder_Extra_156 b o cap (xs.map fun x => (⟨x.toArray⟩ : ByteArray)) ⟨#[44]⟩ w (fun j x hj => by
    rw [List.getElem?_map] at hj
    obtain ⟨y, hy, rfl⟩ := Option.map_eq_some_iff.1 hj
    obtain ⟨b', o', e, _, hcell⟩ := hc j y hy
    cases e
    exact hcell) (World.block_lt_of_cell? w _ hc0) (by simp; omega) (by simpa using h1) (by rw [e1]; exact hl)
  rw [e1, List.length_map] at this
  refine this.mono ?_
  rintro e w' ⟨rfl, hb⟩
  exact ⟨rfl, Gr.of_below hb⟩
theorem splitB_sp (s : Bs) (c : UInt8) : Lib.splitB ⟨#[c]⟩ 0 (s.count c) ⟨s.toArray⟩ = (sp c s).map fun x => (⟨x.toArray⟩ : ByteArray) := by
  have h := Lib.splitB_data ⟨#[c]⟩ 0 (s.count c) ⟨s.toArray⟩
  have e : Lib.splitK [c] 0 (s.count c) s = sp c s := splitK_sp c s
  have h2 : (Lib.splitB ⟨#[c]⟩ 0 (s.count c) ⟨s.toArray⟩).map (·.data.toList) = sp c s := by rw [h]; exact e
  have h3 := congrArg (List.map fun x : Bs => (⟨x.toArray⟩ : ByteArray)) h2
  rw [List.map_map] at h3
  rw [← h3]
  conv => lhs; rw [← List.map_id (Lib.splitB ⟨#[c]⟩ 0 (s.count c) ⟨s.toArray⟩)]
  refine List.map_congr_left fun x _ => ?_
  cases x; simp
theorem infoStr : (Tryz.prog.info? (lays221_ren.t 9)).map (fun i => (i.zero, i.size, i.bytes)) = some (some (.string ByteArray.empty), 1, 16) := by kernel_rfl
theorem one_size (c : UInt8) : (⟨#[c]⟩ : ByteArray).size = 1 := rfl
theorem Split_c (s : Bs) (c : UInt8) (w : World) (hs : s.length ≤ 1000000000) :
    Calls Tryz.prog 21 #[.string ⟨s.toArray⟩, .string ⟨#[c]⟩] w fun e w' => ∃ cap, e = .returned (.slice (some ⟨w.heap.size, 0, none⟩) (sp c s).length cap) ∧ Strs [] w' (.slice (some ⟨w.heap.size, 0, none⟩) (sp c s).length cap) (sp c s) ∧ Gr [] w w' := by
  have hcB : Lib.countB ⟨s.toArray⟩ ⟨#[c]⟩ = s.count c := by
    show Lib.count s [c] = _
    exact Lib.count_one c s
  have hcl : s.count c ≤ s.length := List.count_le_length
  have core := Go.Proofs.Any.strings_genSplit_core lays221 infoStr ⟨s.toArray⟩ ⟨#[c]⟩ 0 (-1) (s.count c + 1) w (by rw [bs_size]; omega) (by rw [one_size]; exact Nat.le_refl _) (Nat.zero_le _)
    (fun x cs hx => by
      refine (Index1_c x.data.toList c (w.alloc (.cells cs 9))).mono ?_
      rintro e w' ⟨rfl, rfl⟩
      refine ⟨?_, rfl⟩
      have : Lib.index x.data.toList [c] = Lib.indexByte x.data.toList c := Lib.index_one _ _
      rw [← this])
    (by
      refine (Go.Proofs.Any.strings_Count_one lays138 ⟨s.toArray⟩ c w).mono ?_
      rintro e w' ⟨rfl, rfl⟩
      refine ⟨?_, rfl⟩
      rw [hcB]
      rfl) (by decide) (by decide) (by rw [if_pos (by decide), hcB, bs_size]; omega)
  rw [Nat.add_sub_cancel, splitB_sp, List.length_map, sp_len] at core
  have ec : Lib.cellsOf ((sp c s).map fun x => (⟨x.toArray⟩ : ByteArray)) (s.count c + 1) = (((sp c s).map fun x => (⟨x.toArray⟩ : ByteArray)).map Value.string).toArray := by
    have := Lib.cellsOf_full ((sp c s).map fun x => (⟨x.toArray⟩ : ByteArray))
    rw [List.length_map, sp_len] at this
    exact this
  rw [ec] at core
  have hsp := sp_len c s
  have Hsp := hid hsp
  have Core : Hid (Calls Tryz.prog 51 #[.string ⟨s.toArray⟩, .string ⟨#[c]⟩, .int .i64 0, .int .i64 (-1)] w fun e w' => e = .returned (.slice (some ⟨w.heap.size, 0, none⟩) (s.count c + 1) (s.count c + 1)) ∧ w' = w.alloc (.cells (((sp c s).map fun x => (⟨x.toArray⟩ : ByteArray)).map Value.string).toArray 9)) := hid core
  clear core ec hcB hsp
  go_enter Tryz.func21, Tryz.ntmps21
  go_wp2_with (go_at_call 51; (with_reducible refine Core.out.mono ?_); rintro e w' ⟨rfl, hw⟩)
  go_ret
  refine ⟨s.count c + 1, by rw [Hsp.out]; rfl, ⟨_, _, rfl, ⟨by rw [Hsp.out]; exact Nat.le_refl _, by omega, fun h => by cases h⟩, fun i x hi => ⟨_, _, rfl, by simp, ?_⟩⟩, (Gr.refl _ _).alloc _⟩
  have := fld (heap_alloc_new w (.cells (List.map (Value.string ∘ fun x => (⟨List.toArray x⟩ : ByteArray)) (sp c s)).toArray 9)) i
  rw [Nat.zero_add, this]
  simp [hi]

/-- A strings.Builder of the call's own, which holds the text. -/
def Bld (b : Nat) (l : Bs) (w : World) : Prop := Lib.IsBuilder 59 5 b b (Lib.byteCells l) w
theorem Bld.new (w : World) : Bld w.heap.size [] (w.alloc (.cells #[.pointer none, .slice none 0 0] 59)) := Lib.fresh_isBuilder _ _ w
theorem Bld.lt {b : Nat} {l : Bs} {w : World} (h : Bld b l w) : b < w.heap.size := by
  rcases h with ⟨_, v, h, _⟩ | ⟨_, v, h, _⟩
  · exact lt_of_block h
  · exact lt_of_block h
theorem Bld.gr {b : Nat} {l : Bs} {w w' : World} (h : Bld b l w) (hg : Gr [] w w') : Bld b l w' := by
  rcases h with ⟨h1, v, h2, h3, h4⟩ | ⟨h1, v, h2, h3, h4⟩
  · exact .inl ⟨h1, v, hg.obj h2 (by simp), hg.ownsRow h3 (by simp), h4⟩
  · exact .inr ⟨h1, v, hg.obj h2 (by simp), hg.ownsRow h3 (by simp), h4⟩
theorem lays166 : Go.Proofs.Lays.n166 Tryz.prog lays156_ren := { lays156 with }
theorem lays169s : Go.Proofs.Lays.n169 Tryz.prog lays156_ren := { lays156 with }
theorem WriteString_c (b : Nat) (l s : Bs) (w : World) (h : Bld b l w) (hl : l.length + s.length ≤ 1000000000) :
    Calls Tryz.prog 33 #[.pointer (some ⟨b, 0, none⟩), .string ⟨s.toArray⟩] w fun e w' => (∃ n : Nat, e = .returned (.tuple #[.int .i64 n, .nilIface])) ∧ Bld b (l ++ s) w' ∧ Below b w w' := by
  refine (Go.Proofs.Any.Builder_WriteString lays166 Builder_Extra_156 b b (Lib.byteCells l) ⟨s.toArray⟩ w h (by rw [Lib.byteCells_length, bs_size]; omega) (Nat.le_of_lt h.lt)).mono ?_
  rintro e w' ⟨rfl, hb, hlow⟩
  refine ⟨⟨_, rfl⟩, .inr ?_, hlow⟩
  rw [Lib.byteCells_append]
  exact hb
theorem String_c (b : Nat) (l : Bs) (w : World) (h : Bld b l w) :
    Calls Tryz.prog 36 #[.pointer (some ⟨b, 0, none⟩)] w fun e w' => e = .returned (.string ⟨l.toArray⟩) ∧ Below b w w' :=
  Go.Proofs.Any.Builder_String_any lays169s Builder_Extra_156 b b l w h (Nat.le_of_lt h.lt)
theorem idxFrom_kind (w : Bs) (h : w ≠ []) : Lib.idxOfS (kws.map fun x => (⟨x.toArray⟩ : ByteArray)) ⟨w.toArray⟩ = if kindO w = 0 then -1 else kindO w := by
  unfold Lib.idxOfS kws
  simp only [List.map_cons, List.map_nil, Lib.idxFromS, bs_inj]
  unfold kindO kws
  simp only [List.getD_cons_succ, List.getD_cons_zero]
  rw [if_neg (fun e => h e.symm)]
  simp only [eq_comm (b := w)]
  repeat' split
  all_goals simp_all
end Go.Proofs.YtmonhpoogfdpoaaGreatDoor
