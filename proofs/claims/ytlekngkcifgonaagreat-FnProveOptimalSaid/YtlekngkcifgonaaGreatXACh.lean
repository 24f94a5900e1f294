/-
  Walks: when a clause holds; lists of literals compared; when all literals are true.
-/
import Derived.Test.YtlekngkcifgonaaGreatXAVlMg
import Derived.Test.YtlekngkcifgonaaGreatXTrPrPv
set_option linter.unusedVariables false
set_option linter.unusedSimpArgs false
namespace Go.Proofs.YtlekngkcifgonaaGreat
open Go.RowKit


theorem neqLit (a b : Lit) (w : World) : (binOp .neq 45 (.agg #[.int .i64 a.var, .int .i64 a.val, .bool a.neg]) (.agg #[.int .i64 b.var, .int .i64 b.val, .bool b.neg])).run Tryz.prog w = .ok (.bool (!decide (a = b))) w := by
  have u3 := Tryz.underlying3
  have u4 := Tryz.underlying4
  have a3 := Tryz.isAgg3
  have z3 := Tryz.sizeOf3
  have a4 := Tryz.isAgg4
  have z4 := Tryz.sizeOf4
  have hS : Tryz.prog.underlying 45 = some (.struct (Tryz.prog.fieldsOf 45)) := by kernel_rfl
  have hp : Tryz.prog.stoodInHeld 45 = false := by kernel_rfl
  rw [run_neq_struct, show (10000 : Nat) = 9999 + 1 from rfl, run_equalIn_agg w 9999 45 _ _ hS hp]
  simp only [Program.fieldsOf, Tryz.underlying45]
  go_simp
  obtain ⟨a0, a1, a2⟩ := a
  obtain ⟨b0, b1, b2⟩ := b
  by_cases h1 : a0 = b0 <;> by_cases h2 : a1 = b1 <;> by_cases h3 : a2 = b2 <;> simp [h1, h2, h3]
set_option maxRecDepth 100000 in
theorem equalClauses_t (cs : Cls) (vx vy : Value) (w : World) (hx : LitsV [] w vx cs) (hy : LitsV [] w vy cs) :
    Calls Tryz.prog 80 #[vx, vy] w fun e w' => e = .returned (.bool true) ∧ Gr [] w w' := by
  have Hx := hid hx; have Hy := hid hy
  obtain ⟨xo, xc, rfl, ⟨hx1, hx2, _⟩, _⟩ := hx
  obtain ⟨yo, yc, rfl, ⟨hy1, hy2, _⟩, _⟩ := hy
  go_enter Tryz.func80, Tryz.ntmps80
  go_wp2_with fail
  go_loopw [5] (fun i wr => ∃ n : Nat, n ≤ cs.length ∧ i = .int .i64 n ∧ Gr [] w wr) (fun i _ => cs.length - (intOf i).toNat)
  case atStart => exact ⟨0, Nat.zero_le _, rfl, Gr.refl _ _⟩
  case round =>
    obtain ⟨n, hn, rfl, hg⟩ := hrel
    by_cases hlt : n < cs.length
    · obtain ⟨x, hx⟩ := get_some hlt
      obtain ⟨b, o, rfl, _, c0, c1, c2⟩ := (Hx.out.gr hg).at hx
      obtain ⟨b', o', rfl, _, d0, d1, d2⟩ := (Hy.out.gr hg).at hx
      have e0 : ∀ k : GrW [] wr, k.val.cell? ⟨b, o + n * 3, none⟩ = some (.int .i64 x.var) := fun k => k.gr.cell c0 (by simp)
      have e1 : ∀ k : GrW [] wr, k.val.cell? ⟨b, o + n * 3 + 1, none⟩ = some (.int .i64 x.val) := fun k => k.gr.cell c1 (by simp)
      have e2 : ∀ k : GrW [] wr, k.val.cell? ⟨b, o + n * 3 + 2, none⟩ = some (.bool x.neg) := fun k => k.gr.cell c2 (by simp)
      have e0' : ∀ k : GrW [] wr, k.val.cell? ⟨b', o' + n * 3, none⟩ = some (.int .i64 x.var) := fun k => k.gr.cell d0 (by simp)
      have e1' : ∀ k : GrW [] wr, k.val.cell? ⟨b', o' + n * 3 + 1, none⟩ = some (.int .i64 x.val) := fun k => k.gr.cell d1 (by simp)
      have e2' : ∀ k : GrW [] wr, k.val.cell? ⟨b', o' + n * 3 + 2, none⟩ = some (.bool x.neg) := fun k => k.gr.cell d2 (by simp)
      have hq := neqLit x x
      rw [decide_eq_true rfl] at hq
      have Hg := hid hg
      clear hx hg c0 c1 c2 d0 d1 d2
      go_wp2_with fail
      refine wp_region_gr [] _ (by kernel_rfl) (by kernel_rfl) (Gr.refl _ _) ?_
      repeat (go_big_quiet_step (fail))
      refine wpQuiet_nil ?_
      rintro w7 ⟨n7, hw7⟩
      have hg7 : Gr [] wr w7 := hw7 ▸ n7.gr
      clear hw7 n7 e0 e1 e2 e0' e1' e2' hq
      go_wp2_with fail
      exact ⟨⟨n + 1, by omega, by go_num, Hg.out.trans hg7⟩, by simp [intOf]; omega⟩
    · go_wp2_with fail
      go_ret
      exact ⟨rfl, hg⟩



end Go.Proofs.YtlekngkcifgonaaGreat
