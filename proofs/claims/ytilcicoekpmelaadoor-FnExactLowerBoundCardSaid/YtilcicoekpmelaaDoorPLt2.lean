/-
  Walks of the least and the greatest value of a domain: by math/bits (its table is a package-level variable).
-/
import Derived.Test.YtilcicoekpmelaaDoorPA
set_option linter.unusedVariables false
set_option linter.unusedSimpArgs false
namespace Go.Proofs.YtilcicoekpmelaaDoor
open Go.RowKit

/-- The six cells of math/bits' table that numbers below 64 reach. -/
def Tab (w : World) : Prop := ∀ i : Nat, i < 6 → w.cell? ⟨1, 2 ^ i - 1, none⟩ = some (.int .u8 (i : Int))
theorem Tab.gr {w w' : World} (h : Tab w) (hg : Gr [] w w') : Tab w' := fun i hi => hg.cell (h i hi) (by simp)
/-- The place of the lowest bit. -/
def tzN (d : Nat) : Nat := ((List.range 6).find? fun i => d.testBit i).getD 0
theorem tz_idx : ∀ d : Nat, d < 64 → d ≠ 0 → IntKind.u64.wrap (bits BinOp.and IntKind.u64 (d : Int) (IntKind.u64.wrap (-(d : Int))) * 285870213051353865) / 288230376151711744 = ((2 ^ tzN d - 1 : Nat) : Int) ∧ tzN d < 6 ∧ 2 ^ tzN d - 1 < 64 := by decide +kernel
/-- The bytes of math/bits' other table (a constant string). -/
def lenB : ByteArray := ⟨#[0, 1, 2, 2, 3, 3, 3, 3, 4, 4, 4, 4, 4, 4, 4, 4, 5, 5, 5, 5, 5, 5, 5, 5, 5, 5, 5, 5, 5, 5, 5, 5, 6, 6, 6, 6, 6, 6, 6, 6, 6, 6, 6, 6, 6, 6, 6, 6, 6, 6, 6, 6, 6, 6, 6, 6, 6, 6, 6, 6, 6, 6, 6, 6, 7, 7, 7, 7, 7, 7, 7, 7, 7, 7, 7, 7, 7, 7, 7, 7, 7, 7, 7, 7, 7, 7, 7, 7, 7, 7, 7, 7, 7, 7, 7, 7, 7, 7, 7, 7, 7, 7, 7, 7, 7, 7, 7, 7, 7, 7, 7, 7, 7, 7, 7, 7, 7, 7, 7, 7, 7, 7, 7, 7, 7, 7, 7, 7, 8, 8, 8, 8, 8, 8, 8, 8, 8, 8, 8, 8, 8, 8, 8, 8, 8, 8, 8, 8, 8, 8, 8, 8, 8, 8, 8, 8, 8, 8, 8, 8, 8, 8, 8, 8, 8, 8, 8, 8, 8, 8, 8, 8, 8, 8, 8, 8, 8, 8, 8, 8, 8, 8, 8, 8, 8, 8, 8, 8, 8, 8, 8, 8, 8, 8, 8, 8, 8, 8, 8, 8, 8, 8, 8, 8, 8, 8, 8, 8, 8, 8, 8, 8, 8, 8, 8, 8, 8, 8, 8, 8, 8, 8, 8, 8, 8, 8, 8, 8, 8, 8, 8, 8, 8, 8, 8, 8, 8, 8, 8, 8, 8, 8, 8, 8, 8, 8, 8, 8, 8, 8, 8, 8, 8, 8, 8, 8]⟩
set_option maxRecDepth 100000 in
theorem lenB_size : lenB.size = 256 := by kernel_rfl
set_option maxRecDepth 100000 in
theorem lenB_all : ∀ d : Fin 64, d.val ≠ 0 → (lenB[d.val]'(by rw [lenB_size]; omega)).toNat = Nat.log2 d.val + 1 := by decide +kernel
theorem lenB_at (d : Nat) (hd : d < 64) (h0 : d ≠ 0) (h : d < lenB.size) : wrap64 (wrap64 ((lenB[d]'h).toNat : Int)) = ((Nat.log2 d + 1 : Nat) : Int) := by
  have hl : Nat.log2 d < 6 := (Nat.log2_lt h0).2 (by omega)
  have e : (lenB[d]'h).toNat = Nat.log2 d + 1 := lenB_all ⟨d, hd⟩ h0
  rw [e]
  unfold wrap64
  omega

set_option maxRecDepth 100000 in
theorem tz_c (d : Nat) (hd : d < 64) (h0 : d ≠ 0) (w : World) (hT : Tab w) :
    Calls Tryd.prog 81 #[.int .u64 d] w fun e w' => e = .returned (.int .i64 (tzN d)) ∧ Gr [] w w' := by
  obtain ⟨q, hq⟩ : ∃ q, q = 2 ^ tzN d - 1 := ⟨_, rfl⟩
  obtain ⟨k, hk⟩ : ∃ k, k = tzN d := ⟨_, rfl⟩
  obtain ⟨hi, h6, h64⟩ := tz_idx d hd h0
  have hc := hT (tzN d) h6
  rw [← hq] at hi hc h64
  rw [← hk] at hc h6
  rw [← hk]
  have hz : ((d : Int) == 0) = false := by simp [h0]
  clear hq hk hT
  go_enter Tryd.func81, Tryd.ntmps81
  go_wp2_with fail
  go_ret
  exact ⟨ret_int (by go_num), Gr.refl _ _⟩
set_option maxRecDepth 100000 in
theorem len_c (d : Nat) (hd : d < 64) (h0 : d ≠ 0) (w : World) :
    Calls Tryd.prog 79 #[.int .u64 d] w fun e w' => e = .returned (.int .i64 ((Nat.log2 d + 1 : Nat) : Int)) ∧ Gr [] w w' := by
  have h1 : decide ((4294967296 : Int) ≤ (d : Int)) = false := decide_eq_false (by omega)
  have h2 : decide ((65536 : Int) ≤ (d : Int)) = false := decide_eq_false (by omega)
  have h3 : decide ((256 : Int) ≤ (d : Int)) = false := decide_eq_false (by omega)
  go_enter Tryd.func79, Tryd.ntmps79
  go_wp2_with fail
  go_ret
  refine ⟨ret_int ?_, Gr.refl _ _⟩
  clear h1 h2 h3
  exact lenB_at d hd h0 _
theorem len1_c (d : Nat) (hd : d < 64) (h0 : d ≠ 0) (w : World) :
    Calls Tryd.prog 65 #[.int .u64 d] w fun e w' => e = .returned (.int .i64 ((Nat.log2 d + 1 : Nat) : Int)) ∧ Gr [] w w' := by
  obtain ⟨k, hk⟩ : ∃ k, k = Nat.log2 d + 1 := ⟨_, rfl⟩
  have HL := hid (len_c d hd h0 w)
  rw [← hk] at HL ⊢
  clear hk
  go_enter Tryd.func65, Tryd.ntmps65
  go_wp2_with (go_at_call 79; refine HL.out.mono ?_; rintro e w' ⟨rfl, hg⟩)
  go_ret
  exact ⟨rfl, hg⟩
theorem tz1_c (d : Nat) (hd : d < 64) (h0 : d ≠ 0) (w : World) (hT : Tab w) :
    Calls Tryd.prog 66 #[.int .u64 d] w fun e w' => e = .returned (.int .i64 (tzN d)) ∧ Gr [] w w' := by
  obtain ⟨k, hk⟩ : ∃ k, k = tzN d := ⟨_, rfl⟩
  have HL := hid (tz_c d hd h0 w hT)
  rw [← hk] at HL ⊢
  clear hk
  go_enter Tryd.func66, Tryd.ntmps66
  go_wp2_with (go_at_call 81; refine HL.out.mono ?_; rintro e w' ⟨rfl, hg⟩)
  go_ret
  exact ⟨rfl, hg⟩
theorem most_c (d : Nat) (hd : d < 64) (h0 : d ≠ 0) (w : World) :
    Calls Tryd.prog 54 #[.int .i64 d] w fun e w' => e = .returned (.int .i64 ((Nat.log2 d : Nat) : Int)) ∧ Gr [] w w' := by
  have hl : Nat.log2 d < 6 := (Nat.log2_lt h0).2 (by omega)
  have hw : IntKind.u64.wrap (d : Int) = d := by rw [IntKind.wrap_u64]; omega
  obtain ⟨k, hk⟩ : ∃ k, k = Nat.log2 d := ⟨_, rfl⟩
  have HL := hid (len1_c d hd h0)
  rw [← hk] at hl ⊢
  rw [← hk] at HL
  clear hk
  go_enter Tryd.func54, Tryd.ntmps54
  go_wp2_with (go_at_call 65; refine (HL.out _).mono ?_; rintro e w' ⟨rfl, hg⟩)
  go_ret
  exact ⟨ret_int (by go_num), hg⟩
theorem least_c (d : Nat) (hd : d < 64) (h0 : d ≠ 0) (w : World) (hT : Tab w) :
    Calls Tryd.prog 55 #[.int .i64 d] w fun e w' => e = .returned (.int .i64 (tzN d)) ∧ Gr [] w w' := by
  have HL := hid (tz1_c d hd h0 w hT)
  obtain ⟨k, hk⟩ : ∃ k, k = tzN d := ⟨_, rfl⟩
  rw [← hk] at HL ⊢
  clear hk
  go_enter Tryd.func55, Tryd.ntmps55
  go_wp2_with (go_at_call 66; refine HL.out.mono ?_; rintro e w' ⟨rfl, hg⟩)
  go_ret
  exact ⟨rfl, hg⟩
end Go.Proofs.YtilcicoekpmelaaDoor
