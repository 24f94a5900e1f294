/-
  Walks: the generator of CheckOptimal's arguments, and the comparison of two proofs.
-/
import Derived.Test.YtlekngkcifgonaaGreatXAOm
import Derived.Test.YtlekngkcifgonaaGreatXABx
import Derived.Test.YtlekngkcifgonaaGreatXAPzGc
import Derived.Test.YtlekngkcifgonaaGreatXASy4ToIsB
import Derived.Test.YtlekngkcifgonaaGreatXACh
set_option linter.unusedVariables false
set_option linter.unusedSimpArgs false
namespace Go.Proofs.YtlekngkcifgonaaGreat
open Go.RowKit

theorem optO_short {m : Mod} {D : List Nat} {o x : List Int} (hD : validM m = true → VM m D) : ((optO m D o x).getD []).length ≤ 200 ∧ ∀ c ∈ (optO m D o x).getD [], c.length ≤ 100 := by
  cases hb : betB m D o x
  · unfold optO; rw [hb]; simp
  · have h1 := betB_open hb
    have h2 : VM (lowM m o x) D := low_vm (hD h1.1) h1.2.2.2
    have h3 := provO_short (m := lowM m o x) (D := D) (fun _ => h2)
    rw [provO_yes h1.2.2.2] at h3
    unfold optO
    rw [hb]
    exact h3




set_option maxRecDepth 100000 in
theorem equalProofs_t (cls : List Cls) (vx vy : Value) (w : World) (hx : ClsV [] w vx cls) (hy : ClsV [] w vy cls) :
    Calls Tryz.prog 16 #[vx, vy] w fun e w' => e = .returned (.bool true) ∧ Gr [] w w' := by
  have Hx := hid hx; have Hy := hid hy
  obtain ⟨xo, xc, rfl, ⟨hx1, hx2, _⟩, _⟩ := hx
  obtain ⟨yo, yc, rfl, ⟨hy1, hy2, _⟩, _⟩ := hy
  go_enter Tryz.func16, Tryz.ntmps16
  go_wp2_with fail
  go_loopw [5] (fun i wr => ∃ n : Nat, n ≤ cls.length ∧ i = .int .i64 n ∧ Gr [] w wr) (fun i _ => cls.length - (intOf i).toNat)
  case atStart => exact ⟨0, Nat.zero_le _, rfl, Gr.refl _ _⟩
  case round =>
    obtain ⟨n, hn, rfl, hg⟩ := hrel
    by_cases hlt : n < cls.length
    · obtain ⟨x, hx⟩ := get_some hlt
      obtain ⟨b1, o1, p1, q1, rfl, -, hc1, hn1⟩ := (Hx.out.gr hg).at hx
      obtain ⟨b2, o2, p2, q2, rfl, -, hc2, hn2⟩ := (Hy.out.gr hg).at hx
      have HS : Hid (∀ w', Gr [] wr w' → w'.cell? ⟨b1, o1 + n, none⟩ = some (.slice p1 x.length q1) ∧ w'.cell? ⟨b2, o2 + n, none⟩ = some (.slice p2 x.length q2) ∧ Gr [] wr w') := hid fun w' h => ⟨h.cell hc1 (by simp), h.cell hc2 (by simp), h⟩
      have Hn1 := hid hn1; have Hn2 := hid hn2; have Hg := hid hg
      clear hx hn1 hn2 hg
      go_wp2_with fail
      go_region_held3 (fun w' => w'.cell? ⟨b1, o1 + n, none⟩ = some (.slice p1 x.length q1) ∧ w'.cell? ⟨b2, o2 + n, none⟩ = some (.slice p2 x.length q2) ∧ Gr [] wr w')
        (first | exact HS.out _ ((Gr.refl [] _).drew) | (go_split_ands; exact HS.out _ (Gr.trans (by assumption) hg3)))
        (first
          | (go_at_call 80; go_split_ands; refine (equalClauses_t x _ _ _ (Hn1.out.gr (by assumption)) (Hn2.out.gr (by assumption))).mono ?_; rintro e w3 ⟨rfl, hg3⟩))
      all_goals
        go_wp2_with fail
        exact ⟨⟨n + 1, by omega, by go_num, (Hg.out.trans ((Gr.refl _ _).drew)).trans hg3⟩, by simp [intOf]; omega⟩
    · go_wp2_with fail
      go_ret
      exact ⟨rfl, hg⟩

end Go.Proofs.YtlekngkcifgonaaGreat
