/-
  Walk: domains restricted to literals.
-/
import Derived.Test.YtihkeihnpiddoaaGreatXTr
import Derived.Test.YtihkeihnpiddoaaGreatXLtStP
import Derived.Test.YtihkeihnpiddoaaGreatXM4M5
set_option linter.unusedVariables false
set_option linter.unusedSimpArgs false
namespace Go.Proofs.YtihkeihnpiddoaaGreat
open Go.RowKit

def restL (D : List Nat) (c : Cls) : List Nat := c.foldl (fun D l => andAt D l.var.toNat (litD l)) D
theorem restL_len (c : Cls) : ∀ D : List Nat, (restL D c).length = D.length := by
  induction c with
  | nil => intro D; rfl
  | cons l c ih => intro D; show (restL (andAt D _ _) c).length = _; rw [ih, andAt_len]
theorem restL_below (c : Cls) : ∀ {D : List Nat}, Below64 D → Below64 (restL D c) := by
  induction c with
  | nil => intro D h; exact h
  | cons l c ih => intro D h; exact ih (andAt_below h _ _)
theorem restL_snoc {c : Cls} {n : Nat} {l : Lit} (D : List Nat) (h : c[n]? = some l) : restL D (c.take (n + 1)) = andAt (restL D (c.take n)) l.var.toNat (litD l) := by
  unfold restL
  rw [List.take_add_one, h, List.foldl_append]
  rfl
set_option maxRecDepth 100000 in
set_option maxHeartbeats 4000000 in
theorem restricted_c (D : List Nat) (c : Cls) (dv cv : Value) (w : World) (hd : Nums [] w .i64 dv (ints D)) (hc : LitsV [] w cv c) (hok : ∀ l ∈ c, litOk D.length l = true) (hl : 1 ≤ D.length ∧ D.length ≤ 4) (hb : Below64 D) (hcl : c.length ≤ 1000) :
    Calls Tryz.prog 40 #[dv, cv] w fun e w' => ∃ v', e = .returned v' ∧ OwnC w.heap.size w' 3 v' (ints (restL D c)) ∧ Gr [] w w' := by
  have Hd := hid hd; have Hc := hid hc; have Hok := hid hok; have H64 := hid hb
  obtain ⟨co, cc, rfl, ⟨hc1, hc2⟩⟩ := hc.slice
  clear hd hc hok hb
  go_enter Tryz.func40, Tryz.ntmps40
  go_wp2_with fail
  have hcall := copied_c dv (ints D) _ Hd.out (by rw [ints_len]; omega)
  (with_reducible refine hcall.mono ?_)
  clear hcall
  rintro e w1 ⟨v1, rfl, ho1, hg1⟩
  obtain ⟨g, cap, rfl⟩ := ho1.open (by rw [ints_len]; omega)
  rw [ints_len] at ho1
  rw [ints_len]
  have hgB := ho1.block
  have Ho1 := hid ho1; have Hg1 := hid hg1
  clear ho1 hg1
  go_wp2_with fail
  go_loopw [12] (fun i wr => ∃ n : Nat, n ≤ c.length ∧ i = .int .i64 n ∧ OwnC w.heap.size wr 3 (.slice (some ⟨g, 0, none⟩) D.length cap) (ints (restL D (c.take n))) ∧ Gr [g] w1 wr) (fun i _ => c.length - (intOf i).toNat)
  case atStart => exact ⟨0, Nat.zero_le _, rfl, by simpa [restL] using Ho1.out, Gr.refl _ _⟩
  case round =>
    obtain ⟨n, hn, rfl, hown, hg⟩ := hrel
    have Hown := hid hown; have Hg := hid hg
    have Hgw : Hid (Gr [] w wr) := hid (Hg1.out.step hg (fun i hi => .inr (by simp at hi; omega)))
    clear hown hg
    by_cases hlt : n < c.length
    · obtain ⟨l, hx⟩ := get_some hlt
      have hlo := litOk_iff.1 (Hok.out l (List.mem_of_getElem? hx))
      obtain ⟨k, hk⟩ : ∃ k : Nat, l.var = (k : Int) := Int.eq_ofNat_of_zero_le hlo.1.1
      obtain ⟨b, o, e1, -, k0, k1, k2⟩ := (Hc.out.gr Hgw.out).at hx
      subst e1
      have hkD : k < D.length := by omega
      obtain ⟨d, hdd⟩ := get_some (xs := restL D (c.take n)) (k := k) (by rw [restL_len]; exact hkD)
      have hd64 : d < 64 := restL_below _ H64.out d (List.mem_of_getElem? hdd)
      have hl64 := litD_lt l hlo.2
      have hset := Hown.out.set k (((d &&& litD l : Nat)) : Int)
      have hsn := restL_snoc D hx
      rw [hk] at hsn k0
      rw [Int.toNat_natCast] at hsn
      have hsn' : restL D (c.take (n + 1)) = (restL D (c.take n)).set k (d &&& litD l) := by rw [hsn]; unfold andAt; rw [List.getD_eq_getElem?_getD, hdd]; rfl
      have hand := i64_and d (litD l) (by omega) (by omega)
      have hga : Gr [] wr (wr.alloc (.cells #[.int .i64 (k : Int), .int .i64 l.val, .bool l.neg] 31)) := (Gr.refl _ _).alloc _
      have hbx := heap_alloc_new wr (.cells #[.int .i64 (k : Int), .int .i64 l.val, .bool l.neg] 31)
      have Hga := hid hga; have Hbx := hid hbx; have HA := hid hdd
      have fbx := fld hbx
      have hval := hlo.2
      have HV := hid hval; have HSet := hid hset; have HSN := hid hsn'
      clear hx hlo hdd hd64 hl64 hset hsn hsn' hga hbx hval
      go_wp2_with fail
      generalize hWa : wr.alloc (.cells #[.int .i64 (k : Int), .int .i64 l.val, .bool l.neg] 31) = wa at *
      clear hWa
      have HOa := hid (Hown.out.gr Hga.out (by simp))
      have hat := fun (W : World) (h : Gr [] wa W) => (HOa.out.gr h (by simp)).at (i := k) (x := d) (by rw [ints_get, HA.out]; rfl)
      have Hat := hid hat
      obtain ⟨ca1, ca2⟩ := hat _ (Gr.refl [] wa).drew
      obtain ⟨cb1, cb2⟩ := hat _ (Gr.refl [] wa)
      clear hat
      go_region_law (first
        | (go_simp; go_at_call 91; rw [← hk]; refine (trues_c l _ HV.out).mono ?_; rintro e w5 ⟨rfl, hg5⟩; have hgx : Gr [] wa w5 := Gr.trans (by first | exact (Gr.refl [] wa).drew | exact Gr.refl [] wa) hg5; have HGX := hid hgx; have fb5 := fld (hgx.obj Hbx.out (by simp)); obtain ⟨cc1, cc2⟩ := Hat.out _ hgx; clear hg5 hgx; (try dsimp only)))
      all_goals
        go_wp2_with fail
        refine ⟨⟨n + 1, by omega, by go_num, ?_, ?_⟩, by simp [intOf]; omega⟩
        · rw [HSN.out, ints_set]
          exact (HOa.out.gr HGX.out (by simp)).set k ((d &&& litD l : Nat) : Int)
        · exact (Hg.out.trans (Gr.any (Hga.out.trans HGX.out))).setCell _ _ (.inl (by simp))
    · have e1 : n = c.length := by omega
      subst e1
      rw [List.take_length] at Hown
      go_wp2_with fail
      go_ret
      exact ⟨_, rfl, Hown.out, Hgw.out⟩

end Go.Proofs.YtihkeihnpiddoaaGreat
