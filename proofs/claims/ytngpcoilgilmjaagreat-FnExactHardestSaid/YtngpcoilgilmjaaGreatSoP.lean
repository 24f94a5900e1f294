/-
  Soft constraints as plain data; how they are read in memory; their cost, the best of solutions, those that nothing satisfies. No program is mentioned.
-/
import Derived.Test.YtngpcoilgilmjaaGreatOb
import Derived.Test.YtngpcoilgilmjaaGreatEO
set_option linter.unusedVariables false
set_option linter.unusedSimpArgs false
namespace Go.Proofs.YtngpcoilgilmjaaGreat
open Go.RowKit

structure Sft where
  con : Con
  wt : Int
instance : Inhabited Sft := ⟨⟨⟨0, [], [], 0, []⟩, 0⟩⟩
/-- The cells of a list of soft constraints, six each. -/
def SCells (S : List Nat) (w : World) (ao : Option Addr) (ss : List Sft) : Prop :=
  ∀ i s, ss[i]? = some s → ∃ b o vv av rv, ao = some ⟨b, o, none⟩ ∧ b ∉ S ∧
    (w.cell? ⟨b, o + i * 6, none⟩ = some (.int .i64 s.con.kind) ∧ w.cell? ⟨b, o + i * 6 + 1, none⟩ = some vv ∧ w.cell? ⟨b, o + i * 6 + 2, none⟩ = some av ∧
     w.cell? ⟨b, o + i * 6 + 3, none⟩ = some (.int .i64 s.con.bound) ∧ w.cell? ⟨b, o + i * 6 + 4, none⟩ = some rv ∧ w.cell? ⟨b, o + i * 6 + 5, none⟩ = some (.int .i64 s.wt)) ∧
    Nums S w .i64 vv s.con.vars ∧ Nums S w .i64 av s.con.args ∧ RowsV S w rv s.con.rows
def SftsV (S : List Nat) (w : World) (v : Value) (ss : List Sft) : Prop :=
  ∃ ao cap, v = .slice ao ss.length cap ∧ (ss.length ≤ cap ∧ cap ≤ 9223372036854775807 ∧ (ao = none → cap = 0)) ∧ SCells S w ao ss
theorem SCells.gr {S : List Nat} {w w' : World} {ao : Option Addr} {ss : List Sft} (h : SCells S w ao ss) (hg : Gr S w w') : SCells S w' ao ss :=
  fun i c hi => let ⟨b, o, vv, av, rv, e, hs, ⟨h0, h1, h2, h3, h4, h5⟩, hv, ha, hr⟩ := h i c hi
    ⟨b, o, vv, av, rv, e, hs, ⟨hg.cell h0 hs, hg.cell h1 hs, hg.cell h2 hs, hg.cell h3 hs, hg.cell h4 hs, hg.cell h5 hs⟩, hv.gr hg, ha.gr hg, hr.gr hg⟩
theorem SftsV.gr {S : List Nat} {w w' : World} {v : Value} {ss : List Sft} (h : SftsV S w v ss) (hg : Gr S w w') : SftsV S w' v ss :=
  let ⟨ao, cap, e, hl, hc⟩ := h; ⟨ao, cap, e, hl, hc.gr hg⟩
theorem SftsV.sub {S S' : List Nat} {w : World} {v : Value} {ss : List Sft} (h : SftsV S w v ss) (hs : ∀ b, b < w.heap.size → b ∈ S' → b ∈ S) : SftsV S' w v ss :=
  let ⟨ao, cap, e, hl, hc⟩ := h
  ⟨ao, cap, e, hl, fun i c hi => let ⟨b, o, vv, av, rv, e, hn, hc, hv, ha, hr⟩ := hc i c hi
    ⟨b, o, vv, av, rv, e, fun hm => hn (hs b (World.block_lt_of_cell? w _ hc.1) hm), hc, hv.sub hs, ha.sub hs, hr.sub hs⟩⟩
theorem SftsV.slice {S : List Nat} {w : World} {v : Value} {ss : List Sft} (h : SftsV S w v ss) : ∃ ao cap, v = .slice ao ss.length cap ∧ (ss.length ≤ cap ∧ cap ≤ 9223372036854775807) := by
  obtain ⟨ao, cap, e, ⟨h1, h2, -⟩, -⟩ := h
  exact ⟨ao, cap, e, h1, h2⟩
theorem SftsV.at {S : List Nat} {w : World} {ao : Option Addr} {n cap : Nat} {ss : List Sft} (h : SftsV S w (.slice ao n cap) ss) {k : Nat} {s : Sft} (hi : ss[k]? = some s) :
    ∃ b o vo vc xo xc ro rc, ao = some ⟨b, o, none⟩ ∧ b ∉ S ∧ (w.cell? ⟨b, o + k * 6, none⟩ = some (.int .i64 s.con.kind) ∧ w.cell? ⟨b, o + k * 6 + 1, none⟩ = some (.slice vo s.con.vars.length vc) ∧ w.cell? ⟨b, o + k * 6 + 2, none⟩ = some (.slice xo s.con.args.length xc) ∧
     w.cell? ⟨b, o + k * 6 + 3, none⟩ = some (.int .i64 s.con.bound) ∧ w.cell? ⟨b, o + k * 6 + 4, none⟩ = some (.slice ro s.con.rows.length rc) ∧ w.cell? ⟨b, o + k * 6 + 5, none⟩ = some (.int .i64 s.wt)) ∧
     ConV S w (.agg #[.int .i64 s.con.kind, .slice vo s.con.vars.length vc, .slice xo s.con.args.length xc, .int .i64 s.con.bound, .slice ro s.con.rows.length rc]) s.con := by
  obtain ⟨ao', cap', e, _, hc⟩ := h
  simp only [Value.slice.injEq] at e
  obtain ⟨rfl, _, _⟩ := e
  obtain ⟨b, o, vv, av, rv, e1, hn, ⟨h0, h1, h2, h3, h4, h5⟩, n1, n2, n3⟩ := hc k s hi
  obtain ⟨vo, vc, rfl, k1⟩ := n1
  obtain ⟨xo, xc, rfl, k2⟩ := n2
  obtain ⟨ro, rc, rfl, k3⟩ := n3
  exact ⟨b, o, vo, vc, xo, xc, ro, rc, e1, hn, ⟨h0, h1, h2, h3, h4, h5⟩, ⟨_, _, _, rfl, ⟨vo, vc, rfl, k1⟩, ⟨xo, xc, rfl, k2⟩, ⟨ro, rc, rfl, k3⟩⟩⟩
theorem SftsV.nil (S : List Nat) (w : World) : SftsV S w (.slice none 0 0) [] := ⟨none, 0, rfl, by simp, fun i l h => by simp at h⟩

/-! ### The checks and the cost -/
def softOneS (n : Int) (s : Sft) : Bool := inB 1 9 s.wt && validConS s.con n
def softOne (n : Int) (s : Sft) : Bool := inB 1 9 s.wt && validCon s.con n
def softB (ss : List Sft) (n : Int) : Bool := decide ((ss.length : Int) ≤ 4) && ss.all (softOne n)
def metB (s : Sft) (x : List Int) : Bool := satB s.con (word s.con.vars x)
def costN (ss : List Sft) (x : List Int) : Int := (ss.map fun s => if metB s x then 0 else s.wt).sum
theorem costN_succ {ss : List Sft} {n : Nat} {s : Sft} (h : ss[n]? = some s) (x : List Int) : costN (ss.take (n + 1)) x = costN (ss.take n) x + if metB s x then 0 else s.wt := by
  unfold costN
  rw [List.take_add_one, h, List.map_append, List.sum_append]
  simp
theorem softB_iff {ss : List Sft} {n : Nat} : softB ss n = true ↔ ss.length ≤ 4 ∧ ∀ s ∈ ss, (1 ≤ s.wt ∧ s.wt ≤ 9) ∧ VC s.con n := by
  unfold softB
  rw [Bool.and_eq_true, decide_eq_true_eq, List.all_eq_true]
  constructor
  · rintro ⟨h1, h2⟩
    refine ⟨by omega, fun s hs => ?_⟩
    have := h2 s hs
    unfold softOne at this
    rw [Bool.and_eq_true, inB_iff, validCon_iff] at this
    exact this
  · rintro ⟨h1, h2⟩
    refine ⟨by omega, fun s hs => ?_⟩
    unfold softOne
    rw [Bool.and_eq_true, inB_iff, validCon_iff]
    exact h2 s hs
theorem costN_bd {ss : List Sft} (h : ∀ s ∈ ss, 1 ≤ s.wt ∧ s.wt ≤ 9) (x : List Int) : 0 ≤ costN ss x ∧ costN ss x ≤ 9 * (ss.length : Int) := by
  induction ss with
  | nil => simp [costN]
  | cons s r ih =>
    have h1 := h s (List.mem_cons_self ..)
    have h2 := ih fun t ht => h t (List.mem_cons_of_mem _ ht)
    have e : costN (s :: r) x = (if metB s x then 0 else s.wt) + costN r x := by simp [costN]
    rw [e, List.length_cons]
    split <;> (push_cast; omega)
def softO (m : Mod) (D : List Nat) (ss : List Sft) : Option (List Int) := if validM m && softB ss m.doms.length then bestO (costN ss) (sols m.cons D) else none
theorem softO_no {m : Mod} {D : List Nat} {ss : List Sft} (h : (validM m && softB ss m.doms.length) = false) : softO m D ss = none := by unfold softO; rw [h]; rfl
theorem softO_yes {m : Mod} {D : List Nat} {ss : List Sft} (h : (validM m && softB ss m.doms.length) = true) : softO m D ss = bestO (costN ss) (sols m.cons D) := by unfold softO; rw [h]; rfl
theorem softO_len (m : Mod) (ss : List Sft) (D : List Nat) (hD : validM m = true → VM m D) : ((softO m D ss).getD []).length ≤ 1000000 := by
  cases h : (validM m && softB ss m.doms.length)
  · rw [softO_no h]; simp
  · rw [softO_yes h]
    rw [Bool.and_eq_true] at h
    exact bestO_len (hD h.1)
/-- Met by some of them. -/
def metAny (s : Sft) (zs : List (List Int)) : Bool := zs.any (metB s)
def hardL (ss : List Sft) (zs : List (List Int)) (n : Nat) : List Int := ((List.range n).filter fun i => !metAny (ss.getD i default) zs).map fun i : Nat => (i : Int)
theorem hardL_succ {ss : List Sft} {zs : List (List Int)} {n : Nat} {s : Sft} (h : ss[n]? = some s) : hardL ss zs (n + 1) = hardL ss zs n ++ if metAny s zs then [] else [(n : Int)] := by
  unfold hardL
  rw [List.range_succ, List.filter_append, List.map_append]
  congr 1
  have e : ss.getD n default = s := by rw [List.getD_eq_getElem?_getD, h]; rfl
  simp only [List.filter_cons, List.filter_nil, e]
  cases metAny s zs <;> rfl
theorem hardL_len (ss : List Sft) (zs : List (List Int)) (n : Nat) : (hardL ss zs n).length ≤ n := by
  unfold hardL
  rw [List.length_map]
  have := List.length_filter_le (fun i => !metAny (ss.getD i default) zs) (List.range n)
  rwa [List.length_range] at this
def hardO (m : Mod) (D : List Nat) (ss : List Sft) : List Int := if validM m && softB ss m.doms.length then hardL ss (sols m.cons D) ss.length else []
theorem hardO_no {m : Mod} {D : List Nat} {ss : List Sft} (h : (validM m && softB ss m.doms.length) = false) : hardO m D ss = [] := by unfold hardO; rw [h]; rfl
theorem hardO_yes {m : Mod} {D : List Nat} {ss : List Sft} (h : (validM m && softB ss m.doms.length) = true) : hardO m D ss = hardL ss (sols m.cons D) ss.length := by unfold hardO; rw [h]; rfl
theorem hardO_len (m : Mod) (ss : List Sft) (D : List Nat) : (hardO m D ss).length ≤ 1000000 := by
  cases h : (validM m && softB ss m.doms.length)
  · rw [hardO_no h]; simp
  · rw [hardO_yes h]
    rw [Bool.and_eq_true] at h
    have := hardL_len ss (sols m.cons D) ss.length
    have := (softB_iff.1 h.2).1
    omega
theorem mem_hardL {ss : List Sft} {zs : List (List Int)} {n i : Nat} : (i : Int) ∈ hardL ss zs n ↔ i < n ∧ metAny (ss.getD i default) zs = false := by
  unfold hardL
  rw [List.mem_map]
  constructor
  · rintro ⟨a, h, e⟩
    have : a = i := by omega
    subst this
    rw [List.mem_filter, List.mem_range] at h
    exact ⟨h.1, by simpa using h.2⟩
  · rintro ⟨h1, h2⟩
    exact ⟨i, List.mem_filter.2 ⟨List.mem_range.2 h1, by rw [h2]; rfl⟩, rfl⟩
end Go.Proofs.YtngpcoilgilmjaaGreat
