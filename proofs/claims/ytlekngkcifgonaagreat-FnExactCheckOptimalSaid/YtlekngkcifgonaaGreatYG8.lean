/-
  Walks of generators: damaged constraints.
  Walk of the generator of valid models.
  Walk of the generator of models.
  Walks of the generators DrawPropagate and DrawIsConsistent.
-/
import Derived.Test.YtlekngkcifgonaaGreatYG4
import Derived.Test.YtlekngkcifgonaaGreatYM1
import Derived.Test.YtlekngkcifgonaaGreatYFP
import Derived.Test.YtlekngkcifgonaaGreatYM4M5
set_option linter.unusedVariables false
namespace Go.Proofs.YtlekngkcifgonaaGreat
open Go.RowKit

/-- A list that lies in none of the blocks X, below hi. -/
def FrX (X : Nat → Prop) (hi : Nat) (w : World) (v : Value) (xs : List Int) : Prop := ∀ S : List Nat, (∀ b ∈ S, X b ∨ hi ≤ b) → Nums S w .i64 v xs
def FrRX (X : Nat → Prop) (hi : Nat) (w : World) (v : Value) (rows : List (List Int)) : Prop := ∀ S : List Nat, (∀ b ∈ S, X b ∨ hi ≤ b) → RowsV S w v rows
theorem FrI.x {lo hi : Nat} {w : World} {v : Value} {xs : List Int} {X : Nat → Prop} (h : FrI lo hi w v xs) (hX : ∀ b, X b → b < lo) : FrX X hi w v xs := fun S hS => h S fun b hb => (hS b hb).imp (hX b) id
theorem FrX.gr {X : Nat → Prop} {hi : Nat} {S : List Nat} {w w' : World} {v : Value} {xs : List Int} (h : FrX X hi w v xs) (hg : Gr S w w') (hS : ∀ b ∈ S, X b ∨ hi ≤ b) : FrX X hi w' v xs := fun S0 h0 =>
  ((h (S ++ S0) (by intro b hb; rcases List.mem_append.1 hb with hb | hb; exact hS b hb; exact h0 b hb)).gr (hg.sub fun k _ hk => by simp [hk])).sub fun b _ hb => by simp [hb]
theorem FrRX.gr {X : Nat → Prop} {hi : Nat} {S : List Nat} {w w' : World} {v : Value} {xs : List (List Int)} (h : FrRX X hi w v xs) (hg : Gr S w w') (hS : ∀ b ∈ S, X b ∨ hi ≤ b) : FrRX X hi w' v xs := fun S0 h0 =>
  ((h (S ++ S0) (by intro b hb; rcases List.mem_append.1 hb with hb | hb; exact hS b hb; exact h0 b hb)).gr (hg.sub fun k _ hk => by simp [hk])).sub fun b _ hb => by simp [hb]
/-- What a generator of constraints leaves: a constraint in none of the blocks X, maybe a wrong one. -/
def ConPostX (X : Nat → Prop) (R : Nat) (bs : List Int) (q : Nat) (w : World) (e : Ending) (w' : World) : Prop :=
  ∃ (c : Con) (vo : Option Addr) (vc : Nat) (xo : Option Addr) (xc : Nat) (ro : Option Addr) (rc : Nat),
    e = .returned (.agg #[.int .i64 c.kind, .slice vo c.vars.length vc, .slice xo c.args.length xc, .int .i64 c.bound, .slice ro c.rows.length rc]) ∧
    (∀ S : List Nat, (∀ b ∈ S, X b ∨ w'.heap.size ≤ b) → ConV S w' (.agg #[.int .i64 c.kind, .slice vo c.vars.length vc, .slice xo c.args.length xc, .int .i64 c.bound, .slice ro c.rows.length rc]) c) ∧
    c.Small ∧ 1 ≤ c.vars.length ∧ Rd w' R bs q ∧ Gr [R] w w'
theorem ConPost.s {B R : Nat} {bs : List Int} {q : Nat} {w : World} {e : Ending} {w' : World} (h : ConPost B R bs q w e w') : ConPostX (fun b => b < B) R bs q w e w' := by
  obtain ⟨c, vo, vc, xo, xc, ro, rc, h1, h2, h3, h4⟩ := h
  exact ⟨c, vo, vc, xo, xc, ro, rc, h1, h2, h3.small, h4⟩
end Go.Proofs.YtlekngkcifgonaaGreat

set_option linter.unusedVariables false
namespace Go.Proofs.YtlekngkcifgonaaGreat
open Go.RowKit

/-- What a generator of models leaves. -/
def ModPost (Pr : Con → Prop) (B R : Nat) (bs : List Int) (q : Nat) (w : World) (e : Ending) (w' : World) : Prop :=
  ∃ (m : Mod) (M : Nat) (ao : Option Addr) (ac : Nat) (co : Option Addr) (cc : Nat), e = .returned (.agg #[.slice ao m.doms.length ac, .slice co m.cons.length cc]) ∧
    Own B w' 3 (.slice ao m.doms.length ac) m.doms ∧ (∀ b, (Value.slice ao m.doms.length ac).ownBlock = some b → b < M) ∧ (B ≤ M ∧ M ≤ w'.heap.size) ∧
    OwnG 5 elCon M w' 55 (.slice co m.cons.length cc) m.cons ∧ (1 ≤ m.doms.length ∧ m.doms.length ≤ 4) ∧ m.cons.length ≤ 4 ∧ (∀ c ∈ m.cons, Pr c) ∧ Rd w' R bs q ∧ Gr [R] w w'
end Go.Proofs.YtlekngkcifgonaaGreat

set_option linter.unusedVariables false
namespace Go.Proofs.YtlekngkcifgonaaGreat
open Go.RowKit

end Go.Proofs.YtlekngkcifgonaaGreat

set_option linter.unusedVariables false
namespace Go.Proofs.YtlekngkcifgonaaGreat
open Go.RowKit

theorem ModV.sub0 {S : List Nat} {w : World} {v : Value} {m : Mod} (h : ModV S w v m) : ModV [] w v m := ModV.sub h (by simp)
theorem Nums.eq {S : List Nat} {w : World} {k : IntKind} {v : Value} {xs ys : List Int} (h : Nums S w k v xs) (e : xs = ys) : Nums S w k v ys := e ▸ h
theorem ModV.parts {S : List Nat} {w : World} {dv cv : Value} {m : Mod} (h : ModV S w (.agg #[dv, cv]) m) : Nums S w .i64 dv m.doms ∧ ConsV S w cv m.cons := by
  obtain ⟨dv', cv', e, h1, h2⟩ := h
  simp only [Value.agg.injEq] at e
  have e1 := congrArg (fun a => a[0]?) e
  have e2 := congrArg (fun a => a[1]?) e
  simp at e1 e2
  subst e1 e2
  exact ⟨h1, h2⟩
end Go.Proofs.YtlekngkcifgonaaGreat
