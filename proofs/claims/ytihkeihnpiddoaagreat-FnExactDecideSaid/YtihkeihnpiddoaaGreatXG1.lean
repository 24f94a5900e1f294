/-
  Walks of generators: some variables, an automaton, domains.
  Walk of the generator of automata.
  What the generator of constraints leaves, and small facts for its walk.
-/
import Derived.Test.YtihkeihnpiddoaaGreatXFP
import Derived.Test.YtihkeihnpiddoaaGreatXA
set_option linter.unusedVariables false
namespace Go.Proofs.YtihkeihnpiddoaaGreat
open Go.RowKit

theorem infoR : (Tryz.prog.info? 23).map (fun i => (i.zero, i.size, i.bytes)) = some (some (.slice none 0 0), 1, 24) := by kernel_rfl
theorem infoC : (Tryz.prog.info? 41).map (fun i => (i.zero, i.size, i.bytes)) = some (some (.agg #[.int .i64 0, .slice none 0 0, .slice none 0 0, .int .i64 0, .slice none 0 0]), 5, 88) := by kernel_rfl

end Go.Proofs.YtihkeihnpiddoaaGreat

namespace Go.Proofs.YtihkeihnpiddoaaGreat
open Go.RowKit

end Go.Proofs.YtihkeihnpiddoaaGreat

namespace Go.Proofs.YtihkeihnpiddoaaGreat
open Go.RowKit

theorem Gr.cell1 (S : List Nat) (w : World) (p : Addr) (v : Value) (h : p.block ∈ S) : Gr S w (w.setCell p v) := (Gr.refl _ _).setCell _ _ (.inl h)

theorem OwnC.form {B : Nat} {w : World} {e : TypeId} {v : Value} {xs : List Int} (h : OwnC B w e v xs) : ∃ vo vc, v = .slice vo xs.length vc := by
  rcases h with ⟨h, h2⟩ | ⟨g, cap, cur, h, _⟩
  · subst h2; exact ⟨_, _, h⟩
  · exact ⟨_, _, h⟩
end Go.Proofs.YtihkeihnpiddoaaGreat
