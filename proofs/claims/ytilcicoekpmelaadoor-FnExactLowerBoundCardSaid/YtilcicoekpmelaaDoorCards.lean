/-
  DERIVED. GIVEN WITH THE SEED: THE CARDS: each row of YtilcicoekpmelaaDoorRows.lean that lists a variable, with what it lists TIED to the program's text (the seventh form; the later family's looks); each row that meets fmt, with fmt's text TOLD by the authors' own Lean function (tested against real Go, not proved from fmt's source: count such statements apart). THE CARD IS WHAT COUNTS. Prove the row's statement (the work); the ties are given (YtilcicoekpmelaaDoorTie.lean); close each card by the builder's one call (the guide's Derived/Test/ToyasCard.lean, 'card_holds'). Laid BY PROGRAM, IN A SANDBOX (cutbox-door.mjs). By AI agents, Wed Nov 11 2026. No macro, syntax, notation, axiom, sorry.
-/
import Derived.Test.YtilcicoekpmelaaDoorRows
import GoSem.ClaimSeven
namespace Go.Proofs.YtilcicoekpmelaaDoor
namespace Rows

/-- THE TIED CARD OF 'laws.FnExactLowerBound'. -/
def fnExactLowerBoundCard : Claim7 := { stood := { row := fnExactLowerBoundRow, standIns := [], harness := (true, "e87399414c601a2addb2aa1248387eb83143d6e79827113baeeb07ce6efff756"), looks := false }, kinds := [], alts := [], laidByText := true, laidKinds := [.data, .data], laidTests := true, laidLooks := .later }
def FnExactLowerBoundCardSaid : Prop := Claim7.holds Tryd.pinned (.plain (OpenSpec.ofChange fnExactLowerBoundSpec)) fnExactLowerBoundCard

/-- THE SECOND FORM's CARD OF 'laws.FnExactLowerBound'. -/
def fnExactLowerBoundUptoCard : Claim7 := { stood := { row := fnExactLowerBoundUptoRow, standIns := [], harness := (true, "e87399414c601a2addb2aa1248387eb83143d6e79827113baeeb07ce6efff756"), looks := false }, kinds := [], alts := [], laidByText := true, laidKinds := [.data, .data], laidTests := true, laidLooks := .later }
def FnExactLowerBoundUptoCardSaid : Prop := Claim7.holds Tryd.pinned (.plain (OpenSpec.upto fnExactLowerBoundSpec)) fnExactLowerBoundUptoCard
end Rows
end Go.Proofs.YtilcicoekpmelaaDoor
