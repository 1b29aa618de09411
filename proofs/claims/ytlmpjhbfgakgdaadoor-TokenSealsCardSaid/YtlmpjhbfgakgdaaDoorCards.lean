/-
  DERIVED. GIVEN WITH THE SEED: THE CARDS: each row of YtlmpjhbfgakgdaaDoorRows.lean that lists a variable, with what it lists TIED to the program's text (the seventh form; the later family's looks); each row that meets fmt, with fmt's text TOLD by the authors' own Lean function (tested against real Go, not proved from fmt's source: count such statements apart). THE CARD IS WHAT COUNTS. Prove the row's statement (the work); the ties are given (YtlmpjhbfgakgdaaDoorTie.lean); close each card by the builder's one call (the guide's Derived/Test/ToyasCard.lean, 'card_holds'). Laid BY PROGRAM, IN A SANDBOX (cutbox-door.mjs). By AI agents, Wed Nov 11 2026. No macro, syntax, notation, axiom, sorry.
-/
import Derived.Test.YtlmpjhbfgakgdaaDoorRows
import GoSem.ClaimSeven
namespace Go.Proofs.YtlmpjhbfgakgdaaDoor
namespace Rows

/-- THE TIED CARD OF 'thimbleriglaw28.TokenSeals'. -/
def tokenSealsCard : Claim7 := { stood := { row := tokenSealsRow, standIns := [], harness := (true, "6f23d3c2fa37c992fede0dd70c82005ee19e36caead4711fdd1c26096e63b357"), looks := false }, kinds := [], alts := [], laidByText := true, laidKinds := [.data], laidTests := true, laidLooks := .later }
def TokenSealsCardSaid : Prop := Claim7.holds Tryd.pinned (.plain (OpenSpec.ofChange tokenSealsSpec)) tokenSealsCard

/-- THE SECOND FORM's CARD OF 'thimbleriglaw28.TokenSeals'. -/
def tokenSealsUptoCard : Claim7 := { stood := { row := tokenSealsUptoRow, standIns := [], harness := (true, "6f23d3c2fa37c992fede0dd70c82005ee19e36caead4711fdd1c26096e63b357"), looks := false }, kinds := [], alts := [], laidByText := true, laidKinds := [.data], laidTests := true, laidLooks := .later }
def TokenSealsUptoCardSaid : Prop := Claim7.holds Tryd.pinned (.plain (OpenSpec.upto tokenSealsSpec)) tokenSealsUptoCard
end Rows
end Go.Proofs.YtlmpjhbfgakgdaaDoor
