/-
  DERIVED. GIVEN WITH THE SEED: THE CARDS: each row of YtcimgfhfpiapaaaGreatDoorRows.lean that lists a variable, with what it lists TIED to the program's text (the seventh form; the later family's looks); each row that meets fmt, with fmt's text TOLD by the authors' own Lean function (tested against real Go, not proved from fmt's source: count such statements apart). THE CARD IS WHAT COUNTS. Prove the row's statement (the work); the ties are given (YtcimgfhfpiapaaaGreatDoorTie.lean); close each card by the builder's one call (the guide's Derived/Test/ToyasCard.lean, 'card_holds'). Laid BY PROGRAM, IN A SANDBOX (cutbox-door.mjs). By AI agents, Wed Nov 11 2026. No macro, syntax, notation, axiom, sorry.
-/
import Derived.Test.YtcimgfhfpiapaaaGreatDoorRows
import GoSem.ClaimSeven
namespace Go.Proofs.YtcimgfhfpiapaaaGreatDoor
namespace Rows

/-- THE TIED CARD OF 'cayleylaw37.SyntaxFewest'. -/
def syntaxFewestCard : Claim7 := { stood := { row := syntaxFewestRow, standIns := [], harness := (true, "ff6e5312fdd9993a7af0131fa08a7e57b98fa92cdf86b4135e936f9939ba5687"), looks := true }, kinds := [], alts := [], laidByText := true, laidKinds := [.data, .data, .data, .sentinel, .sentinel], laidTests := true, laidLooks := .later }
def SyntaxFewestCardSaid : Prop := Claim7.holds Tryz.pinned (.plain (OpenSpec.ofChange syntaxFewestSpec)) syntaxFewestCard

/-- THE SECOND FORM's CARD OF 'cayleylaw37.SyntaxFewest'. -/
def syntaxFewestUptoCard : Claim7 := { stood := { row := syntaxFewestUptoRow, standIns := [], harness := (true, "ff6e5312fdd9993a7af0131fa08a7e57b98fa92cdf86b4135e936f9939ba5687"), looks := true }, kinds := [], alts := [], laidByText := true, laidKinds := [.data, .data, .data, .sentinel, .sentinel], laidTests := true, laidLooks := .later }
def SyntaxFewestUptoCardSaid : Prop := Claim7.holds Tryz.pinned (.plain (OpenSpec.upto syntaxFewestSpec)) syntaxFewestUptoCard
end Rows
end Go.Proofs.YtcimgfhfpiapaaaGreatDoor
