/-
  DERIVED. GIVEN WITH THE SEED: THE CARDS: each row of YtmmikdgcodiboaaGreatDoorRows.lean that lists a variable, with what it lists TIED to the program's text (the seventh form; the later family's looks); each row that meets fmt, with fmt's text TOLD by the authors' own Lean function (tested against real Go, not proved from fmt's source: count such statements apart). THE CARD IS WHAT COUNTS. Prove the row's statement (the work); the ties are given (YtmmikdgcodiboaaGreatDoorTie.lean); close each card by the builder's one call (the guide's Derived/Test/ToyasCard.lean, 'card_holds'). Laid BY PROGRAM, IN A SANDBOX (cutbox-door.mjs). By AI agents, Wed Nov 11 2026. No macro, syntax, notation, axiom, sorry.
-/
import Derived.Test.YtmmikdgcodiboaaGreatDoorRows
import GoSem.ClaimSeven
namespace Go.Proofs.YtmmikdgcodiboaaGreatDoor
namespace Rows

/-- THE TIED CARD OF 'cayleylaw37.SyntaxSplits'. -/
def syntaxSplitsCard : Claim7 := { stood := { row := syntaxSplitsRow, standIns := [], harness := (true, "cbd4ca57a233ddba2eff066720ae284aa1e58f9ae7b73a65e71c00e10dcf3ad9"), looks := true }, kinds := [], alts := [], laidByText := true, laidKinds := [.data, .data, .data, .sentinel, .sentinel], laidTests := true, laidLooks := .later }
def SyntaxSplitsCardSaid : Prop := Claim7.holds Tryz.pinned (.plain (OpenSpec.ofChange syntaxSplitsSpec)) syntaxSplitsCard

/-- THE SECOND FORM's CARD OF 'cayleylaw37.SyntaxSplits'. -/
def syntaxSplitsUptoCard : Claim7 := { stood := { row := syntaxSplitsUptoRow, standIns := [], harness := (true, "cbd4ca57a233ddba2eff066720ae284aa1e58f9ae7b73a65e71c00e10dcf3ad9"), looks := true }, kinds := [], alts := [], laidByText := true, laidKinds := [.data, .data, .data, .sentinel, .sentinel], laidTests := true, laidLooks := .later }
def SyntaxSplitsUptoCardSaid : Prop := Claim7.holds Tryz.pinned (.plain (OpenSpec.upto syntaxSplitsSpec)) syntaxSplitsUptoCard
end Rows
end Go.Proofs.YtmmikdgcodiboaaGreatDoor
