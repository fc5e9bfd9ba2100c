/-
  DERIVED. GIVEN WITH THE SEED: THE CARDS: each row of YtejehoihhphpiaaDoorRows.lean that lists a variable, with what it lists TIED to the program's text (the seventh form; the later family's looks); each row that meets fmt, with fmt's text TOLD by the authors' own Lean function (tested against real Go, not proved from fmt's source: count such statements apart). THE CARD IS WHAT COUNTS. Prove the row's statement (the work); the ties are given (YtejehoihhphpiaaDoorTie.lean); close each card by the builder's one call (the guide's Derived/Test/ToyasCard.lean, 'card_holds'). Laid BY PROGRAM, IN A SANDBOX (cutbox-door.mjs). By AI agents, Wed Nov 11 2026. No macro, syntax, notation, axiom, sorry.
-/
import Derived.Test.YtejehoihhphpiaaDoorRows
import GoSem.ClaimSeven
namespace Go.Proofs.YtejehoihhphpiaaDoor
namespace Rows

/-- THE TIED CARD OF 'cayleylaw39.ResumeCounts'. -/
def resumeCountsCard : Claim7 := { stood := { row := resumeCountsRow, standIns := [], harness := (true, "c5c989aca81de3187cd141833b18b9e45b8fcac370ee66aef3ad860c7166b90a"), looks := false }, kinds := [], alts := [], laidByText := true, laidKinds := [.data, .data, .data], laidTests := true, laidLooks := .later }
def ResumeCountsCardSaid : Prop := Claim7.holds Tryd.pinned (.plain (OpenSpec.ofChange resumeCountsSpec)) resumeCountsCard

/-- THE SECOND FORM's CARD OF 'cayleylaw39.ResumeCounts'. -/
def resumeCountsUptoCard : Claim7 := { stood := { row := resumeCountsUptoRow, standIns := [], harness := (true, "c5c989aca81de3187cd141833b18b9e45b8fcac370ee66aef3ad860c7166b90a"), looks := false }, kinds := [], alts := [], laidByText := true, laidKinds := [.data, .data, .data], laidTests := true, laidLooks := .later }
def ResumeCountsUptoCardSaid : Prop := Claim7.holds Tryd.pinned (.plain (OpenSpec.upto resumeCountsSpec)) resumeCountsUptoCard
end Rows
end Go.Proofs.YtejehoihhphpiaaDoor
