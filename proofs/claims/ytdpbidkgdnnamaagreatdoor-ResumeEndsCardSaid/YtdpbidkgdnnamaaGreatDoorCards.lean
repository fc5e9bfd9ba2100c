/-
  DERIVED. GIVEN WITH THE SEED: THE CARDS: each row of YtdpbidkgdnnamaaGreatDoorRows.lean that lists a variable, with what it lists TIED to the program's text (the seventh form; the later family's looks); each row that meets fmt, with fmt's text TOLD by the authors' own Lean function (tested against real Go, not proved from fmt's source: count such statements apart). THE CARD IS WHAT COUNTS. Prove the row's statement (the work); the ties are given (YtdpbidkgdnnamaaGreatDoorTie.lean); close each card by the builder's one call (the guide's Derived/Test/ToyasCard.lean, 'card_holds'). Laid BY PROGRAM, IN A SANDBOX (cutbox-door.mjs). By AI agents, Wed Nov 11 2026. No macro, syntax, notation, axiom, sorry.
-/
import Derived.Test.YtdpbidkgdnnamaaGreatDoorRows
import GoSem.ClaimSeven
namespace Go.Proofs.YtdpbidkgdnnamaaGreatDoor
namespace Rows

/-- THE TIED CARD OF 'cayleylaw39.ResumeEnds'. -/
def resumeEndsCard : Claim7 := { stood := { row := resumeEndsRow, standIns := [], harness := (true, "264b0352a0fb05cfdfe02b58f3f3dcbacc0484550e66c32b71945fe6f169e345"), looks := true }, kinds := [], alts := [], laidByText := true, laidKinds := [.data, .data, .data, .data, .sentinel, .sentinel, .pinned], laidTests := true, laidLooks := .later }
def ResumeEndsCardSaid : Prop := Claim7.holds Tryz.pinned (.plain (OpenSpec.ofChange resumeEndsSpec)) resumeEndsCard

/-- THE SECOND FORM's CARD OF 'cayleylaw39.ResumeEnds'. -/
def resumeEndsUptoCard : Claim7 := { stood := { row := resumeEndsUptoRow, standIns := [], harness := (true, "264b0352a0fb05cfdfe02b58f3f3dcbacc0484550e66c32b71945fe6f169e345"), looks := true }, kinds := [], alts := [], laidByText := true, laidKinds := [.data, .data, .data, .data, .sentinel, .sentinel, .pinned], laidTests := true, laidLooks := .later }
def ResumeEndsUptoCardSaid : Prop := Claim7.holds Tryz.pinned (.plain (OpenSpec.upto resumeEndsSpec)) resumeEndsUptoCard
end Rows
end Go.Proofs.YtdpbidkgdnnamaaGreatDoor
