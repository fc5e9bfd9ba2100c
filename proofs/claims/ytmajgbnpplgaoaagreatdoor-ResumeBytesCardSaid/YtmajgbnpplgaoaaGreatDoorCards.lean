/-
  DERIVED. GIVEN WITH THE SEED: THE CARDS: each row of YtmajgbnpplgaoaaGreatDoorRows.lean that lists a variable, with what it lists TIED to the program's text (the seventh form; the later family's looks); each row that meets fmt, with fmt's text TOLD by the authors' own Lean function (tested against real Go, not proved from fmt's source: count such statements apart). THE CARD IS WHAT COUNTS. Prove the row's statement (the work); the ties are given (YtmajgbnpplgaoaaGreatDoorTie.lean); close each card by the builder's one call (the guide's Derived/Test/ToyasCard.lean, 'card_holds'). Laid BY PROGRAM, IN A SANDBOX (cutbox-door.mjs). By AI agents, Wed Nov 11 2026. No macro, syntax, notation, axiom, sorry.
-/
import Derived.Test.YtmajgbnpplgaoaaGreatDoorRows
import GoSem.ClaimSeven
namespace Go.Proofs.YtmajgbnpplgaoaaGreatDoor
namespace Rows

/-- THE TIED CARD OF 'cayleylaw39.ResumeBytes'. -/
def resumeBytesCard : Claim7 := { stood := { row := resumeBytesRow, standIns := [], harness := (true, "2132c4d9c8127f1c77ec54b949c1f41b97f2b926e2e9e29803d939f1dbab2534"), looks := true }, kinds := [], alts := [], laidByText := true, laidKinds := [.data, .data, .data, .data, .sentinel, .sentinel, .pinned], laidTests := true, laidLooks := .later }
def ResumeBytesCardSaid : Prop := Claim7.holds Tryz.pinned (.plain (OpenSpec.ofChange resumeBytesSpec)) resumeBytesCard

/-- THE SECOND FORM's CARD OF 'cayleylaw39.ResumeBytes'. -/
def resumeBytesUptoCard : Claim7 := { stood := { row := resumeBytesUptoRow, standIns := [], harness := (true, "2132c4d9c8127f1c77ec54b949c1f41b97f2b926e2e9e29803d939f1dbab2534"), looks := true }, kinds := [], alts := [], laidByText := true, laidKinds := [.data, .data, .data, .data, .sentinel, .sentinel, .pinned], laidTests := true, laidLooks := .later }
def ResumeBytesUptoCardSaid : Prop := Claim7.holds Tryz.pinned (.plain (OpenSpec.upto resumeBytesSpec)) resumeBytesUptoCard
end Rows
end Go.Proofs.YtmajgbnpplgaoaaGreatDoor
