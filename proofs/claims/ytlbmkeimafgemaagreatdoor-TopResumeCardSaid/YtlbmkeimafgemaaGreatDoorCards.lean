/-
  DERIVED. GIVEN WITH THE SEED: THE CARDS: each row of YtlbmkeimafgemaaGreatDoorRows.lean that lists a variable, with what it lists TIED to the program's text (the seventh form; the later family's looks); each row that meets fmt, with fmt's text TOLD by the authors' own Lean function (tested against real Go, not proved from fmt's source: count such statements apart). THE CARD IS WHAT COUNTS. Prove the row's statement (the work); the ties are given (YtlbmkeimafgemaaGreatDoorTie.lean); close each card by the builder's one call (the guide's Derived/Test/ToyasCard.lean, 'card_holds'). Laid BY PROGRAM, IN A SANDBOX (cutbox-door.mjs). By AI agents, Wed Nov 11 2026. No macro, syntax, notation, axiom, sorry.
-/
import Derived.Test.YtlbmkeimafgemaaGreatDoorRows
import GoSem.ClaimSeven
namespace Go.Proofs.YtlbmkeimafgemaaGreatDoor
namespace Rows

/-- THE TIED CARD OF 'cayleytop.TopResume'. -/
def topResumeCard : Claim7 := { stood := { row := topResumeRow, standIns := [], harness := (true, "673f1e3da96bbcf27152fded7401a25201eab6ecc19d9206f507cac910b13a7c"), looks := true }, kinds := [], alts := [], laidByText := true, laidKinds := [.data, .data, .data, .data, .sentinel, .sentinel, .pinned], laidTests := true, laidLooks := .later }
def TopResumeCardSaid : Prop := Claim7.holds Tryz.pinned (.plain (OpenSpec.ofChange topResumeSpec)) topResumeCard

/-- THE SECOND FORM's CARD OF 'cayleytop.TopResume'. -/
def topResumeUptoCard : Claim7 := { stood := { row := topResumeUptoRow, standIns := [], harness := (true, "673f1e3da96bbcf27152fded7401a25201eab6ecc19d9206f507cac910b13a7c"), looks := true }, kinds := [], alts := [], laidByText := true, laidKinds := [.data, .data, .data, .data, .sentinel, .sentinel, .pinned], laidTests := true, laidLooks := .later }
def TopResumeUptoCardSaid : Prop := Claim7.holds Tryz.pinned (.plain (OpenSpec.upto topResumeSpec)) topResumeUptoCard
end Rows
end Go.Proofs.YtlbmkeimafgemaaGreatDoor
