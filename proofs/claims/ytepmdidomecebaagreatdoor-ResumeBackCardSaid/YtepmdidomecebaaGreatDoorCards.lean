/-
  DERIVED. GIVEN WITH THE SEED: THE CARDS: each row of YtepmdidomecebaaGreatDoorRows.lean that lists a variable, with what it lists TIED to the program's text (the seventh form; the later family's looks); each row that meets fmt, with fmt's text TOLD by the authors' own Lean function (tested against real Go, not proved from fmt's source: count such statements apart). THE CARD IS WHAT COUNTS. Prove the row's statement (the work); the ties are given (YtepmdidomecebaaGreatDoorTie.lean); close each card by the builder's one call (the guide's Derived/Test/ToyasCard.lean, 'card_holds'). Laid BY PROGRAM, IN A SANDBOX (cutbox-door.mjs). By AI agents, Wed Nov 11 2026. No macro, syntax, notation, axiom, sorry.
-/
import Derived.Test.YtepmdidomecebaaGreatDoorRows
import GoSem.ClaimSeven
namespace Go.Proofs.YtepmdidomecebaaGreatDoor
namespace Rows

/-- THE TIED CARD OF 'cayleytop.TopResume'. -/
def topResumeCard : Claim7 := { stood := { row := topResumeRow, standIns := [], harness := (true, "5ee37a693ba65f0ed3858de8b5a212460f05b0ab64f0e0cd1f55ba72a96ad9d5"), looks := true }, kinds := [], alts := [], laidByText := true, laidKinds := [.data, .data, .data, .data, .sentinel, .sentinel, .pinned], laidTests := true, laidLooks := .later }
def TopResumeCardSaid : Prop := Claim7.holds Tryz.pinned (.plain (OpenSpec.ofChange topResumeSpec)) topResumeCard

/-- THE TIED CARD OF 'cayleylaw39.ResumeLoads'. -/
def resumeLoadsCard : Claim7 := { stood := { row := resumeLoadsRow, standIns := [], harness := (true, "5ee37a693ba65f0ed3858de8b5a212460f05b0ab64f0e0cd1f55ba72a96ad9d5"), looks := true }, kinds := [], alts := [], laidByText := true, laidKinds := [.data, .data, .data, .data, .sentinel, .sentinel, .pinned], laidTests := true, laidLooks := .later }
def ResumeLoadsCardSaid : Prop := Claim7.holds Tryz.pinned (.plain (OpenSpec.ofChange resumeLoadsSpec)) resumeLoadsCard

/-- THE TIED CARD OF 'cayleylaw39.ResumeBack'. -/
def resumeBackCard : Claim7 := { stood := { row := resumeBackRow, standIns := [], harness := (true, "5ee37a693ba65f0ed3858de8b5a212460f05b0ab64f0e0cd1f55ba72a96ad9d5"), looks := true }, kinds := [], alts := [], laidByText := true, laidKinds := [.data, .data, .data, .data, .sentinel, .sentinel, .pinned], laidTests := true, laidLooks := .later }
def ResumeBackCardSaid : Prop := Claim7.holds Tryz.pinned (.plain (OpenSpec.ofChange resumeBackSpec)) resumeBackCard

/-- THE TIED CARD OF 'cayleylaw39.ResumeBytes'. -/
def resumeBytesCard : Claim7 := { stood := { row := resumeBytesRow, standIns := [], harness := (true, "5ee37a693ba65f0ed3858de8b5a212460f05b0ab64f0e0cd1f55ba72a96ad9d5"), looks := true }, kinds := [], alts := [], laidByText := true, laidKinds := [.data, .data, .data, .data, .sentinel, .sentinel, .pinned], laidTests := true, laidLooks := .later }
def ResumeBytesCardSaid : Prop := Claim7.holds Tryz.pinned (.plain (OpenSpec.ofChange resumeBytesSpec)) resumeBytesCard

/-- THE TIED CARD OF 'cayleylaw39.ResumeActs'. -/
def resumeActsCard : Claim7 := { stood := { row := resumeActsRow, standIns := [], harness := (true, "5ee37a693ba65f0ed3858de8b5a212460f05b0ab64f0e0cd1f55ba72a96ad9d5"), looks := true }, kinds := [], alts := [], laidByText := true, laidKinds := [.data, .data, .data, .data, .sentinel, .sentinel, .pinned], laidTests := true, laidLooks := .later }
def ResumeActsCardSaid : Prop := Claim7.holds Tryz.pinned (.plain (OpenSpec.ofChange resumeActsSpec)) resumeActsCard

/-- THE TIED CARD OF 'cayleylaw39.ResumeEnds'. -/
def resumeEndsCard : Claim7 := { stood := { row := resumeEndsRow, standIns := [], harness := (true, "5ee37a693ba65f0ed3858de8b5a212460f05b0ab64f0e0cd1f55ba72a96ad9d5"), looks := true }, kinds := [], alts := [], laidByText := true, laidKinds := [.data, .data, .data, .data, .sentinel, .sentinel, .pinned], laidTests := true, laidLooks := .later }
def ResumeEndsCardSaid : Prop := Claim7.holds Tryz.pinned (.plain (OpenSpec.ofChange resumeEndsSpec)) resumeEndsCard

/-- THE SECOND FORM's CARD OF 'cayleytop.TopResume'. -/
def topResumeUptoCard : Claim7 := { stood := { row := topResumeUptoRow, standIns := [], harness := (true, "5ee37a693ba65f0ed3858de8b5a212460f05b0ab64f0e0cd1f55ba72a96ad9d5"), looks := true }, kinds := [], alts := [], laidByText := true, laidKinds := [.data, .data, .data, .data, .sentinel, .sentinel, .pinned], laidTests := true, laidLooks := .later }
def TopResumeUptoCardSaid : Prop := Claim7.holds Tryz.pinned (.plain (OpenSpec.upto topResumeSpec)) topResumeUptoCard

/-- THE SECOND FORM's CARD OF 'cayleylaw39.ResumeLoads'. -/
def resumeLoadsUptoCard : Claim7 := { stood := { row := resumeLoadsUptoRow, standIns := [], harness := (true, "5ee37a693ba65f0ed3858de8b5a212460f05b0ab64f0e0cd1f55ba72a96ad9d5"), looks := true }, kinds := [], alts := [], laidByText := true, laidKinds := [.data, .data, .data, .data, .sentinel, .sentinel, .pinned], laidTests := true, laidLooks := .later }
def ResumeLoadsUptoCardSaid : Prop := Claim7.holds Tryz.pinned (.plain (OpenSpec.upto resumeLoadsSpec)) resumeLoadsUptoCard

/-- THE SECOND FORM's CARD OF 'cayleylaw39.ResumeBack'. -/
def resumeBackUptoCard : Claim7 := { stood := { row := resumeBackUptoRow, standIns := [], harness := (true, "5ee37a693ba65f0ed3858de8b5a212460f05b0ab64f0e0cd1f55ba72a96ad9d5"), looks := true }, kinds := [], alts := [], laidByText := true, laidKinds := [.data, .data, .data, .data, .sentinel, .sentinel, .pinned], laidTests := true, laidLooks := .later }
def ResumeBackUptoCardSaid : Prop := Claim7.holds Tryz.pinned (.plain (OpenSpec.upto resumeBackSpec)) resumeBackUptoCard

/-- THE SECOND FORM's CARD OF 'cayleylaw39.ResumeBytes'. -/
def resumeBytesUptoCard : Claim7 := { stood := { row := resumeBytesUptoRow, standIns := [], harness := (true, "5ee37a693ba65f0ed3858de8b5a212460f05b0ab64f0e0cd1f55ba72a96ad9d5"), looks := true }, kinds := [], alts := [], laidByText := true, laidKinds := [.data, .data, .data, .data, .sentinel, .sentinel, .pinned], laidTests := true, laidLooks := .later }
def ResumeBytesUptoCardSaid : Prop := Claim7.holds Tryz.pinned (.plain (OpenSpec.upto resumeBytesSpec)) resumeBytesUptoCard

/-- THE SECOND FORM's CARD OF 'cayleylaw39.ResumeActs'. -/
def resumeActsUptoCard : Claim7 := { stood := { row := resumeActsUptoRow, standIns := [], harness := (true, "5ee37a693ba65f0ed3858de8b5a212460f05b0ab64f0e0cd1f55ba72a96ad9d5"), looks := true }, kinds := [], alts := [], laidByText := true, laidKinds := [.data, .data, .data, .data, .sentinel, .sentinel, .pinned], laidTests := true, laidLooks := .later }
def ResumeActsUptoCardSaid : Prop := Claim7.holds Tryz.pinned (.plain (OpenSpec.upto resumeActsSpec)) resumeActsUptoCard

/-- THE SECOND FORM's CARD OF 'cayleylaw39.ResumeEnds'. -/
def resumeEndsUptoCard : Claim7 := { stood := { row := resumeEndsUptoRow, standIns := [], harness := (true, "5ee37a693ba65f0ed3858de8b5a212460f05b0ab64f0e0cd1f55ba72a96ad9d5"), looks := true }, kinds := [], alts := [], laidByText := true, laidKinds := [.data, .data, .data, .data, .sentinel, .sentinel, .pinned], laidTests := true, laidLooks := .later }
def ResumeEndsUptoCardSaid : Prop := Claim7.holds Tryz.pinned (.plain (OpenSpec.upto resumeEndsSpec)) resumeEndsUptoCard
end Rows
end Go.Proofs.YtepmdidomecebaaGreatDoor
