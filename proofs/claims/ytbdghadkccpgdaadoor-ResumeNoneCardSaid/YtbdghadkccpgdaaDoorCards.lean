/-
  DERIVED. GIVEN WITH THE SEED: THE CARDS: each row of YtbdghadkccpgdaaDoorRows.lean that lists a variable, with what it lists TIED to the program's text (the seventh form; the later family's looks); each row that meets fmt, with fmt's text TOLD by the authors' own Lean function (tested against real Go, not proved from fmt's source: count such statements apart). THE CARD IS WHAT COUNTS. Prove the row's statement (the work); the ties are given (YtbdghadkccpgdaaDoorTie.lean); close each card by the builder's one call (the guide's Derived/Test/ToyasCard.lean, 'card_holds'). Laid BY PROGRAM, IN A SANDBOX (cutbox-door.mjs). By AI agents, Wed Nov 11 2026. No macro, syntax, notation, axiom, sorry.
-/
import Derived.Test.YtbdghadkccpgdaaDoorRows
import GoSem.ClaimSeven
namespace Go.Proofs.YtbdghadkccpgdaaDoor
namespace Rows

/-- THE TIED CARD OF 'cayleylaw39.ResumeKnown'. -/
def resumeKnownCard : Claim7 := { stood := { row := resumeKnownRow, standIns := [], harness := (true, "5a12e0a276c419e7710c77cd2cadd022ff2607fefcf395860885b9d2fb637fda"), looks := true }, kinds := [], alts := [], laidByText := true, laidKinds := [.data, .data, .data], laidTests := true, laidLooks := .later }
def ResumeKnownCardSaid : Prop := Claim7.holds Tryd.pinned (.plain (OpenSpec.ofChange resumeKnownSpec)) resumeKnownCard

/-- THE TIED CARD OF 'cayleylaw39.ResumeNone'. -/
def resumeNoneCard : Claim7 := { stood := { row := resumeNoneRow, standIns := [], harness := (true, "5a12e0a276c419e7710c77cd2cadd022ff2607fefcf395860885b9d2fb637fda"), looks := true }, kinds := [], alts := [], laidByText := true, laidKinds := [.data, .data, .data], laidTests := true, laidLooks := .later }
def ResumeNoneCardSaid : Prop := Claim7.holds Tryd.pinned (.plain (OpenSpec.ofChange resumeNoneSpec)) resumeNoneCard

/-- THE TIED CARD OF 'cayleylaw02.WordNames'. -/
def wordNamesCard : Claim7 := { stood := { row := wordNamesRow, standIns := [], harness := (true, "5a12e0a276c419e7710c77cd2cadd022ff2607fefcf395860885b9d2fb637fda"), looks := true }, kinds := [], alts := [], laidByText := true, laidKinds := [.data, .data, .data, .sentinel, .sentinel], laidTests := true, laidLooks := .later }
def WordNamesCardSaid : Prop := Claim7.holds Tryd.pinned (.plain (OpenSpec.ofChange wordNamesSpec)) wordNamesCard

/-- THE SECOND FORM's CARD OF 'cayleylaw39.ResumeKnown'. -/
def resumeKnownUptoCard : Claim7 := { stood := { row := resumeKnownUptoRow, standIns := [], harness := (true, "5a12e0a276c419e7710c77cd2cadd022ff2607fefcf395860885b9d2fb637fda"), looks := true }, kinds := [], alts := [], laidByText := true, laidKinds := [.data, .data, .data], laidTests := true, laidLooks := .later }
def ResumeKnownUptoCardSaid : Prop := Claim7.holds Tryd.pinned (.plain (OpenSpec.upto resumeKnownSpec)) resumeKnownUptoCard

/-- THE SECOND FORM's CARD OF 'cayleylaw39.ResumeNone'. -/
def resumeNoneUptoCard : Claim7 := { stood := { row := resumeNoneUptoRow, standIns := [], harness := (true, "5a12e0a276c419e7710c77cd2cadd022ff2607fefcf395860885b9d2fb637fda"), looks := true }, kinds := [], alts := [], laidByText := true, laidKinds := [.data, .data, .data], laidTests := true, laidLooks := .later }
def ResumeNoneUptoCardSaid : Prop := Claim7.holds Tryd.pinned (.plain (OpenSpec.upto resumeNoneSpec)) resumeNoneUptoCard

/-- THE SECOND FORM's CARD OF 'cayleylaw02.WordNames'. -/
def wordNamesUptoCard : Claim7 := { stood := { row := wordNamesUptoRow, standIns := [], harness := (true, "5a12e0a276c419e7710c77cd2cadd022ff2607fefcf395860885b9d2fb637fda"), looks := true }, kinds := [], alts := [], laidByText := true, laidKinds := [.data, .data, .data, .sentinel, .sentinel], laidTests := true, laidLooks := .later }
def WordNamesUptoCardSaid : Prop := Claim7.holds Tryd.pinned (.plain (OpenSpec.upto wordNamesSpec)) wordNamesUptoCard
end Rows
end Go.Proofs.YtbdghadkccpgdaaDoor
