/-
  DERIVED. GIVEN WITH THE SEED: THE CARDS: each row of YtjmhmflganfoaabGreatDoorRows.lean that lists a variable, with what it lists TIED to the program's text (the seventh form; the later family's looks); each row that meets fmt, with fmt's text TOLD by the authors' own Lean function (tested against real Go, not proved from fmt's source: count such statements apart). THE CARD IS WHAT COUNTS. Prove the row's statement (the work); the ties are given (YtjmhmflganfoaabGreatDoorTie.lean); close each card by the builder's one call (the guide's Derived/Test/ToyasCard.lean, 'card_holds'). Laid BY PROGRAM, IN A SANDBOX (cutbox-door.mjs). By AI agents, Wed Nov 11 2026. No macro, syntax, notation, axiom, sorry.
-/
import Derived.Test.YtjmhmflganfoaabGreatDoorRows
import GoSem.ClaimSeven
namespace Go.Proofs.YtjmhmflganfoaabGreatDoor
namespace Rows

/-- THE TIED CARD OF 'cayleylaw17.PresSatisfies'. -/
def presSatisfiesCard : Claim7 := { stood := { row := presSatisfiesRow, standIns := [], harness := (true, "55cb989bcc866eb81010eb455998f9a5daf448be4406b42ebec26ef62350b5a7"), looks := true }, kinds := [], alts := [], laidByText := true, laidKinds := [.data, .data, .data, .data, .sentinel, .sentinel, .pinned], laidTests := true, laidLooks := .later }
def PresSatisfiesCardSaid : Prop := Claim7.holds Tryz.pinned (.plain (OpenSpec.ofChange presSatisfiesSpec)) presSatisfiesCard

/-- THE TIED CARD OF 'cayleylaw17.PresBack'. -/
def presBackCard : Claim7 := { stood := { row := presBackRow, standIns := [], harness := (true, "55cb989bcc866eb81010eb455998f9a5daf448be4406b42ebec26ef62350b5a7"), looks := true }, kinds := [], alts := [], laidByText := true, laidKinds := [.data, .data, .data, .data, .sentinel, .sentinel, .pinned], laidTests := true, laidLooks := .later }
def PresBackCardSaid : Prop := Claim7.holds Tryz.pinned (.plain (OpenSpec.ofChange presBackSpec)) presBackCard

/-- THE TIED CARD OF 'cayleylaw17.PresReflections'. -/
def presReflectionsCard : Claim7 := { stood := { row := presReflectionsRow, standIns := [], harness := (true, "55cb989bcc866eb81010eb455998f9a5daf448be4406b42ebec26ef62350b5a7"), looks := true }, kinds := [], alts := [], laidByText := true, laidKinds := [.data, .data, .data, .data, .sentinel, .sentinel, .pinned], laidTests := true, laidLooks := .later }
def PresReflectionsCardSaid : Prop := Claim7.holds Tryz.pinned (.plain (OpenSpec.ofChange presReflectionsSpec)) presReflectionsCard

/-- THE SECOND FORM's CARD OF 'cayleylaw17.PresSatisfies'. -/
def presSatisfiesUptoCard : Claim7 := { stood := { row := presSatisfiesUptoRow, standIns := [], harness := (true, "55cb989bcc866eb81010eb455998f9a5daf448be4406b42ebec26ef62350b5a7"), looks := true }, kinds := [], alts := [], laidByText := true, laidKinds := [.data, .data, .data, .data, .sentinel, .sentinel, .pinned], laidTests := true, laidLooks := .later }
def PresSatisfiesUptoCardSaid : Prop := Claim7.holds Tryz.pinned (.plain (OpenSpec.upto presSatisfiesSpec)) presSatisfiesUptoCard

/-- THE SECOND FORM's CARD OF 'cayleylaw17.PresBack'. -/
def presBackUptoCard : Claim7 := { stood := { row := presBackUptoRow, standIns := [], harness := (true, "55cb989bcc866eb81010eb455998f9a5daf448be4406b42ebec26ef62350b5a7"), looks := true }, kinds := [], alts := [], laidByText := true, laidKinds := [.data, .data, .data, .data, .sentinel, .sentinel, .pinned], laidTests := true, laidLooks := .later }
def PresBackUptoCardSaid : Prop := Claim7.holds Tryz.pinned (.plain (OpenSpec.upto presBackSpec)) presBackUptoCard

/-- THE SECOND FORM's CARD OF 'cayleylaw17.PresReflections'. -/
def presReflectionsUptoCard : Claim7 := { stood := { row := presReflectionsUptoRow, standIns := [], harness := (true, "55cb989bcc866eb81010eb455998f9a5daf448be4406b42ebec26ef62350b5a7"), looks := true }, kinds := [], alts := [], laidByText := true, laidKinds := [.data, .data, .data, .data, .sentinel, .sentinel, .pinned], laidTests := true, laidLooks := .later }
def PresReflectionsUptoCardSaid : Prop := Claim7.holds Tryz.pinned (.plain (OpenSpec.upto presReflectionsSpec)) presReflectionsUptoCard
end Rows
end Go.Proofs.YtjmhmflganfoaabGreatDoor
