/-
  DERIVED. GIVEN WITH THE SEED: THE CARDS: each row of YtaapcaedbmmnjaaGreatDoorRows.lean that lists a variable, with what it lists TIED to the program's text (the seventh form; the later family's looks); each row that meets fmt, with fmt's text TOLD by the authors' own Lean function (tested against real Go, not proved from fmt's source: count such statements apart). THE CARD IS WHAT COUNTS. Prove the row's statement (the work); the ties are given (YtaapcaedbmmnjaaGreatDoorTie.lean); close each card by the builder's one call (the guide's Derived/Test/ToyasCard.lean, 'card_holds'). Laid BY PROGRAM, IN A SANDBOX (cutbox-door.mjs). By AI agents, Wed Nov 11 2026. No macro, syntax, notation, axiom, sorry.
-/
import Derived.Test.YtaapcaedbmmnjaaGreatDoorRows
import GoSem.ClaimSeven
namespace Go.Proofs.YtaapcaedbmmnjaaGreatDoor
namespace Rows

/-- THE TIED CARD OF 'cayleylaw17.PresFamilies'. -/
def presFamiliesCard : Claim7 := { stood := { row := presFamiliesRow, standIns := [], harness := (true, "5e215262ab2b8b665142610fb577a172d650dc2eff7e88bf76ad101c4dfaf145"), looks := true }, kinds := [], alts := [], laidByText := true, laidKinds := [.data, .data, .data, .data, .sentinel, .sentinel, .pinned], laidTests := true, laidLooks := .later }
def PresFamiliesCardSaid : Prop := Claim7.holds Tryz.pinned (.plain (OpenSpec.ofChange presFamiliesSpec)) presFamiliesCard

/-- THE TIED CARD OF 'cayleylaw17.PresChecks'. -/
def presChecksCard : Claim7 := { stood := { row := presChecksRow, standIns := [], harness := (true, "5e215262ab2b8b665142610fb577a172d650dc2eff7e88bf76ad101c4dfaf145"), looks := true }, kinds := [], alts := [], laidByText := true, laidKinds := [.data, .data, .data, .data, .sentinel, .sentinel, .pinned], laidTests := true, laidLooks := .later }
def PresChecksCardSaid : Prop := Claim7.holds Tryz.pinned (.plain (OpenSpec.ofChange presChecksSpec)) presChecksCard

/-- THE TIED CARD OF 'cayleylaw17.PresSatisfied'. -/
def presSatisfiedCard : Claim7 := { stood := { row := presSatisfiedRow, standIns := [], harness := (true, "5e215262ab2b8b665142610fb577a172d650dc2eff7e88bf76ad101c4dfaf145"), looks := true }, kinds := [], alts := [], laidByText := true, laidKinds := [.data, .data, .data, .data, .sentinel, .sentinel, .pinned], laidTests := true, laidLooks := .later }
def PresSatisfiedCardSaid : Prop := Claim7.holds Tryz.pinned (.plain (OpenSpec.ofChange presSatisfiedSpec)) presSatisfiedCard

/-- THE TIED CARD OF 'cayleylaw17.PresCleans'. -/
def presCleansCard : Claim7 := { stood := { row := presCleansRow, standIns := [], harness := (true, "5e215262ab2b8b665142610fb577a172d650dc2eff7e88bf76ad101c4dfaf145"), looks := true }, kinds := [], alts := [], laidByText := true, laidKinds := [.data, .data, .data, .data, .sentinel, .sentinel, .pinned], laidTests := true, laidLooks := .later }
def PresCleansCardSaid : Prop := Claim7.holds Tryz.pinned (.plain (OpenSpec.ofChange presCleansSpec)) presCleansCard

/-- THE TIED CARD OF 'cayleylaw17.PresKnown'. -/
def presKnownCard : Claim7 := { stood := { row := presKnownRow, standIns := [], harness := (true, "5e215262ab2b8b665142610fb577a172d650dc2eff7e88bf76ad101c4dfaf145"), looks := true }, kinds := [], alts := [], laidByText := true, laidKinds := [.data, .data, .data, .data, .sentinel, .sentinel, .pinned], laidTests := true, laidLooks := .later }
def PresKnownCardSaid : Prop := Claim7.holds Tryz.pinned (.plain (OpenSpec.ofChange presKnownSpec)) presKnownCard

/-- THE TIED CARD OF 'cayleylaw17.PresLeast'. -/
def presLeastCard : Claim7 := { stood := { row := presLeastRow, standIns := [], harness := (true, "5e215262ab2b8b665142610fb577a172d650dc2eff7e88bf76ad101c4dfaf145"), looks := true }, kinds := [], alts := [], laidByText := true, laidKinds := [.data, .data, .data, .data, .sentinel, .sentinel, .pinned], laidTests := true, laidLooks := .later }
def PresLeastCardSaid : Prop := Claim7.holds Tryz.pinned (.plain (OpenSpec.ofChange presLeastSpec)) presLeastCard

/-- THE TIED CARD OF 'cayleylaw17.PresSatisfies'. -/
def presSatisfiesCard : Claim7 := { stood := { row := presSatisfiesRow, standIns := [], harness := (true, "5e215262ab2b8b665142610fb577a172d650dc2eff7e88bf76ad101c4dfaf145"), looks := true }, kinds := [], alts := [], laidByText := true, laidKinds := [.data, .data, .data, .data, .sentinel, .sentinel, .pinned], laidTests := true, laidLooks := .later }
def PresSatisfiesCardSaid : Prop := Claim7.holds Tryz.pinned (.plain (OpenSpec.ofChange presSatisfiesSpec)) presSatisfiesCard

/-- THE TIED CARD OF 'cayleylaw17.PresBack'. -/
def presBackCard : Claim7 := { stood := { row := presBackRow, standIns := [], harness := (true, "5e215262ab2b8b665142610fb577a172d650dc2eff7e88bf76ad101c4dfaf145"), looks := true }, kinds := [], alts := [], laidByText := true, laidKinds := [.data, .data, .data, .data, .sentinel, .sentinel, .pinned], laidTests := true, laidLooks := .later }
def PresBackCardSaid : Prop := Claim7.holds Tryz.pinned (.plain (OpenSpec.ofChange presBackSpec)) presBackCard

/-- THE TIED CARD OF 'cayleylaw17.PresReflections'. -/
def presReflectionsCard : Claim7 := { stood := { row := presReflectionsRow, standIns := [], harness := (true, "5e215262ab2b8b665142610fb577a172d650dc2eff7e88bf76ad101c4dfaf145"), looks := true }, kinds := [], alts := [], laidByText := true, laidKinds := [.data, .data, .data, .data, .sentinel, .sentinel, .pinned], laidTests := true, laidLooks := .later }
def PresReflectionsCardSaid : Prop := Claim7.holds Tryz.pinned (.plain (OpenSpec.ofChange presReflectionsSpec)) presReflectionsCard

/-- THE SECOND FORM's CARD OF 'cayleylaw17.PresFamilies'. -/
def presFamiliesUptoCard : Claim7 := { stood := { row := presFamiliesUptoRow, standIns := [], harness := (true, "5e215262ab2b8b665142610fb577a172d650dc2eff7e88bf76ad101c4dfaf145"), looks := true }, kinds := [], alts := [], laidByText := true, laidKinds := [.data, .data, .data, .data, .sentinel, .sentinel, .pinned], laidTests := true, laidLooks := .later }
def PresFamiliesUptoCardSaid : Prop := Claim7.holds Tryz.pinned (.plain (OpenSpec.upto presFamiliesSpec)) presFamiliesUptoCard

/-- THE SECOND FORM's CARD OF 'cayleylaw17.PresChecks'. -/
def presChecksUptoCard : Claim7 := { stood := { row := presChecksUptoRow, standIns := [], harness := (true, "5e215262ab2b8b665142610fb577a172d650dc2eff7e88bf76ad101c4dfaf145"), looks := true }, kinds := [], alts := [], laidByText := true, laidKinds := [.data, .data, .data, .data, .sentinel, .sentinel, .pinned], laidTests := true, laidLooks := .later }
def PresChecksUptoCardSaid : Prop := Claim7.holds Tryz.pinned (.plain (OpenSpec.upto presChecksSpec)) presChecksUptoCard

/-- THE SECOND FORM's CARD OF 'cayleylaw17.PresSatisfied'. -/
def presSatisfiedUptoCard : Claim7 := { stood := { row := presSatisfiedUptoRow, standIns := [], harness := (true, "5e215262ab2b8b665142610fb577a172d650dc2eff7e88bf76ad101c4dfaf145"), looks := true }, kinds := [], alts := [], laidByText := true, laidKinds := [.data, .data, .data, .data, .sentinel, .sentinel, .pinned], laidTests := true, laidLooks := .later }
def PresSatisfiedUptoCardSaid : Prop := Claim7.holds Tryz.pinned (.plain (OpenSpec.upto presSatisfiedSpec)) presSatisfiedUptoCard

/-- THE SECOND FORM's CARD OF 'cayleylaw17.PresCleans'. -/
def presCleansUptoCard : Claim7 := { stood := { row := presCleansUptoRow, standIns := [], harness := (true, "5e215262ab2b8b665142610fb577a172d650dc2eff7e88bf76ad101c4dfaf145"), looks := true }, kinds := [], alts := [], laidByText := true, laidKinds := [.data, .data, .data, .data, .sentinel, .sentinel, .pinned], laidTests := true, laidLooks := .later }
def PresCleansUptoCardSaid : Prop := Claim7.holds Tryz.pinned (.plain (OpenSpec.upto presCleansSpec)) presCleansUptoCard

/-- THE SECOND FORM's CARD OF 'cayleylaw17.PresKnown'. -/
def presKnownUptoCard : Claim7 := { stood := { row := presKnownUptoRow, standIns := [], harness := (true, "5e215262ab2b8b665142610fb577a172d650dc2eff7e88bf76ad101c4dfaf145"), looks := true }, kinds := [], alts := [], laidByText := true, laidKinds := [.data, .data, .data, .data, .sentinel, .sentinel, .pinned], laidTests := true, laidLooks := .later }
def PresKnownUptoCardSaid : Prop := Claim7.holds Tryz.pinned (.plain (OpenSpec.upto presKnownSpec)) presKnownUptoCard

/-- THE SECOND FORM's CARD OF 'cayleylaw17.PresLeast'. -/
def presLeastUptoCard : Claim7 := { stood := { row := presLeastUptoRow, standIns := [], harness := (true, "5e215262ab2b8b665142610fb577a172d650dc2eff7e88bf76ad101c4dfaf145"), looks := true }, kinds := [], alts := [], laidByText := true, laidKinds := [.data, .data, .data, .data, .sentinel, .sentinel, .pinned], laidTests := true, laidLooks := .later }
def PresLeastUptoCardSaid : Prop := Claim7.holds Tryz.pinned (.plain (OpenSpec.upto presLeastSpec)) presLeastUptoCard

/-- THE SECOND FORM's CARD OF 'cayleylaw17.PresSatisfies'. -/
def presSatisfiesUptoCard : Claim7 := { stood := { row := presSatisfiesUptoRow, standIns := [], harness := (true, "5e215262ab2b8b665142610fb577a172d650dc2eff7e88bf76ad101c4dfaf145"), looks := true }, kinds := [], alts := [], laidByText := true, laidKinds := [.data, .data, .data, .data, .sentinel, .sentinel, .pinned], laidTests := true, laidLooks := .later }
def PresSatisfiesUptoCardSaid : Prop := Claim7.holds Tryz.pinned (.plain (OpenSpec.upto presSatisfiesSpec)) presSatisfiesUptoCard

/-- THE SECOND FORM's CARD OF 'cayleylaw17.PresBack'. -/
def presBackUptoCard : Claim7 := { stood := { row := presBackUptoRow, standIns := [], harness := (true, "5e215262ab2b8b665142610fb577a172d650dc2eff7e88bf76ad101c4dfaf145"), looks := true }, kinds := [], alts := [], laidByText := true, laidKinds := [.data, .data, .data, .data, .sentinel, .sentinel, .pinned], laidTests := true, laidLooks := .later }
def PresBackUptoCardSaid : Prop := Claim7.holds Tryz.pinned (.plain (OpenSpec.upto presBackSpec)) presBackUptoCard

/-- THE SECOND FORM's CARD OF 'cayleylaw17.PresReflections'. -/
def presReflectionsUptoCard : Claim7 := { stood := { row := presReflectionsUptoRow, standIns := [], harness := (true, "5e215262ab2b8b665142610fb577a172d650dc2eff7e88bf76ad101c4dfaf145"), looks := true }, kinds := [], alts := [], laidByText := true, laidKinds := [.data, .data, .data, .data, .sentinel, .sentinel, .pinned], laidTests := true, laidLooks := .later }
def PresReflectionsUptoCardSaid : Prop := Claim7.holds Tryz.pinned (.plain (OpenSpec.upto presReflectionsSpec)) presReflectionsUptoCard
end Rows
end Go.Proofs.YtaapcaedbmmnjaaGreatDoor
