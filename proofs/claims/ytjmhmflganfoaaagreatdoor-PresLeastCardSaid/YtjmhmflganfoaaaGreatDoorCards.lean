/-
  DERIVED. GIVEN WITH THE SEED: THE CARDS: each row of YtjmhmflganfoaaaGreatDoorRows.lean that lists a variable, with what it lists TIED to the program's text (the seventh form; the later family's looks); each row that meets fmt, with fmt's text TOLD by the authors' own Lean function (tested against real Go, not proved from fmt's source: count such statements apart). THE CARD IS WHAT COUNTS. Prove the row's statement (the work); the ties are given (YtjmhmflganfoaaaGreatDoorTie.lean); close each card by the builder's one call (the guide's Derived/Test/ToyasCard.lean, 'card_holds'). Laid BY PROGRAM, IN A SANDBOX (cutbox-door.mjs). By AI agents, Wed Nov 11 2026. No macro, syntax, notation, axiom, sorry.
-/
import Derived.Test.YtjmhmflganfoaaaGreatDoorRows
import GoSem.ClaimSeven
namespace Go.Proofs.YtjmhmflganfoaaaGreatDoor
namespace Rows

/-- THE TIED CARD OF 'cayleylaw17.PresFamilies'. -/
def presFamiliesCard : Claim7 := { stood := { row := presFamiliesRow, standIns := [], harness := (true, "a80c2c6066f1769e9d6d51a193b6d810c7bd798fe344b6eeca5c37b221b94f88"), looks := true }, kinds := [], alts := [], laidByText := true, laidKinds := [.data, .data, .data, .data, .sentinel, .sentinel, .pinned], laidTests := true, laidLooks := .later }
def PresFamiliesCardSaid : Prop := Claim7.holds Tryz.pinned (.plain (OpenSpec.ofChange presFamiliesSpec)) presFamiliesCard

/-- THE TIED CARD OF 'cayleylaw17.PresChecks'. -/
def presChecksCard : Claim7 := { stood := { row := presChecksRow, standIns := [], harness := (true, "a80c2c6066f1769e9d6d51a193b6d810c7bd798fe344b6eeca5c37b221b94f88"), looks := true }, kinds := [], alts := [], laidByText := true, laidKinds := [.data, .data, .data, .data, .sentinel, .sentinel, .pinned], laidTests := true, laidLooks := .later }
def PresChecksCardSaid : Prop := Claim7.holds Tryz.pinned (.plain (OpenSpec.ofChange presChecksSpec)) presChecksCard

/-- THE TIED CARD OF 'cayleylaw17.PresSatisfied'. -/
def presSatisfiedCard : Claim7 := { stood := { row := presSatisfiedRow, standIns := [], harness := (true, "a80c2c6066f1769e9d6d51a193b6d810c7bd798fe344b6eeca5c37b221b94f88"), looks := true }, kinds := [], alts := [], laidByText := true, laidKinds := [.data, .data, .data, .data, .sentinel, .sentinel, .pinned], laidTests := true, laidLooks := .later }
def PresSatisfiedCardSaid : Prop := Claim7.holds Tryz.pinned (.plain (OpenSpec.ofChange presSatisfiedSpec)) presSatisfiedCard

/-- THE TIED CARD OF 'cayleylaw17.PresCleans'. -/
def presCleansCard : Claim7 := { stood := { row := presCleansRow, standIns := [], harness := (true, "a80c2c6066f1769e9d6d51a193b6d810c7bd798fe344b6eeca5c37b221b94f88"), looks := true }, kinds := [], alts := [], laidByText := true, laidKinds := [.data, .data, .data, .data, .sentinel, .sentinel, .pinned], laidTests := true, laidLooks := .later }
def PresCleansCardSaid : Prop := Claim7.holds Tryz.pinned (.plain (OpenSpec.ofChange presCleansSpec)) presCleansCard

/-- THE TIED CARD OF 'cayleylaw17.PresKnown'. -/
def presKnownCard : Claim7 := { stood := { row := presKnownRow, standIns := [], harness := (true, "a80c2c6066f1769e9d6d51a193b6d810c7bd798fe344b6eeca5c37b221b94f88"), looks := true }, kinds := [], alts := [], laidByText := true, laidKinds := [.data, .data, .data, .data, .sentinel, .sentinel, .pinned], laidTests := true, laidLooks := .later }
def PresKnownCardSaid : Prop := Claim7.holds Tryz.pinned (.plain (OpenSpec.ofChange presKnownSpec)) presKnownCard

/-- THE TIED CARD OF 'cayleylaw17.PresLeast'. -/
def presLeastCard : Claim7 := { stood := { row := presLeastRow, standIns := [], harness := (true, "a80c2c6066f1769e9d6d51a193b6d810c7bd798fe344b6eeca5c37b221b94f88"), looks := true }, kinds := [], alts := [], laidByText := true, laidKinds := [.data, .data, .data, .data, .sentinel, .sentinel, .pinned], laidTests := true, laidLooks := .later }
def PresLeastCardSaid : Prop := Claim7.holds Tryz.pinned (.plain (OpenSpec.ofChange presLeastSpec)) presLeastCard

/-- THE SECOND FORM's CARD OF 'cayleylaw17.PresFamilies'. -/
def presFamiliesUptoCard : Claim7 := { stood := { row := presFamiliesUptoRow, standIns := [], harness := (true, "a80c2c6066f1769e9d6d51a193b6d810c7bd798fe344b6eeca5c37b221b94f88"), looks := true }, kinds := [], alts := [], laidByText := true, laidKinds := [.data, .data, .data, .data, .sentinel, .sentinel, .pinned], laidTests := true, laidLooks := .later }
def PresFamiliesUptoCardSaid : Prop := Claim7.holds Tryz.pinned (.plain (OpenSpec.upto presFamiliesSpec)) presFamiliesUptoCard

/-- THE SECOND FORM's CARD OF 'cayleylaw17.PresChecks'. -/
def presChecksUptoCard : Claim7 := { stood := { row := presChecksUptoRow, standIns := [], harness := (true, "a80c2c6066f1769e9d6d51a193b6d810c7bd798fe344b6eeca5c37b221b94f88"), looks := true }, kinds := [], alts := [], laidByText := true, laidKinds := [.data, .data, .data, .data, .sentinel, .sentinel, .pinned], laidTests := true, laidLooks := .later }
def PresChecksUptoCardSaid : Prop := Claim7.holds Tryz.pinned (.plain (OpenSpec.upto presChecksSpec)) presChecksUptoCard

/-- THE SECOND FORM's CARD OF 'cayleylaw17.PresSatisfied'. -/
def presSatisfiedUptoCard : Claim7 := { stood := { row := presSatisfiedUptoRow, standIns := [], harness := (true, "a80c2c6066f1769e9d6d51a193b6d810c7bd798fe344b6eeca5c37b221b94f88"), looks := true }, kinds := [], alts := [], laidByText := true, laidKinds := [.data, .data, .data, .data, .sentinel, .sentinel, .pinned], laidTests := true, laidLooks := .later }
def PresSatisfiedUptoCardSaid : Prop := Claim7.holds Tryz.pinned (.plain (OpenSpec.upto presSatisfiedSpec)) presSatisfiedUptoCard

/-- THE SECOND FORM's CARD OF 'cayleylaw17.PresCleans'. -/
def presCleansUptoCard : Claim7 := { stood := { row := presCleansUptoRow, standIns := [], harness := (true, "a80c2c6066f1769e9d6d51a193b6d810c7bd798fe344b6eeca5c37b221b94f88"), looks := true }, kinds := [], alts := [], laidByText := true, laidKinds := [.data, .data, .data, .data, .sentinel, .sentinel, .pinned], laidTests := true, laidLooks := .later }
def PresCleansUptoCardSaid : Prop := Claim7.holds Tryz.pinned (.plain (OpenSpec.upto presCleansSpec)) presCleansUptoCard

/-- THE SECOND FORM's CARD OF 'cayleylaw17.PresKnown'. -/
def presKnownUptoCard : Claim7 := { stood := { row := presKnownUptoRow, standIns := [], harness := (true, "a80c2c6066f1769e9d6d51a193b6d810c7bd798fe344b6eeca5c37b221b94f88"), looks := true }, kinds := [], alts := [], laidByText := true, laidKinds := [.data, .data, .data, .data, .sentinel, .sentinel, .pinned], laidTests := true, laidLooks := .later }
def PresKnownUptoCardSaid : Prop := Claim7.holds Tryz.pinned (.plain (OpenSpec.upto presKnownSpec)) presKnownUptoCard

/-- THE SECOND FORM's CARD OF 'cayleylaw17.PresLeast'. -/
def presLeastUptoCard : Claim7 := { stood := { row := presLeastUptoRow, standIns := [], harness := (true, "a80c2c6066f1769e9d6d51a193b6d810c7bd798fe344b6eeca5c37b221b94f88"), looks := true }, kinds := [], alts := [], laidByText := true, laidKinds := [.data, .data, .data, .data, .sentinel, .sentinel, .pinned], laidTests := true, laidLooks := .later }
def PresLeastUptoCardSaid : Prop := Claim7.holds Tryz.pinned (.plain (OpenSpec.upto presLeastSpec)) presLeastUptoCard
end Rows
end Go.Proofs.YtjmhmflganfoaaaGreatDoor
