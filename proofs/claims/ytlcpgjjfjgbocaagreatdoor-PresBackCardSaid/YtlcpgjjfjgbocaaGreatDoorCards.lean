/-
  DERIVED. GIVEN WITH THE SEED: THE CARDS: each row of YtlcpgjjfjgbocaaGreatDoorRows.lean that lists a variable, with what it lists TIED to the program's text (the seventh form; the later family's looks); each row that meets fmt, with fmt's text TOLD by the authors' own Lean function (tested against real Go, not proved from fmt's source: count such statements apart). THE CARD IS WHAT COUNTS. Prove the row's statement (the work); the ties are given (YtlcpgjjfjgbocaaGreatDoorTie.lean); close each card by the builder's one call (the guide's Derived/Test/ToyasCard.lean, 'card_holds'). Laid BY PROGRAM, IN A SANDBOX (cutbox-door.mjs). By AI agents, Wed Nov 11 2026. No macro, syntax, notation, axiom, sorry.
-/
import Derived.Test.YtlcpgjjfjgbocaaGreatDoorRows
import GoSem.ClaimSeven
namespace Go.Proofs.YtlcpgjjfjgbocaaGreatDoor
namespace Rows

/-- THE TIED CARD OF 'cayleylaw17.PresBack'. -/
def presBackCard : Claim7 := { stood := { row := presBackRow, standIns := [], harness := (true, "a393128f1fb2e2be84d6a0bb35b8113f2d4d088839754bc8fba9a1b2557657e6"), looks := true }, kinds := [], alts := [], laidByText := true, laidKinds := [.data, .data, .data, .data, .sentinel, .sentinel, .pinned], laidTests := true, laidLooks := .later }
def PresBackCardSaid : Prop := Claim7.holds Tryz.pinned (.plain (OpenSpec.ofChange presBackSpec)) presBackCard

/-- THE SECOND FORM's CARD OF 'cayleylaw17.PresBack'. -/
def presBackUptoCard : Claim7 := { stood := { row := presBackUptoRow, standIns := [], harness := (true, "a393128f1fb2e2be84d6a0bb35b8113f2d4d088839754bc8fba9a1b2557657e6"), looks := true }, kinds := [], alts := [], laidByText := true, laidKinds := [.data, .data, .data, .data, .sentinel, .sentinel, .pinned], laidTests := true, laidLooks := .later }
def PresBackUptoCardSaid : Prop := Claim7.holds Tryz.pinned (.plain (OpenSpec.upto presBackSpec)) presBackUptoCard
end Rows
end Go.Proofs.YtlcpgjjfjgbocaaGreatDoor
