/-
  DERIVED. GIVEN WITH THE SEED: THE CARDS: each row of YtbgfpacjoneaeaaDoorRows.lean that lists a variable, with what it lists TIED to the program's text (the seventh form; the later family's looks); each row that meets fmt, with fmt's text TOLD by the authors' own Lean function (tested against real Go, not proved from fmt's source: count such statements apart). THE CARD IS WHAT COUNTS. Prove the row's statement (the work); the ties are given (YtbgfpacjoneaeaaDoorTie.lean); close each card by the builder's one call (the guide's Derived/Test/ToyasCard.lean, 'card_holds'). Laid BY PROGRAM, IN A SANDBOX (cutbox-door.mjs). By AI agents, Wed Nov 11 2026. No macro, syntax, notation, axiom, sorry.
-/
import Derived.Test.YtbgfpacjoneaeaaDoorRows
import GoSem.ClaimSeven
namespace Go.Proofs.YtbgfpacjoneaeaaDoor
namespace Rows

/-- THE TIED CARD OF 'cayleylaw01.PermGroup'. -/
def permGroupCard : Claim7 := { stood := { row := permGroupRow, standIns := [], harness := (true, "825442b4a41d9dbb53874b7f266077e8fa12f02128307cff6449fffcc6309b45"), looks := false }, kinds := [], alts := [], laidByText := true, laidKinds := [.data, .data, .data], laidTests := true, laidLooks := .later }
def PermGroupCardSaid : Prop := Claim7.holds Tryd.pinned (.plain (OpenSpec.ofChange permGroupSpec)) permGroupCard

/-- THE TIED CARD OF 'cayleylaw01.PermParses'. -/
def permParsesCard : Claim7 := { stood := { row := permParsesRow, standIns := [], harness := (true, "825442b4a41d9dbb53874b7f266077e8fa12f02128307cff6449fffcc6309b45"), looks := false }, kinds := [], alts := [], laidByText := true, laidKinds := [.data, .data, .data], laidTests := true, laidLooks := .later }
def PermParsesCardSaid : Prop := Claim7.holds Tryd.pinned (.plain (OpenSpec.ofChange permParsesSpec)) permParsesCard

/-- THE TIED CARD OF 'cayleylaw01.PermBack'. -/
def permBackCard : Claim7 := { stood := { row := permBackRow, standIns := [], harness := (true, "825442b4a41d9dbb53874b7f266077e8fa12f02128307cff6449fffcc6309b45"), looks := false }, kinds := [], alts := [], laidByText := true, laidKinds := [.data, .data, .data], laidTests := true, laidLooks := .later }
def PermBackCardSaid : Prop := Claim7.holds Tryd.pinned (.plain (OpenSpec.ofChange permBackSpec)) permBackCard

/-- THE TIED CARD OF 'cayleylaw01.PermCalls'. -/
def permCallsCard : Claim7 := { stood := { row := permCallsRow, standIns := [], harness := (true, "825442b4a41d9dbb53874b7f266077e8fa12f02128307cff6449fffcc6309b45"), looks := false }, kinds := [], alts := [], laidByText := true, laidKinds := [.data, .data, .data], laidTests := true, laidLooks := .later }
def PermCallsCardSaid : Prop := Claim7.holds Tryd.pinned (.plain (OpenSpec.ofChange permCallsSpec)) permCallsCard

/-- THE TIED CARD OF 'cayleylaw01.PermOrders'. -/
def permOrdersCard : Claim7 := { stood := { row := permOrdersRow, standIns := [], harness := (true, "825442b4a41d9dbb53874b7f266077e8fa12f02128307cff6449fffcc6309b45"), looks := false }, kinds := [], alts := [], laidByText := true, laidKinds := [.data, .data, .data, .data, .pinned], laidTests := true, laidLooks := .later }
def PermOrdersCardSaid : Prop := Claim7.holds Tryd.pinned (.plain (OpenSpec.ofChange permOrdersSpec)) permOrdersCard

/-- THE TIED CARD OF 'cayleylaw01.PermCycles'. -/
def permCyclesCard : Claim7 := { stood := { row := permCyclesRow, standIns := [], harness := (true, "825442b4a41d9dbb53874b7f266077e8fa12f02128307cff6449fffcc6309b45"), looks := false }, kinds := [], alts := [], laidByText := true, laidKinds := [.data, .data, .data], laidTests := true, laidLooks := .later }
def PermCyclesCardSaid : Prop := Claim7.holds Tryd.pinned (.plain (OpenSpec.ofChange permCyclesSpec)) permCyclesCard

/-- THE TIED CARD OF 'cayleylaw01.PermSigns'. -/
def permSignsCard : Claim7 := { stood := { row := permSignsRow, standIns := [], harness := (true, "825442b4a41d9dbb53874b7f266077e8fa12f02128307cff6449fffcc6309b45"), looks := false }, kinds := [], alts := [], laidByText := true, laidKinds := [.data, .data, .data], laidTests := true, laidLooks := .later }
def PermSignsCardSaid : Prop := Claim7.holds Tryd.pinned (.plain (OpenSpec.ofChange permSignsSpec)) permSignsCard

/-- THE TIED CARD OF 'cayleylaw01.PermNames'. -/
def permNamesCard : Claim7 := { stood := { row := permNamesRow, standIns := [], harness := (true, "825442b4a41d9dbb53874b7f266077e8fa12f02128307cff6449fffcc6309b45"), looks := false }, kinds := [], alts := [], laidByText := true, laidKinds := [.data, .data, .data, .data, .pinned], laidTests := true, laidLooks := .later }
def PermNamesCardSaid : Prop := Claim7.holds Tryd.pinned (.plain (OpenSpec.ofChange permNamesSpec)) permNamesCard

/-- THE SECOND FORM's CARD OF 'cayleylaw01.PermGroup'. -/
def permGroupUptoCard : Claim7 := { stood := { row := permGroupUptoRow, standIns := [], harness := (true, "825442b4a41d9dbb53874b7f266077e8fa12f02128307cff6449fffcc6309b45"), looks := false }, kinds := [], alts := [], laidByText := true, laidKinds := [.data, .data, .data], laidTests := true, laidLooks := .later }
def PermGroupUptoCardSaid : Prop := Claim7.holds Tryd.pinned (.plain (OpenSpec.upto permGroupSpec)) permGroupUptoCard

/-- THE SECOND FORM's CARD OF 'cayleylaw01.PermParses'. -/
def permParsesUptoCard : Claim7 := { stood := { row := permParsesUptoRow, standIns := [], harness := (true, "825442b4a41d9dbb53874b7f266077e8fa12f02128307cff6449fffcc6309b45"), looks := false }, kinds := [], alts := [], laidByText := true, laidKinds := [.data, .data, .data], laidTests := true, laidLooks := .later }
def PermParsesUptoCardSaid : Prop := Claim7.holds Tryd.pinned (.plain (OpenSpec.upto permParsesSpec)) permParsesUptoCard

/-- THE SECOND FORM's CARD OF 'cayleylaw01.PermBack'. -/
def permBackUptoCard : Claim7 := { stood := { row := permBackUptoRow, standIns := [], harness := (true, "825442b4a41d9dbb53874b7f266077e8fa12f02128307cff6449fffcc6309b45"), looks := false }, kinds := [], alts := [], laidByText := true, laidKinds := [.data, .data, .data], laidTests := true, laidLooks := .later }
def PermBackUptoCardSaid : Prop := Claim7.holds Tryd.pinned (.plain (OpenSpec.upto permBackSpec)) permBackUptoCard

/-- THE SECOND FORM's CARD OF 'cayleylaw01.PermCalls'. -/
def permCallsUptoCard : Claim7 := { stood := { row := permCallsUptoRow, standIns := [], harness := (true, "825442b4a41d9dbb53874b7f266077e8fa12f02128307cff6449fffcc6309b45"), looks := false }, kinds := [], alts := [], laidByText := true, laidKinds := [.data, .data, .data], laidTests := true, laidLooks := .later }
def PermCallsUptoCardSaid : Prop := Claim7.holds Tryd.pinned (.plain (OpenSpec.upto permCallsSpec)) permCallsUptoCard

/-- THE SECOND FORM's CARD OF 'cayleylaw01.PermOrders'. -/
def permOrdersUptoCard : Claim7 := { stood := { row := permOrdersUptoRow, standIns := [], harness := (true, "825442b4a41d9dbb53874b7f266077e8fa12f02128307cff6449fffcc6309b45"), looks := false }, kinds := [], alts := [], laidByText := true, laidKinds := [.data, .data, .data, .data, .pinned], laidTests := true, laidLooks := .later }
def PermOrdersUptoCardSaid : Prop := Claim7.holds Tryd.pinned (.plain (OpenSpec.upto permOrdersSpec)) permOrdersUptoCard

/-- THE SECOND FORM's CARD OF 'cayleylaw01.PermCycles'. -/
def permCyclesUptoCard : Claim7 := { stood := { row := permCyclesUptoRow, standIns := [], harness := (true, "825442b4a41d9dbb53874b7f266077e8fa12f02128307cff6449fffcc6309b45"), looks := false }, kinds := [], alts := [], laidByText := true, laidKinds := [.data, .data, .data], laidTests := true, laidLooks := .later }
def PermCyclesUptoCardSaid : Prop := Claim7.holds Tryd.pinned (.plain (OpenSpec.upto permCyclesSpec)) permCyclesUptoCard

/-- THE SECOND FORM's CARD OF 'cayleylaw01.PermSigns'. -/
def permSignsUptoCard : Claim7 := { stood := { row := permSignsUptoRow, standIns := [], harness := (true, "825442b4a41d9dbb53874b7f266077e8fa12f02128307cff6449fffcc6309b45"), looks := false }, kinds := [], alts := [], laidByText := true, laidKinds := [.data, .data, .data], laidTests := true, laidLooks := .later }
def PermSignsUptoCardSaid : Prop := Claim7.holds Tryd.pinned (.plain (OpenSpec.upto permSignsSpec)) permSignsUptoCard

/-- THE SECOND FORM's CARD OF 'cayleylaw01.PermNames'. -/
def permNamesUptoCard : Claim7 := { stood := { row := permNamesUptoRow, standIns := [], harness := (true, "825442b4a41d9dbb53874b7f266077e8fa12f02128307cff6449fffcc6309b45"), looks := false }, kinds := [], alts := [], laidByText := true, laidKinds := [.data, .data, .data, .data, .pinned], laidTests := true, laidLooks := .later }
def PermNamesUptoCardSaid : Prop := Claim7.holds Tryd.pinned (.plain (OpenSpec.upto permNamesSpec)) permNamesUptoCard
end Rows
end Go.Proofs.YtbgfpacjoneaeaaDoor
