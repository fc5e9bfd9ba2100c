/-
  DERIVED. GIVEN WITH THE SEED: THE CARDS: each row of YtnnebonlolpehaaDoorRows.lean that lists a variable, with what it lists TIED to the program's text (the seventh form; the later family's looks); each row that meets fmt, with fmt's text TOLD by the authors' own Lean function (tested against real Go, not proved from fmt's source: count such statements apart). THE CARD IS WHAT COUNTS. Prove the row's statement (the work); the ties are given (YtnnebonlolpehaaDoorTie.lean); close each card by the builder's one call (the guide's Derived/Test/ToyasCard.lean, 'card_holds'). Laid BY PROGRAM, IN A SANDBOX (cutbox-door.mjs). By AI agents, Wed Nov 11 2026. No macro, syntax, notation, axiom, sorry.
-/
import Derived.Test.YtnnebonlolpehaaDoorRows
import GoSem.ClaimSeven
namespace Go.Proofs.YtnnebonlolpehaaDoor
namespace Rows

/-- THE TIED CARD OF 'cayleylaw02.WordUnique'. -/
def wordUniqueCard : Claim7 := { stood := { row := wordUniqueRow, standIns := [], harness := (true, "20d2df928ba7c1a08faabce915db1bbe6a11126489e72f06693d7436fdc7ba38"), looks := true }, kinds := [], alts := [], laidByText := true, laidKinds := [.data, .data, .data, .sentinel, .sentinel], laidTests := true, laidLooks := .later }
def WordUniqueCardSaid : Prop := Claim7.holds Tryd.pinned (.plain (OpenSpec.ofChange wordUniqueSpec)) wordUniqueCard

/-- THE TIED CARD OF 'cayleylaw02.WordCyclic'. -/
def wordCyclicCard : Claim7 := { stood := { row := wordCyclicRow, standIns := [], harness := (true, "20d2df928ba7c1a08faabce915db1bbe6a11126489e72f06693d7436fdc7ba38"), looks := true }, kinds := [], alts := [], laidByText := true, laidKinds := [.data, .data, .data, .sentinel, .sentinel], laidTests := true, laidLooks := .later }
def WordCyclicCardSaid : Prop := Claim7.holds Tryd.pinned (.plain (OpenSpec.ofChange wordCyclicSpec)) wordCyclicCard

/-- THE TIED CARD OF 'cayleylaw02.WordGroup'. -/
def wordGroupCard : Claim7 := { stood := { row := wordGroupRow, standIns := [], harness := (true, "20d2df928ba7c1a08faabce915db1bbe6a11126489e72f06693d7436fdc7ba38"), looks := true }, kinds := [], alts := [], laidByText := true, laidKinds := [.data, .data, .data, .sentinel, .sentinel], laidTests := true, laidLooks := .later }
def WordGroupCardSaid : Prop := Claim7.holds Tryd.pinned (.plain (OpenSpec.ofChange wordGroupSpec)) wordGroupCard

/-- THE TIED CARD OF 'cayleylaw02.WordBack'. -/
def wordBackCard : Claim7 := { stood := { row := wordBackRow, standIns := [], harness := (true, "20d2df928ba7c1a08faabce915db1bbe6a11126489e72f06693d7436fdc7ba38"), looks := true }, kinds := [], alts := [], laidByText := true, laidKinds := [.data, .data, .data, .sentinel, .sentinel], laidTests := true, laidLooks := .later }
def WordBackCardSaid : Prop := Claim7.holds Tryd.pinned (.plain (OpenSpec.ofChange wordBackSpec)) wordBackCard

/-- THE TIED CARD OF 'cayleylaw02.WordNames'. -/
def wordNamesCard : Claim7 := { stood := { row := wordNamesRow, standIns := [], harness := (true, "20d2df928ba7c1a08faabce915db1bbe6a11126489e72f06693d7436fdc7ba38"), looks := true }, kinds := [], alts := [], laidByText := true, laidKinds := [.data, .data, .data, .sentinel, .sentinel], laidTests := true, laidLooks := .later }
def WordNamesCardSaid : Prop := Claim7.holds Tryd.pinned (.plain (OpenSpec.ofChange wordNamesSpec)) wordNamesCard

/-- THE SECOND FORM's CARD OF 'cayleylaw02.WordUnique'. -/
def wordUniqueUptoCard : Claim7 := { stood := { row := wordUniqueUptoRow, standIns := [], harness := (true, "20d2df928ba7c1a08faabce915db1bbe6a11126489e72f06693d7436fdc7ba38"), looks := true }, kinds := [], alts := [], laidByText := true, laidKinds := [.data, .data, .data, .sentinel, .sentinel], laidTests := true, laidLooks := .later }
def WordUniqueUptoCardSaid : Prop := Claim7.holds Tryd.pinned (.plain (OpenSpec.upto wordUniqueSpec)) wordUniqueUptoCard

/-- THE SECOND FORM's CARD OF 'cayleylaw02.WordCyclic'. -/
def wordCyclicUptoCard : Claim7 := { stood := { row := wordCyclicUptoRow, standIns := [], harness := (true, "20d2df928ba7c1a08faabce915db1bbe6a11126489e72f06693d7436fdc7ba38"), looks := true }, kinds := [], alts := [], laidByText := true, laidKinds := [.data, .data, .data, .sentinel, .sentinel], laidTests := true, laidLooks := .later }
def WordCyclicUptoCardSaid : Prop := Claim7.holds Tryd.pinned (.plain (OpenSpec.upto wordCyclicSpec)) wordCyclicUptoCard

/-- THE SECOND FORM's CARD OF 'cayleylaw02.WordGroup'. -/
def wordGroupUptoCard : Claim7 := { stood := { row := wordGroupUptoRow, standIns := [], harness := (true, "20d2df928ba7c1a08faabce915db1bbe6a11126489e72f06693d7436fdc7ba38"), looks := true }, kinds := [], alts := [], laidByText := true, laidKinds := [.data, .data, .data, .sentinel, .sentinel], laidTests := true, laidLooks := .later }
def WordGroupUptoCardSaid : Prop := Claim7.holds Tryd.pinned (.plain (OpenSpec.upto wordGroupSpec)) wordGroupUptoCard

/-- THE SECOND FORM's CARD OF 'cayleylaw02.WordBack'. -/
def wordBackUptoCard : Claim7 := { stood := { row := wordBackUptoRow, standIns := [], harness := (true, "20d2df928ba7c1a08faabce915db1bbe6a11126489e72f06693d7436fdc7ba38"), looks := true }, kinds := [], alts := [], laidByText := true, laidKinds := [.data, .data, .data, .sentinel, .sentinel], laidTests := true, laidLooks := .later }
def WordBackUptoCardSaid : Prop := Claim7.holds Tryd.pinned (.plain (OpenSpec.upto wordBackSpec)) wordBackUptoCard

/-- THE SECOND FORM's CARD OF 'cayleylaw02.WordNames'. -/
def wordNamesUptoCard : Claim7 := { stood := { row := wordNamesUptoRow, standIns := [], harness := (true, "20d2df928ba7c1a08faabce915db1bbe6a11126489e72f06693d7436fdc7ba38"), looks := true }, kinds := [], alts := [], laidByText := true, laidKinds := [.data, .data, .data, .sentinel, .sentinel], laidTests := true, laidLooks := .later }
def WordNamesUptoCardSaid : Prop := Claim7.holds Tryd.pinned (.plain (OpenSpec.upto wordNamesSpec)) wordNamesUptoCard
end Rows
end Go.Proofs.YtnnebonlolpehaaDoor
