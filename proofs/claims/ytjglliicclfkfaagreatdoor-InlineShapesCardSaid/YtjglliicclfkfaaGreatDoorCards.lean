/-
  DERIVED. GIVEN WITH THE SEED: THE CARDS: each row of YtjglliicclfkfaaGreatDoorRows.lean that lists a variable, with what it lists TIED to the program's text (the seventh form; the later family's looks); each row that meets fmt, with fmt's text TOLD by the authors' own Lean function (tested against real Go, not proved from fmt's source: count such statements apart). THE CARD IS WHAT COUNTS. Prove the row's statement (the work); the ties are given (YtjglliicclfkfaaGreatDoorTie.lean); close each card by the builder's one call (the guide's Derived/Test/ToyasCard.lean, 'card_holds'). Laid BY PROGRAM, IN A SANDBOX (cutbox-door.mjs). By AI agents, Wed Nov 11 2026. No macro, syntax, notation, axiom, sorry.
-/
import Derived.Test.YtjglliicclfkfaaGreatDoorRows
import GoSem.ClaimSeven
namespace Go.Proofs.YtjglliicclfkfaaGreatDoor
namespace Rows

/-- THE TIED CARD OF 'bowdlerlaw15.InlineShut'. -/
def inlineShutCard : Claim7 := { stood := { row := inlineShutRow, standIns := [], harness := (true, "25acfb14e55558751e58ef0172cce2a93a34a53385e48fec6e4574f246ce7ebc"), looks := true }, kinds := [], alts := [], laidByText := true, laidKinds := [.data, .listed, .data, .pinned], laidTests := true, laidLooks := .later }
def InlineShutCardSaid : Prop := Claim7.holds Tryz.pinned (.plain (OpenSpec.ofChange inlineShutSpec)) inlineShutCard

/-- THE TIED CARD OF 'bowdlerlaw15.InlineShapes'. -/
def inlineShapesCard : Claim7 := { stood := { row := inlineShapesRow, standIns := [], harness := (true, "25acfb14e55558751e58ef0172cce2a93a34a53385e48fec6e4574f246ce7ebc"), looks := true }, kinds := [], alts := [], laidByText := true, laidKinds := [.data, .listed, .data, .pinned], laidTests := true, laidLooks := .later }
def InlineShapesCardSaid : Prop := Claim7.holds Tryz.pinned (.plain (OpenSpec.ofChange inlineShapesSpec)) inlineShapesCard

/-- THE TIED CARD OF 'bowdlerlaw15.InlineNames'. -/
def inlineNamesCard : Claim7 := { stood := { row := inlineNamesRow, standIns := [], harness := (true, "25acfb14e55558751e58ef0172cce2a93a34a53385e48fec6e4574f246ce7ebc"), looks := true }, kinds := [], alts := [], laidByText := true, laidKinds := [.data, .listed, .data, .pinned], laidTests := true, laidLooks := .later }
def InlineNamesCardSaid : Prop := Claim7.holds Tryz.pinned (.plain (OpenSpec.ofChange inlineNamesSpec)) inlineNamesCard

/-- THE TIED CARD OF 'bowdlerlaw15.InlineNotes'. -/
def inlineNotesCard : Claim7 := { stood := { row := inlineNotesRow, standIns := [], harness := (true, "25acfb14e55558751e58ef0172cce2a93a34a53385e48fec6e4574f246ce7ebc"), looks := true }, kinds := [], alts := [], laidByText := true, laidKinds := [.data, .listed, .data, .pinned], laidTests := true, laidLooks := .later }
def InlineNotesCardSaid : Prop := Claim7.holds Tryz.pinned (.plain (OpenSpec.ofChange inlineNotesSpec)) inlineNotesCard

/-- THE SECOND FORM's CARD OF 'bowdlerlaw15.InlineShut'. -/
def inlineShutUptoCard : Claim7 := { stood := { row := inlineShutUptoRow, standIns := [], harness := (true, "25acfb14e55558751e58ef0172cce2a93a34a53385e48fec6e4574f246ce7ebc"), looks := true }, kinds := [], alts := [], laidByText := true, laidKinds := [.data, .listed, .data, .pinned], laidTests := true, laidLooks := .later }
def InlineShutUptoCardSaid : Prop := Claim7.holds Tryz.pinned (.plain (OpenSpec.upto inlineShutSpec)) inlineShutUptoCard

/-- THE SECOND FORM's CARD OF 'bowdlerlaw15.InlineShapes'. -/
def inlineShapesUptoCard : Claim7 := { stood := { row := inlineShapesUptoRow, standIns := [], harness := (true, "25acfb14e55558751e58ef0172cce2a93a34a53385e48fec6e4574f246ce7ebc"), looks := true }, kinds := [], alts := [], laidByText := true, laidKinds := [.data, .listed, .data, .pinned], laidTests := true, laidLooks := .later }
def InlineShapesUptoCardSaid : Prop := Claim7.holds Tryz.pinned (.plain (OpenSpec.upto inlineShapesSpec)) inlineShapesUptoCard

/-- THE SECOND FORM's CARD OF 'bowdlerlaw15.InlineNames'. -/
def inlineNamesUptoCard : Claim7 := { stood := { row := inlineNamesUptoRow, standIns := [], harness := (true, "25acfb14e55558751e58ef0172cce2a93a34a53385e48fec6e4574f246ce7ebc"), looks := true }, kinds := [], alts := [], laidByText := true, laidKinds := [.data, .listed, .data, .pinned], laidTests := true, laidLooks := .later }
def InlineNamesUptoCardSaid : Prop := Claim7.holds Tryz.pinned (.plain (OpenSpec.upto inlineNamesSpec)) inlineNamesUptoCard

/-- THE SECOND FORM's CARD OF 'bowdlerlaw15.InlineNotes'. -/
def inlineNotesUptoCard : Claim7 := { stood := { row := inlineNotesUptoRow, standIns := [], harness := (true, "25acfb14e55558751e58ef0172cce2a93a34a53385e48fec6e4574f246ce7ebc"), looks := true }, kinds := [], alts := [], laidByText := true, laidKinds := [.data, .listed, .data, .pinned], laidTests := true, laidLooks := .later }
def InlineNotesUptoCardSaid : Prop := Claim7.holds Tryz.pinned (.plain (OpenSpec.upto inlineNotesSpec)) inlineNotesUptoCard
end Rows
end Go.Proofs.YtjglliicclfkfaaGreatDoor
