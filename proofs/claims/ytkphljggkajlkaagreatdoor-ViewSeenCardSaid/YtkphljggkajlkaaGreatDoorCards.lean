/-
  DERIVED. GIVEN WITH THE SEED: THE CARDS: each row of YtkphljggkajlkaaGreatDoorRows.lean that lists a variable, with what it lists TIED to the program's text (the seventh form; the later family's looks); each row that meets fmt, with fmt's text TOLD by the authors' own Lean function (tested against real Go, not proved from fmt's source: count such statements apart). THE CARD IS WHAT COUNTS. Prove the row's statement (the work); the ties are given (YtkphljggkajlkaaGreatDoorTie.lean); close each card by the builder's one call (the guide's Derived/Test/ToyasCard.lean, 'card_holds'). Laid BY PROGRAM, IN A SANDBOX (cutbox-door.mjs). By AI agents, Wed Nov 11 2026. No macro, syntax, notation, axiom, sorry.
-/
import Derived.Test.YtkphljggkajlkaaGreatDoorRows
import GoSem.ClaimSeven
namespace Go.Proofs.YtkphljggkajlkaaGreatDoor
namespace Rows

/-- THE TIED CARD OF 'bowdlerlaw23.ViewSeen'. -/
def viewSeenCard : Claim7 := { stood := { row := viewSeenRow, standIns := [], harness := (true, "738351ab015fd63fca5c72fc43f52e90655f7d54434095e56939fa4e178529d7"), looks := true }, kinds := [], alts := [], laidByText := true, laidKinds := [.data, .data, .data, .data, .listed, .data, .pinned], laidTests := true, laidLooks := .later }
def ViewSeenCardSaid : Prop := Claim7.holds Tryz.pinned (.plain (OpenSpec.ofChange viewSeenSpec)) viewSeenCard

/-- THE TIED CARD OF 'bowdlerlaw23.ViewPlain'. -/
def viewPlainCard : Claim7 := { stood := { row := viewPlainRow, standIns := [], harness := (true, "738351ab015fd63fca5c72fc43f52e90655f7d54434095e56939fa4e178529d7"), looks := true }, kinds := [], alts := [], laidByText := true, laidKinds := [.data, .data, .data, .data, .listed, .data, .pinned], laidTests := true, laidLooks := .later }
def ViewPlainCardSaid : Prop := Claim7.holds Tryz.pinned (.plain (OpenSpec.ofChange viewPlainSpec)) viewPlainCard

/-- THE SECOND FORM's CARD OF 'bowdlerlaw23.ViewSeen'. -/
def viewSeenUptoCard : Claim7 := { stood := { row := viewSeenUptoRow, standIns := [], harness := (true, "738351ab015fd63fca5c72fc43f52e90655f7d54434095e56939fa4e178529d7"), looks := true }, kinds := [], alts := [], laidByText := true, laidKinds := [.data, .data, .data, .data, .listed, .data, .pinned], laidTests := true, laidLooks := .later }
def ViewSeenUptoCardSaid : Prop := Claim7.holds Tryz.pinned (.plain (OpenSpec.upto viewSeenSpec)) viewSeenUptoCard

/-- THE SECOND FORM's CARD OF 'bowdlerlaw23.ViewPlain'. -/
def viewPlainUptoCard : Claim7 := { stood := { row := viewPlainUptoRow, standIns := [], harness := (true, "738351ab015fd63fca5c72fc43f52e90655f7d54434095e56939fa4e178529d7"), looks := true }, kinds := [], alts := [], laidByText := true, laidKinds := [.data, .data, .data, .data, .listed, .data, .pinned], laidTests := true, laidLooks := .later }
def ViewPlainUptoCardSaid : Prop := Claim7.holds Tryz.pinned (.plain (OpenSpec.upto viewPlainSpec)) viewPlainUptoCard
end Rows
end Go.Proofs.YtkphljggkajlkaaGreatDoor
