/-
  DERIVED. GIVEN WITH THE SEED: THE CARDS: each row of YtoccgnleiekomaaGreatDoorRows.lean that lists a variable, with what it lists TIED to the program's text (the seventh form; the later family's looks); each row that meets fmt, with fmt's text TOLD by the authors' own Lean function (tested against real Go, not proved from fmt's source: count such statements apart). THE CARD IS WHAT COUNTS. Prove the row's statement (the work); the ties are given (YtoccgnleiekomaaGreatDoorTie.lean); close each card by the builder's one call (the guide's Derived/Test/ToyasCard.lean, 'card_holds'). Laid BY PROGRAM, IN A SANDBOX (cutbox-door.mjs). By AI agents, Wed Nov 11 2026. No macro, syntax, notation, axiom, sorry.
-/
import Derived.Test.YtoccgnleiekomaaGreatDoorRows
import GoSem.ClaimSeven
namespace Go.Proofs.YtoccgnleiekomaaGreatDoor
namespace Rows

/-- THE TIED CARD OF 'bowdlerlaw23.ViewDivs'. -/
def viewDivsCard : Claim7 := { stood := { row := viewDivsRow, standIns := [], harness := (true, "cc37396bf27dd8abcf4b7c3759ca6dc4d1ce9d6f43c28368cc01ce25a4b6e6b4"), looks := true }, kinds := [], alts := [], laidByText := true, laidKinds := [.data, .data, .data, .data, .listed, .data, .pinned], laidTests := true, laidLooks := .later }
def ViewDivsCardSaid : Prop := Claim7.holds Tryz.pinned (.plain (OpenSpec.ofChange viewDivsSpec)) viewDivsCard

/-- THE TIED CARD OF 'bowdlerlaw23.ViewDefs'. -/
def viewDefsCard : Claim7 := { stood := { row := viewDefsRow, standIns := [], harness := (true, "cc37396bf27dd8abcf4b7c3759ca6dc4d1ce9d6f43c28368cc01ce25a4b6e6b4"), looks := true }, kinds := [], alts := [], laidByText := true, laidKinds := [.data, .data, .data, .data, .listed, .data, .pinned], laidTests := true, laidLooks := .later }
def ViewDefsCardSaid : Prop := Claim7.holds Tryz.pinned (.plain (OpenSpec.ofChange viewDefsSpec)) viewDefsCard

/-- THE TIED CARD OF 'bowdlerlaw23.ViewMore'. -/
def viewMoreCard : Claim7 := { stood := { row := viewMoreRow, standIns := [], harness := (true, "cc37396bf27dd8abcf4b7c3759ca6dc4d1ce9d6f43c28368cc01ce25a4b6e6b4"), looks := true }, kinds := [], alts := [], laidByText := true, laidKinds := [.data, .data, .data, .data, .listed, .data, .pinned], laidTests := true, laidLooks := .later }
def ViewMoreCardSaid : Prop := Claim7.holds Tryz.pinned (.plain (OpenSpec.ofChange viewMoreSpec)) viewMoreCard

/-- THE TIED CARD OF 'bowdlerlaw23.ViewRestores'. -/
def viewRestoresCard : Claim7 := { stood := { row := viewRestoresRow, standIns := [], harness := (true, "cc37396bf27dd8abcf4b7c3759ca6dc4d1ce9d6f43c28368cc01ce25a4b6e6b4"), looks := true }, kinds := [], alts := [], laidByText := true, laidKinds := [.data, .data, .data, .data, .listed, .data, .pinned], laidTests := true, laidLooks := .later }
def ViewRestoresCardSaid : Prop := Claim7.holds Tryz.pinned (.plain (OpenSpec.ofChange viewRestoresSpec)) viewRestoresCard

/-- THE TIED CARD OF 'bowdlerlaw23.ViewHeads'. -/
def viewHeadsCard : Claim7 := { stood := { row := viewHeadsRow, standIns := [], harness := (true, "cc37396bf27dd8abcf4b7c3759ca6dc4d1ce9d6f43c28368cc01ce25a4b6e6b4"), looks := true }, kinds := [], alts := [], laidByText := true, laidKinds := [.data, .data, .data, .data, .listed, .data, .pinned], laidTests := true, laidLooks := .later }
def ViewHeadsCardSaid : Prop := Claim7.holds Tryz.pinned (.plain (OpenSpec.ofChange viewHeadsSpec)) viewHeadsCard

/-- THE TIED CARD OF 'bowdlerlaw23.ViewFences'. -/
def viewFencesCard : Claim7 := { stood := { row := viewFencesRow, standIns := [], harness := (true, "cc37396bf27dd8abcf4b7c3759ca6dc4d1ce9d6f43c28368cc01ce25a4b6e6b4"), looks := true }, kinds := [], alts := [], laidByText := true, laidKinds := [.data, .data, .data, .data, .listed, .data, .pinned], laidTests := true, laidLooks := .later }
def ViewFencesCardSaid : Prop := Claim7.holds Tryz.pinned (.plain (OpenSpec.ofChange viewFencesSpec)) viewFencesCard

/-- THE TIED CARD OF 'bowdlerlaw23.ViewAtoms'. -/
def viewAtomsCard : Claim7 := { stood := { row := viewAtomsRow, standIns := [], harness := (true, "cc37396bf27dd8abcf4b7c3759ca6dc4d1ce9d6f43c28368cc01ce25a4b6e6b4"), looks := true }, kinds := [], alts := [], laidByText := true, laidKinds := [.data, .data, .data, .data, .listed, .data, .pinned], laidTests := true, laidLooks := .later }
def ViewAtomsCardSaid : Prop := Claim7.holds Tryz.pinned (.plain (OpenSpec.ofChange viewAtomsSpec)) viewAtomsCard

/-- THE SECOND FORM's CARD OF 'bowdlerlaw23.ViewDivs'. -/
def viewDivsUptoCard : Claim7 := { stood := { row := viewDivsUptoRow, standIns := [], harness := (true, "cc37396bf27dd8abcf4b7c3759ca6dc4d1ce9d6f43c28368cc01ce25a4b6e6b4"), looks := true }, kinds := [], alts := [], laidByText := true, laidKinds := [.data, .data, .data, .data, .listed, .data, .pinned], laidTests := true, laidLooks := .later }
def ViewDivsUptoCardSaid : Prop := Claim7.holds Tryz.pinned (.plain (OpenSpec.upto viewDivsSpec)) viewDivsUptoCard

/-- THE SECOND FORM's CARD OF 'bowdlerlaw23.ViewDefs'. -/
def viewDefsUptoCard : Claim7 := { stood := { row := viewDefsUptoRow, standIns := [], harness := (true, "cc37396bf27dd8abcf4b7c3759ca6dc4d1ce9d6f43c28368cc01ce25a4b6e6b4"), looks := true }, kinds := [], alts := [], laidByText := true, laidKinds := [.data, .data, .data, .data, .listed, .data, .pinned], laidTests := true, laidLooks := .later }
def ViewDefsUptoCardSaid : Prop := Claim7.holds Tryz.pinned (.plain (OpenSpec.upto viewDefsSpec)) viewDefsUptoCard

/-- THE SECOND FORM's CARD OF 'bowdlerlaw23.ViewMore'. -/
def viewMoreUptoCard : Claim7 := { stood := { row := viewMoreUptoRow, standIns := [], harness := (true, "cc37396bf27dd8abcf4b7c3759ca6dc4d1ce9d6f43c28368cc01ce25a4b6e6b4"), looks := true }, kinds := [], alts := [], laidByText := true, laidKinds := [.data, .data, .data, .data, .listed, .data, .pinned], laidTests := true, laidLooks := .later }
def ViewMoreUptoCardSaid : Prop := Claim7.holds Tryz.pinned (.plain (OpenSpec.upto viewMoreSpec)) viewMoreUptoCard

/-- THE SECOND FORM's CARD OF 'bowdlerlaw23.ViewRestores'. -/
def viewRestoresUptoCard : Claim7 := { stood := { row := viewRestoresUptoRow, standIns := [], harness := (true, "cc37396bf27dd8abcf4b7c3759ca6dc4d1ce9d6f43c28368cc01ce25a4b6e6b4"), looks := true }, kinds := [], alts := [], laidByText := true, laidKinds := [.data, .data, .data, .data, .listed, .data, .pinned], laidTests := true, laidLooks := .later }
def ViewRestoresUptoCardSaid : Prop := Claim7.holds Tryz.pinned (.plain (OpenSpec.upto viewRestoresSpec)) viewRestoresUptoCard

/-- THE SECOND FORM's CARD OF 'bowdlerlaw23.ViewHeads'. -/
def viewHeadsUptoCard : Claim7 := { stood := { row := viewHeadsUptoRow, standIns := [], harness := (true, "cc37396bf27dd8abcf4b7c3759ca6dc4d1ce9d6f43c28368cc01ce25a4b6e6b4"), looks := true }, kinds := [], alts := [], laidByText := true, laidKinds := [.data, .data, .data, .data, .listed, .data, .pinned], laidTests := true, laidLooks := .later }
def ViewHeadsUptoCardSaid : Prop := Claim7.holds Tryz.pinned (.plain (OpenSpec.upto viewHeadsSpec)) viewHeadsUptoCard

/-- THE SECOND FORM's CARD OF 'bowdlerlaw23.ViewFences'. -/
def viewFencesUptoCard : Claim7 := { stood := { row := viewFencesUptoRow, standIns := [], harness := (true, "cc37396bf27dd8abcf4b7c3759ca6dc4d1ce9d6f43c28368cc01ce25a4b6e6b4"), looks := true }, kinds := [], alts := [], laidByText := true, laidKinds := [.data, .data, .data, .data, .listed, .data, .pinned], laidTests := true, laidLooks := .later }
def ViewFencesUptoCardSaid : Prop := Claim7.holds Tryz.pinned (.plain (OpenSpec.upto viewFencesSpec)) viewFencesUptoCard

/-- THE SECOND FORM's CARD OF 'bowdlerlaw23.ViewAtoms'. -/
def viewAtomsUptoCard : Claim7 := { stood := { row := viewAtomsUptoRow, standIns := [], harness := (true, "cc37396bf27dd8abcf4b7c3759ca6dc4d1ce9d6f43c28368cc01ce25a4b6e6b4"), looks := true }, kinds := [], alts := [], laidByText := true, laidKinds := [.data, .data, .data, .data, .listed, .data, .pinned], laidTests := true, laidLooks := .later }
def ViewAtomsUptoCardSaid : Prop := Claim7.holds Tryz.pinned (.plain (OpenSpec.upto viewAtomsSpec)) viewAtomsUptoCard
end Rows
end Go.Proofs.YtoccgnleiekomaaGreatDoor
