/-
  DERIVED. GIVEN WITH THE SEED: THE CARDS: each row of YtnlmfoccdmkncaaGreatDoorRows.lean that lists a variable, with what it lists TIED to the program's text (the seventh form; the later family's looks); each row that meets fmt, with fmt's text TOLD by the authors' own Lean function (tested against real Go, not proved from fmt's source: count such statements apart). THE CARD IS WHAT COUNTS. Prove the row's statement (the work); the ties are given (YtnlmfoccdmkncaaGreatDoorTie.lean); close each card by the builder's one call (the guide's Derived/Test/ToyasCard.lean, 'card_holds'). Laid BY PROGRAM, IN A SANDBOX (cutbox-door.mjs). By AI agents, Wed Nov 11 2026. No macro, syntax, notation, axiom, sorry.
-/
import Derived.Test.YtnlmfoccdmkncaaGreatDoorRows
import GoSem.ClaimSeven
namespace Go.Proofs.YtnlmfoccdmkncaaGreatDoor
namespace Rows

/-- THE TIED CARD OF 'bowdlerlaw11.DefineTells'. -/
def defineTellsCard : Claim7 := { stood := { row := defineTellsRow, standIns := [], harness := (true, "0e9c1b56a6b0ceeba8be5ad8743ed2e036822a124d1cbf39b5b4f0aedb0d7999"), looks := false }, kinds := [], alts := [], laidByText := true, laidKinds := [.data, .listed, .data, .pinned], laidTests := true, laidLooks := .later }
def DefineTellsCardSaid : Prop := Claim7.holds Tryz.pinned (.plain (OpenSpec.ofChange defineTellsSpec)) defineTellsCard

/-- THE TIED CARD OF 'bowdlerlaw11.TablePlays'. -/
def tablePlaysCard : Claim7 := { stood := { row := tablePlaysRow, standIns := [], harness := (true, "0e9c1b56a6b0ceeba8be5ad8743ed2e036822a124d1cbf39b5b4f0aedb0d7999"), looks := false }, kinds := [], alts := [], laidByText := true, laidKinds := [.data, .listed, .data, .pinned], laidTests := true, laidLooks := .later }
def TablePlaysCardSaid : Prop := Claim7.holds Tryz.pinned (.plain (OpenSpec.ofChange tablePlaysSpec)) tablePlaysCard

/-- THE SECOND FORM's CARD OF 'bowdlerlaw11.DefineTells'. -/
def defineTellsUptoCard : Claim7 := { stood := { row := defineTellsUptoRow, standIns := [], harness := (true, "0e9c1b56a6b0ceeba8be5ad8743ed2e036822a124d1cbf39b5b4f0aedb0d7999"), looks := false }, kinds := [], alts := [], laidByText := true, laidKinds := [.data, .listed, .data, .pinned], laidTests := true, laidLooks := .later }
def DefineTellsUptoCardSaid : Prop := Claim7.holds Tryz.pinned (.plain (OpenSpec.upto defineTellsSpec)) defineTellsUptoCard

/-- THE SECOND FORM's CARD OF 'bowdlerlaw11.TablePlays'. -/
def tablePlaysUptoCard : Claim7 := { stood := { row := tablePlaysUptoRow, standIns := [], harness := (true, "0e9c1b56a6b0ceeba8be5ad8743ed2e036822a124d1cbf39b5b4f0aedb0d7999"), looks := false }, kinds := [], alts := [], laidByText := true, laidKinds := [.data, .listed, .data, .pinned], laidTests := true, laidLooks := .later }
def TablePlaysUptoCardSaid : Prop := Claim7.holds Tryz.pinned (.plain (OpenSpec.upto tablePlaysSpec)) tablePlaysUptoCard
end Rows
end Go.Proofs.YtnlmfoccdmkncaaGreatDoor
