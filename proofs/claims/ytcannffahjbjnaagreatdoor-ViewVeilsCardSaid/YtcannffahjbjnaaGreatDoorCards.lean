/-
  DERIVED. GIVEN WITH THE SEED: THE CARDS: each row of YtcannffahjbjnaaGreatDoorRows.lean that lists a variable, with what it lists TIED to the program's text (the seventh form; the later family's looks); each row that meets fmt, with fmt's text TOLD by the authors' own Lean function (tested against real Go, not proved from fmt's source: count such statements apart). THE CARD IS WHAT COUNTS. Prove the row's statement (the work); the ties are given (YtcannffahjbjnaaGreatDoorTie.lean); close each card by the builder's one call (the guide's Derived/Test/ToyasCard.lean, 'card_holds'). Laid BY PROGRAM, IN A SANDBOX (cutbox-door.mjs). By AI agents, Wed Nov 11 2026. No macro, syntax, notation, axiom, sorry.
-/
import Derived.Test.YtcannffahjbjnaaGreatDoorRows
import GoSem.ClaimSeven
namespace Go.Proofs.YtcannffahjbjnaaGreatDoor
namespace Rows

/-- THE TIED CARD OF 'bowdlerlaw23.ViewPlain'. -/
def viewPlainCard : Claim7 := { stood := { row := viewPlainRow, standIns := [], harness := (true, "317f8146bce40032e31ddfca092928be3588fb7eadc96ad7ac7a0f4f0aff4fde"), looks := true }, kinds := [], alts := [], laidByText := true, laidKinds := [.data, .data, .data, .data, .listed, .data, .pinned], laidTests := true, laidLooks := .later }
def ViewPlainCardSaid : Prop := Claim7.holds Tryz.pinned (.plain (OpenSpec.ofChange viewPlainSpec)) viewPlainCard

/-- THE TIED CARD OF 'bowdlerlaw23.ViewVeils'. -/
def viewVeilsCard : Claim7 := { stood := { row := viewVeilsRow, standIns := [], harness := (true, "317f8146bce40032e31ddfca092928be3588fb7eadc96ad7ac7a0f4f0aff4fde"), looks := true }, kinds := [], alts := [], laidByText := true, laidKinds := [.data, .data, .data, .data, .listed, .data, .pinned], laidTests := true, laidLooks := .later }
def ViewVeilsCardSaid : Prop := Claim7.holds Tryz.pinned (.plain (OpenSpec.ofChange viewVeilsSpec)) viewVeilsCard

/-- THE SECOND FORM's CARD OF 'bowdlerlaw23.ViewPlain'. -/
def viewPlainUptoCard : Claim7 := { stood := { row := viewPlainUptoRow, standIns := [], harness := (true, "317f8146bce40032e31ddfca092928be3588fb7eadc96ad7ac7a0f4f0aff4fde"), looks := true }, kinds := [], alts := [], laidByText := true, laidKinds := [.data, .data, .data, .data, .listed, .data, .pinned], laidTests := true, laidLooks := .later }
def ViewPlainUptoCardSaid : Prop := Claim7.holds Tryz.pinned (.plain (OpenSpec.upto viewPlainSpec)) viewPlainUptoCard

/-- THE SECOND FORM's CARD OF 'bowdlerlaw23.ViewVeils'. -/
def viewVeilsUptoCard : Claim7 := { stood := { row := viewVeilsUptoRow, standIns := [], harness := (true, "317f8146bce40032e31ddfca092928be3588fb7eadc96ad7ac7a0f4f0aff4fde"), looks := true }, kinds := [], alts := [], laidByText := true, laidKinds := [.data, .data, .data, .data, .listed, .data, .pinned], laidTests := true, laidLooks := .later }
def ViewVeilsUptoCardSaid : Prop := Claim7.holds Tryz.pinned (.plain (OpenSpec.upto viewVeilsSpec)) viewVeilsUptoCard
end Rows
end Go.Proofs.YtcannffahjbjnaaGreatDoor
