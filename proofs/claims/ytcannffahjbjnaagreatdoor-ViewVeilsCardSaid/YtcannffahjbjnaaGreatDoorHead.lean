/-
  Four closed facts on the head of this seat's translation, asked once for all rows.
-/
import Derived.Test.YtcannffahjbjnaaGreatDoorRows
import Derived.Test.YtcannffahjbjnaaGreatDoorCards
import Derived.ProofKit
import Derived.SevenTiedAt
namespace Go.Proofs.YtcannffahjbjnaaGreatDoor
set_option maxRecDepth 100000

theorem mayEnter : Tryz.pinned.checked.prog.mayEnter = true := by kernel_rfl
theorem liftsFinal : Tryz.pinned.checked.prog.liftsFinal = false := by kernel_rfl
theorem madeSo : Tryz.pinned.checked.prog.make = some Rows.viewPlainRow.make := by kernel_rfl
theorem mainIs : Tryz.pinned.checked.prog.mainIs = some (Rows.viewPlainCard.stood.harness.1, Rows.viewPlainCard.stood.harness.2.toList) := by kernel_rfl
theorem looksOf : Rows.viewPlainCard.stood.looks = Tryz.pinned.checked.prog.looks [] := by kernel_rfl

end Go.Proofs.YtcannffahjbjnaaGreatDoor
