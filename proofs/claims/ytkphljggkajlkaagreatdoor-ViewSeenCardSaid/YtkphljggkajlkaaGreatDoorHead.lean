/-
  Four closed facts on the head of this seat's translation, asked once for all rows.
-/
import Derived.Test.YtkphljggkajlkaaGreatDoorRows
import Derived.Test.YtkphljggkajlkaaGreatDoorCards
import Derived.ProofKit
import Derived.SevenTiedAt
namespace Go.Proofs.YtkphljggkajlkaaGreatDoor
set_option maxRecDepth 100000

theorem mayEnter : Tryz.pinned.checked.prog.mayEnter = true := by kernel_rfl
theorem liftsFinal : Tryz.pinned.checked.prog.liftsFinal = false := by kernel_rfl
theorem madeSo : Tryz.pinned.checked.prog.make = some Rows.viewSeenRow.make := by kernel_rfl
theorem mainIs : Tryz.pinned.checked.prog.mainIs = some (Rows.viewSeenCard.stood.harness.1, Rows.viewSeenCard.stood.harness.2.toList) := by kernel_rfl
theorem looksOf : Rows.viewSeenCard.stood.looks = Tryz.pinned.checked.prog.looks [] := by kernel_rfl

end Go.Proofs.YtkphljggkajlkaaGreatDoor
