/-
  Four closed facts on the head of this seat's translation, asked once for all rows.
-/
import Derived.Test.YtmllkffdejojbaaDoorRows
import Derived.Test.YtmllkffdejojbaaDoorCards
import Derived.ProofKit
import Derived.SevenTiedAt
namespace Go.Proofs.YtmllkffdejojbaaDoor
set_option maxRecDepth 100000

theorem mayEnter : Tryd.pinned.checked.prog.mayEnter = true := by kernel_rfl
theorem liftsFinal : Tryd.pinned.checked.prog.liftsFinal = false := by kernel_rfl
theorem madeSo : Tryd.pinned.checked.prog.make = some Rows.targetEncodesRow.make := by kernel_rfl
theorem mainIs : Tryd.pinned.checked.prog.mainIs = some (Rows.targetEncodesCard.stood.harness.1, Rows.targetEncodesCard.stood.harness.2.toList) := by kernel_rfl
theorem looksOf : Rows.targetEncodesCard.stood.looks = Tryd.pinned.checked.prog.looks [] := by kernel_rfl

end Go.Proofs.YtmllkffdejojbaaDoor
