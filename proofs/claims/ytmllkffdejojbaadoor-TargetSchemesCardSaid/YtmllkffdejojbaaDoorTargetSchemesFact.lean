/-
  TargetSchemes: the row's closed facts.
-/
import Derived.Test.YtmllkffdejojbaaDoorRows
import Derived.ProofKit
import Derived.SevenTiedAt
import Derived.Test.YtmllkffdejojbaaDoorHead
namespace Go.Proofs.YtmllkffdejojbaaDoor.targetSchemes
open Go.ChangeShapes Go.WideShapes Go.ChangeAt Go.RowKit
set_option maxRecDepth 100000
set_option linter.unusedVariables false
set_option linter.unusedSimpArgs false

theorem clos : Tryd.prog.closure 3 = [3, 21, 24, 41, 67, 46, 69, 92, 86, 93, 87, 94, 53, 72, 48, 70, 43, 68, 91, 95, 96, 97, 25, 47, 27, 50, 55, 75, 71, 56, 76, 99, 111, 116, 39, 63, 88, 109, 110, 115, 121, 122, 64, 38, 54, 74, 73, 98, 44, 65, 89, 45, 42, 49, 26, 22, 40, 66, 90, 23] := by kernel_rfl
theorem clos' : Tryd.pinned.checked.prog.closure 3 = [3, 21, 24, 41, 67, 46, 69, 92, 86, 93, 87, 94, 53, 72, 48, 70, 43, 68, 91, 95, 96, 97, 25, 47, 27, 50, 55, 75, 71, 56, 76, 99, 111, 116, 39, 63, 88, 109, 110, 115, 121, 122, 64, 38, 54, 74, 73, 98, 44, 65, 89, 45, 42, 49, 26, 22, 40, 66, 90, 23] := clos
theorem closed : joinedFacts Tryd.pinned.checked.prog 3 Tryd.f3 (OpenSpec.ofChange Rows.targetSchemesSpec).bare Rows.targetSchemesRow = true := by
  unfold joinedFacts Program.recurses Program.inPlace Program.unfollowed Program.varsNamed
  rw [clos', mayEnter, liftsFinal, madeSo]
  kernel_rfl
theorem goes : false = Rows.targetSchemesRow.goesBy Tryd.pinned.checked.prog := by
  unfold OpenClaim.goesBy Program.goesAt Program.goesFrom
  rw [show Tryd.pinned.checked.prog.funcNamed Rows.targetSchemesRow.func = some 3 by kernel_rfl]
  simp only [Option.any_some]
  unfold Program.goes Program.unfollowed
  rw [clos']
  kernel_rfl

end Go.Proofs.YtmllkffdejojbaaDoor.targetSchemes
