/-
  DefineTakes: the row's closed facts.
-/
import Derived.Test.YtmllkffdejojbaaDoorRows
import Derived.ProofKit
import Derived.SevenTiedAt
import Derived.Test.YtmllkffdejojbaaDoorHead
namespace Go.Proofs.YtmllkffdejojbaaDoor.defineTakes
open Go.ChangeShapes Go.WideShapes Go.ChangeAt Go.RowKit
set_option maxRecDepth 100000
set_option linter.unusedVariables false
set_option linter.unusedSimpArgs false

theorem clos : Tryd.prog.closure 12 = [12, 28, 31, 55, 75, 67, 56, 76, 99, 68, 91, 97, 96, 111, 116, 57, 69, 92, 86, 93, 87, 94, 53, 72, 48, 70, 43, 95, 58, 77, 100, 101, 102, 112, 117, 59, 25, 41, 47, 27, 50, 71, 39, 63, 88, 109, 110, 115, 121, 122, 64, 38, 54, 74, 73, 98, 44, 65, 89, 45, 42, 49, 26, 29, 30, 51, 52, 40, 66, 90, 32] := by kernel_rfl
theorem clos' : Tryd.pinned.checked.prog.closure 12 = [12, 28, 31, 55, 75, 67, 56, 76, 99, 68, 91, 97, 96, 111, 116, 57, 69, 92, 86, 93, 87, 94, 53, 72, 48, 70, 43, 95, 58, 77, 100, 101, 102, 112, 117, 59, 25, 41, 47, 27, 50, 71, 39, 63, 88, 109, 110, 115, 121, 122, 64, 38, 54, 74, 73, 98, 44, 65, 89, 45, 42, 49, 26, 29, 30, 51, 52, 40, 66, 90, 32] := clos
theorem closed : joinedFacts Tryd.pinned.checked.prog 12 Tryd.f12 (OpenSpec.ofChange Rows.defineTakesSpec).bare Rows.defineTakesRow = true := by
  unfold joinedFacts Program.recurses Program.inPlace Program.unfollowed Program.varsNamed
  rw [clos', mayEnter, liftsFinal, madeSo]
  kernel_rfl
theorem goes : false = Rows.defineTakesRow.goesBy Tryd.pinned.checked.prog := by
  unfold OpenClaim.goesBy Program.goesAt Program.goesFrom
  rw [show Tryd.pinned.checked.prog.funcNamed Rows.defineTakesRow.func = some 12 by kernel_rfl]
  simp only [Option.any_some]
  unfold Program.goes Program.unfollowed
  rw [clos']
  kernel_rfl

end Go.Proofs.YtmllkffdejojbaaDoor.defineTakes
