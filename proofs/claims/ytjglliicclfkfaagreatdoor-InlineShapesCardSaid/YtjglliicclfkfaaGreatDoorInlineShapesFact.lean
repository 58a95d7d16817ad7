/-
  InlineShapes: the row's closed facts.
-/
import Derived.Test.YtjglliicclfkfaaGreatDoorRows
import Derived.ProofKit
import Derived.SevenTiedAt
import Derived.Test.YtjglliicclfkfaaGreatDoorHead
namespace Go.Proofs.YtjglliicclfkfaaGreatDoor.inlineShapes
open Go.ChangeShapes Go.WideShapes Go.ChangeAt Go.RowKit
set_option maxRecDepth 100000
set_option linter.unusedVariables false
set_option linter.unusedSimpArgs false

theorem clos : Tryz.prog.closure 4 = [4, 7, 8, 10, 12, 16, 30, 35, 67, 92, 40, 94, 41, 96, 45, 73, 98, 38, 60, 89, 113, 69, 70, 71, 36, 68, 31, 55, 76, 102, 101, 117, 37, 32, 56, 85, 57, 58, 86, 111, 123, 130, 59, 87, 112, 124, 125, 131, 132, 133, 88, 33, 61, 90, 114, 126, 127, 115, 83, 72, 99, 110, 122, 42, 44, 62, 91, 63, 93, 95, 97, 116, 128, 34, 64, 65, 66, 17, 39, 13, 19, 18, 20, 43, 21, 22, 23, 46, 74, 48, 75, 100, 47, 24, 25, 49, 77, 103, 80, 84, 107, 121, 129, 15, 50, 78, 104, 105, 118, 119, 120, 106, 79, 14, 26, 52, 81, 28, 53, 82, 108, 109, 27, 29, 54, 51, 9, 11] := by kernel_rfl
theorem clos' : Tryz.pinned.checked.prog.closure 4 = [4, 7, 8, 10, 12, 16, 30, 35, 67, 92, 40, 94, 41, 96, 45, 73, 98, 38, 60, 89, 113, 69, 70, 71, 36, 68, 31, 55, 76, 102, 101, 117, 37, 32, 56, 85, 57, 58, 86, 111, 123, 130, 59, 87, 112, 124, 125, 131, 132, 133, 88, 33, 61, 90, 114, 126, 127, 115, 83, 72, 99, 110, 122, 42, 44, 62, 91, 63, 93, 95, 97, 116, 128, 34, 64, 65, 66, 17, 39, 13, 19, 18, 20, 43, 21, 22, 23, 46, 74, 48, 75, 100, 47, 24, 25, 49, 77, 103, 80, 84, 107, 121, 129, 15, 50, 78, 104, 105, 118, 119, 120, 106, 79, 14, 26, 52, 81, 28, 53, 82, 108, 109, 27, 29, 54, 51, 9, 11] := clos
theorem closed : joinedFacts Tryz.pinned.checked.prog 4 Tryz.f4 (OpenSpec.ofChange Rows.inlineShapesSpec).bare Rows.inlineShapesRow = true := by
  unfold joinedFacts Program.recurses Program.inPlace Program.unfollowed Program.varsNamed
  rw [clos', mayEnter, liftsFinal, madeSo]
  kernel_rfl
theorem goes : false = Rows.inlineShapesRow.goesBy Tryz.pinned.checked.prog := by
  unfold OpenClaim.goesBy Program.goesAt Program.goesFrom
  rw [show Tryz.pinned.checked.prog.funcNamed Rows.inlineShapesRow.func = some 4 by kernel_rfl]
  simp only [Option.any_some]
  unfold Program.goes Program.unfollowed
  rw [clos']
  kernel_rfl

end Go.Proofs.YtjglliicclfkfaaGreatDoor.inlineShapes
