/-
  DefineTells: the row's closed facts.
-/
import Derived.Test.YtnlmfoccdmkncaaGreatDoorRows
import Derived.ProofKit
import Derived.SevenTiedAt
import Derived.Test.YtnlmfoccdmkncaaGreatDoorHead
namespace Go.Proofs.YtnlmfoccdmkncaaGreatDoor.defineTells
open Go.ChangeShapes Go.WideShapes Go.ChangeAt Go.RowKit
set_option maxRecDepth 100000
set_option linter.unusedVariables false
set_option linter.unusedSimpArgs false

theorem clos : Tryz.prog.closure 3 = [3, 5, 8, 23, 77, 108, 24, 78, 109, 125, 136, 102, 101, 129, 137, 25, 79, 110, 111, 112, 130, 113, 71, 104, 19, 67, 99, 100, 26, 80, 114, 115, 116, 131, 138, 27, 81, 117, 118, 119, 132, 139, 140, 141, 143, 144, 145, 146, 147, 148, 142, 133, 72, 106, 105, 127, 70, 103, 126, 74, 75, 120, 82, 6, 20, 68, 69, 73, 107, 128, 7, 21, 76, 22, 9, 28, 29, 30, 83, 121, 122, 134, 135, 31, 32, 10, 11, 12, 33, 13, 14, 34, 84, 35, 85, 36, 86, 37, 87, 38, 88, 123, 39, 40, 89, 41, 90, 42, 91, 43, 92, 124, 44, 93, 45, 94, 46, 95, 47, 96, 48, 97, 49, 98, 50, 51, 52, 53, 54, 55, 56, 57, 58, 59, 60, 61, 62, 63, 64, 65] := by kernel_rfl
theorem clos' : Tryz.pinned.checked.prog.closure 3 = [3, 5, 8, 23, 77, 108, 24, 78, 109, 125, 136, 102, 101, 129, 137, 25, 79, 110, 111, 112, 130, 113, 71, 104, 19, 67, 99, 100, 26, 80, 114, 115, 116, 131, 138, 27, 81, 117, 118, 119, 132, 139, 140, 141, 143, 144, 145, 146, 147, 148, 142, 133, 72, 106, 105, 127, 70, 103, 126, 74, 75, 120, 82, 6, 20, 68, 69, 73, 107, 128, 7, 21, 76, 22, 9, 28, 29, 30, 83, 121, 122, 134, 135, 31, 32, 10, 11, 12, 33, 13, 14, 34, 84, 35, 85, 36, 86, 37, 87, 38, 88, 123, 39, 40, 89, 41, 90, 42, 91, 43, 92, 124, 44, 93, 45, 94, 46, 95, 47, 96, 48, 97, 49, 98, 50, 51, 52, 53, 54, 55, 56, 57, 58, 59, 60, 61, 62, 63, 64, 65] := clos
theorem closed : joinedFacts Tryz.pinned.checked.prog 3 Tryz.f3 (OpenSpec.ofChange Rows.defineTellsSpec).bare Rows.defineTellsRow = true := by
  unfold joinedFacts Program.recurses Program.inPlace Program.unfollowed Program.varsNamed
  rw [clos', mayEnter, liftsFinal, madeSo]
  kernel_rfl
theorem goes : false = Rows.defineTellsRow.goesBy Tryz.pinned.checked.prog := by
  unfold OpenClaim.goesBy Program.goesAt Program.goesFrom
  rw [show Tryz.pinned.checked.prog.funcNamed Rows.defineTellsRow.func = some 3 by kernel_rfl]
  simp only [Option.any_some]
  unfold Program.goes Program.unfollowed
  rw [clos']
  kernel_rfl

end Go.Proofs.YtnlmfoccdmkncaaGreatDoor.defineTells
