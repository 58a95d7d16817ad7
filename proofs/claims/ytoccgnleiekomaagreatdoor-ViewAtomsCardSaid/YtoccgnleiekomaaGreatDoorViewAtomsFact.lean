/-
  ViewAtoms: the row's closed facts.
-/
import Derived.Test.YtoccgnleiekomaaGreatDoorRows
import Derived.ProofKit
import Derived.SevenTiedAt
import Derived.Test.YtoccgnleiekomaaGreatDoorHead
namespace Go.Proofs.YtoccgnleiekomaaGreatDoor.viewAtoms
open Go.ChangeShapes Go.WideShapes Go.ChangeAt Go.RowKit
set_option maxRecDepth 100000
set_option linter.unusedVariables false
set_option linter.unusedSimpArgs false

theorem clos : Tryz.prog.closure 9 = [9, 10, 11, 15, 16, 32, 52, 27, 49, 54, 53, 73, 33, 55, 17, 34, 56, 35, 12, 20, 39, 62, 84, 40, 41, 63, 85, 42, 19, 38, 61, 81, 111, 112, 154, 82, 113, 83, 114, 155, 185, 152, 151, 156, 186, 18, 36, 58, 75, 76, 77, 107, 78, 109, 153, 80, 105, 143, 150, 57, 74, 108, 59, 79, 110, 60, 37, 21, 43, 64, 86, 115, 116, 157, 87, 117, 118, 119, 88, 22, 13, 26, 47, 48, 50, 28, 29, 30, 23, 45, 24, 65, 89, 92, 136, 66, 90, 120, 158, 159, 188, 187, 189, 160, 161, 190, 191, 200, 201, 44, 67, 91, 121, 162, 124, 165, 193, 202, 208, 209, 196, 204, 210, 180, 192, 163, 146, 164, 122, 123, 125, 166, 172, 127, 126, 167, 128, 129, 168, 194, 203, 130, 169, 131, 170, 195, 132, 171, 133, 134, 135, 173, 174, 175, 25, 46, 68, 14, 31, 51, 71, 98, 103, 99, 140, 181, 198, 197, 205, 104, 100, 141, 142, 182, 199, 206, 207, 211, 212, 213, 183, 101, 144, 184, 145, 102, 147, 148, 149, 72, 106, 69, 93, 94, 95, 137, 176, 177, 178, 138, 96, 139, 179, 70, 97] := by kernel_rfl
theorem clos' : Tryz.pinned.checked.prog.closure 9 = [9, 10, 11, 15, 16, 32, 52, 27, 49, 54, 53, 73, 33, 55, 17, 34, 56, 35, 12, 20, 39, 62, 84, 40, 41, 63, 85, 42, 19, 38, 61, 81, 111, 112, 154, 82, 113, 83, 114, 155, 185, 152, 151, 156, 186, 18, 36, 58, 75, 76, 77, 107, 78, 109, 153, 80, 105, 143, 150, 57, 74, 108, 59, 79, 110, 60, 37, 21, 43, 64, 86, 115, 116, 157, 87, 117, 118, 119, 88, 22, 13, 26, 47, 48, 50, 28, 29, 30, 23, 45, 24, 65, 89, 92, 136, 66, 90, 120, 158, 159, 188, 187, 189, 160, 161, 190, 191, 200, 201, 44, 67, 91, 121, 162, 124, 165, 193, 202, 208, 209, 196, 204, 210, 180, 192, 163, 146, 164, 122, 123, 125, 166, 172, 127, 126, 167, 128, 129, 168, 194, 203, 130, 169, 131, 170, 195, 132, 171, 133, 134, 135, 173, 174, 175, 25, 46, 68, 14, 31, 51, 71, 98, 103, 99, 140, 181, 198, 197, 205, 104, 100, 141, 142, 182, 199, 206, 207, 211, 212, 213, 183, 101, 144, 184, 145, 102, 147, 148, 149, 72, 106, 69, 93, 94, 95, 137, 176, 177, 178, 138, 96, 139, 179, 70, 97] := clos
theorem closed : joinedFacts Tryz.pinned.checked.prog 9 Tryz.f9 (OpenSpec.ofChange Rows.viewAtomsSpec).bare Rows.viewAtomsRow = true := by
  unfold joinedFacts Program.recurses Program.inPlace Program.unfollowed Program.varsNamed
  rw [clos', mayEnter, liftsFinal, madeSo]
  kernel_rfl
theorem goes : false = Rows.viewAtomsRow.goesBy Tryz.pinned.checked.prog := by
  unfold OpenClaim.goesBy Program.goesAt Program.goesFrom
  rw [show Tryz.pinned.checked.prog.funcNamed Rows.viewAtomsRow.func = some 9 by kernel_rfl]
  simp only [Option.any_some]
  unfold Program.goes Program.unfollowed
  rw [clos']
  kernel_rfl

end Go.Proofs.YtoccgnleiekomaaGreatDoor.viewAtoms
