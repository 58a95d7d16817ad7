/-
  ViewSeen: the row's closed facts.
-/
import Derived.Test.YtkphljggkajlkaaGreatDoorRows
import Derived.ProofKit
import Derived.SevenTiedAt
import Derived.Test.YtkphljggkajlkaaGreatDoorHead
namespace Go.Proofs.YtkphljggkajlkaaGreatDoor.viewSeen
open Go.ChangeShapes Go.WideShapes Go.ChangeAt Go.RowKit
set_option maxRecDepth 100000
set_option linter.unusedVariables false
set_option linter.unusedSimpArgs false

theorem clos : Tryz.prog.closure 3 = [3, 5, 6, 12, 13, 42, 74, 16, 48, 76, 75, 94, 43, 77, 14, 44, 78, 45, 8, 22, 53, 84, 105, 54, 55, 85, 106, 56, 21, 52, 83, 102, 125, 126, 161, 103, 127, 104, 128, 162, 198, 160, 159, 163, 199, 20, 50, 80, 96, 97, 98, 121, 99, 122, 156, 101, 124, 157, 158, 79, 95, 120, 81, 100, 123, 82, 51, 23, 57, 86, 107, 129, 130, 164, 108, 131, 132, 133, 109, 24, 7, 15, 46, 47, 49, 17, 18, 19, 25, 59, 26, 87, 110, 113, 150, 88, 111, 134, 165, 166, 201, 200, 202, 167, 168, 203, 204, 220, 221, 58, 89, 112, 135, 169, 138, 173, 206, 222, 229, 230, 209, 224, 231, 188, 205, 170, 171, 172, 136, 137, 139, 174, 180, 141, 140, 175, 142, 143, 176, 207, 223, 144, 177, 145, 178, 208, 146, 179, 147, 148, 149, 181, 182, 183, 27, 60, 90, 61, 93, 119, 154, 190, 195, 191, 210, 189, 212, 211, 225, 196, 192, 213, 214, 226, 232, 233, 234, 235, 236, 237, 227, 193, 215, 228, 216, 194, 217, 218, 219, 155, 197, 91, 114, 115, 116, 151, 184, 185, 186, 152, 117, 153, 187, 92, 118, 9] := by kernel_rfl
theorem clos' : Tryz.pinned.checked.prog.closure 3 = [3, 5, 6, 12, 13, 42, 74, 16, 48, 76, 75, 94, 43, 77, 14, 44, 78, 45, 8, 22, 53, 84, 105, 54, 55, 85, 106, 56, 21, 52, 83, 102, 125, 126, 161, 103, 127, 104, 128, 162, 198, 160, 159, 163, 199, 20, 50, 80, 96, 97, 98, 121, 99, 122, 156, 101, 124, 157, 158, 79, 95, 120, 81, 100, 123, 82, 51, 23, 57, 86, 107, 129, 130, 164, 108, 131, 132, 133, 109, 24, 7, 15, 46, 47, 49, 17, 18, 19, 25, 59, 26, 87, 110, 113, 150, 88, 111, 134, 165, 166, 201, 200, 202, 167, 168, 203, 204, 220, 221, 58, 89, 112, 135, 169, 138, 173, 206, 222, 229, 230, 209, 224, 231, 188, 205, 170, 171, 172, 136, 137, 139, 174, 180, 141, 140, 175, 142, 143, 176, 207, 223, 144, 177, 145, 178, 208, 146, 179, 147, 148, 149, 181, 182, 183, 27, 60, 90, 61, 93, 119, 154, 190, 195, 191, 210, 189, 212, 211, 225, 196, 192, 213, 214, 226, 232, 233, 234, 235, 236, 237, 227, 193, 215, 228, 216, 194, 217, 218, 219, 155, 197, 91, 114, 115, 116, 151, 184, 185, 186, 152, 117, 153, 187, 92, 118, 9] := clos
theorem closed : joinedFacts Tryz.pinned.checked.prog 3 Tryz.f3 (OpenSpec.ofChange Rows.viewSeenSpec).bare Rows.viewSeenRow = true := by
  unfold joinedFacts Program.recurses Program.inPlace Program.unfollowed Program.varsNamed
  rw [clos', mayEnter, liftsFinal, madeSo]
  kernel_rfl
theorem goes : false = Rows.viewSeenRow.goesBy Tryz.pinned.checked.prog := by
  unfold OpenClaim.goesBy Program.goesAt Program.goesFrom
  rw [show Tryz.pinned.checked.prog.funcNamed Rows.viewSeenRow.func = some 3 by kernel_rfl]
  simp only [Option.any_some]
  unfold Program.goes Program.unfollowed
  rw [clos']
  kernel_rfl

end Go.Proofs.YtkphljggkajlkaaGreatDoor.viewSeen
