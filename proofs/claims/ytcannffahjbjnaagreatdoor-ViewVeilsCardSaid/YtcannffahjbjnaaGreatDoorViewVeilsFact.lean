/-
  ViewVeils: the row's closed facts.
-/
import Derived.Test.YtcannffahjbjnaaGreatDoorRows
import Derived.ProofKit
import Derived.SevenTiedAt
import Derived.Test.YtcannffahjbjnaaGreatDoorHead
namespace Go.Proofs.YtcannffahjbjnaaGreatDoor.viewVeils
open Go.ChangeShapes Go.WideShapes Go.ChangeAt Go.RowKit
set_option maxRecDepth 100000
set_option linter.unusedVariables false
set_option linter.unusedSimpArgs false

theorem clos : Tryz.prog.closure 4 = [4, 5, 6, 13, 14, 43, 82, 45, 86, 84, 83, 111, 44, 85, 15, 46, 87, 47, 7, 18, 51, 93, 122, 52, 53, 94, 123, 54, 17, 50, 92, 119, 147, 148, 180, 120, 149, 121, 150, 181, 214, 179, 178, 182, 215, 16, 48, 89, 113, 114, 115, 143, 116, 144, 175, 118, 146, 176, 177, 88, 112, 138, 90, 117, 145, 91, 49, 19, 55, 76, 104, 133, 134, 173, 105, 135, 136, 137, 106, 20, 21, 57, 97, 98, 99, 58, 59, 60, 22, 61, 23, 78, 107, 126, 167, 95, 124, 151, 183, 184, 217, 216, 218, 185, 186, 219, 220, 236, 237, 56, 96, 125, 152, 187, 155, 190, 222, 238, 245, 246, 225, 240, 247, 204, 221, 188, 189, 141, 153, 154, 156, 191, 42, 158, 157, 192, 159, 160, 193, 223, 239, 161, 194, 162, 195, 224, 163, 196, 164, 165, 166, 197, 198, 199, 24, 62, 100, 63, 103, 132, 171, 206, 211, 207, 226, 205, 228, 227, 241, 212, 208, 229, 230, 242, 248, 249, 250, 251, 252, 253, 243, 209, 231, 244, 232, 210, 233, 234, 235, 172, 213, 101, 127, 128, 129, 168, 200, 201, 202, 169, 130, 170, 203, 102, 131, 10, 39, 40, 77, 79, 41, 80, 108, 140, 139, 174, 109, 142, 110, 81, 8, 11, 12] := by kernel_rfl
theorem clos' : Tryz.pinned.checked.prog.closure 4 = [4, 5, 6, 13, 14, 43, 82, 45, 86, 84, 83, 111, 44, 85, 15, 46, 87, 47, 7, 18, 51, 93, 122, 52, 53, 94, 123, 54, 17, 50, 92, 119, 147, 148, 180, 120, 149, 121, 150, 181, 214, 179, 178, 182, 215, 16, 48, 89, 113, 114, 115, 143, 116, 144, 175, 118, 146, 176, 177, 88, 112, 138, 90, 117, 145, 91, 49, 19, 55, 76, 104, 133, 134, 173, 105, 135, 136, 137, 106, 20, 21, 57, 97, 98, 99, 58, 59, 60, 22, 61, 23, 78, 107, 126, 167, 95, 124, 151, 183, 184, 217, 216, 218, 185, 186, 219, 220, 236, 237, 56, 96, 125, 152, 187, 155, 190, 222, 238, 245, 246, 225, 240, 247, 204, 221, 188, 189, 141, 153, 154, 156, 191, 42, 158, 157, 192, 159, 160, 193, 223, 239, 161, 194, 162, 195, 224, 163, 196, 164, 165, 166, 197, 198, 199, 24, 62, 100, 63, 103, 132, 171, 206, 211, 207, 226, 205, 228, 227, 241, 212, 208, 229, 230, 242, 248, 249, 250, 251, 252, 253, 243, 209, 231, 244, 232, 210, 233, 234, 235, 172, 213, 101, 127, 128, 129, 168, 200, 201, 202, 169, 130, 170, 203, 102, 131, 10, 39, 40, 77, 79, 41, 80, 108, 140, 139, 174, 109, 142, 110, 81, 8, 11, 12] := clos
theorem closed : joinedFacts Tryz.pinned.checked.prog 4 Tryz.f4 (OpenSpec.ofChange Rows.viewVeilsSpec).bare Rows.viewVeilsRow = true := by
  unfold joinedFacts Program.recurses Program.inPlace Program.unfollowed Program.varsNamed
  rw [clos', mayEnter, liftsFinal, madeSo]
  kernel_rfl
theorem goes : false = Rows.viewVeilsRow.goesBy Tryz.pinned.checked.prog := by
  unfold OpenClaim.goesBy Program.goesAt Program.goesFrom
  rw [show Tryz.pinned.checked.prog.funcNamed Rows.viewVeilsRow.func = some 4 by kernel_rfl]
  simp only [Option.any_some]
  unfold Program.goes Program.unfollowed
  rw [clos']
  kernel_rfl

end Go.Proofs.YtcannffahjbjnaaGreatDoor.viewVeils
