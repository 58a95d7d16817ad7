/-
  InlineLinks: the row's closed facts.
-/
import Derived.Test.YtahljcbmckldhaaGreatDoorRows
import Derived.ProofKit
import Derived.SevenTiedAt
import Derived.Test.YtahljcbmckldhaaGreatDoorHead
namespace Go.Proofs.YtahljcbmckldhaaGreatDoor.inlineLinks
open Go.ChangeShapes Go.WideShapes Go.ChangeAt Go.RowKit
set_option maxRecDepth 100000
set_option linter.unusedVariables false
set_option linter.unusedSimpArgs false

theorem clos : Tryz.prog.closure 3 = [3, 10, 11, 13, 18, 23, 40, 45, 73, 96, 50, 98, 51, 100, 52, 78, 102, 48, 66, 93, 115, 75, 76, 77, 46, 74, 41, 14, 21, 38, 37, 61, 47, 42, 62, 89, 63, 64, 90, 113, 124, 131, 65, 91, 114, 125, 126, 132, 133, 134, 92, 43, 67, 94, 116, 127, 128, 117, 87, 22, 39, 112, 123, 15, 17, 68, 95, 69, 97, 99, 101, 118, 129, 44, 70, 71, 72, 24, 49, 19, 26, 25, 27, 16, 28, 29, 30, 53, 79, 55, 80, 103, 54, 31, 32, 56, 81, 104, 84, 88, 109, 122, 130, 105, 57, 82, 106, 107, 119, 120, 121, 108, 83, 20, 33, 58, 85, 35, 59, 86, 110, 111, 34, 36, 60, 12] := by kernel_rfl
theorem clos' : Tryz.pinned.checked.prog.closure 3 = [3, 10, 11, 13, 18, 23, 40, 45, 73, 96, 50, 98, 51, 100, 52, 78, 102, 48, 66, 93, 115, 75, 76, 77, 46, 74, 41, 14, 21, 38, 37, 61, 47, 42, 62, 89, 63, 64, 90, 113, 124, 131, 65, 91, 114, 125, 126, 132, 133, 134, 92, 43, 67, 94, 116, 127, 128, 117, 87, 22, 39, 112, 123, 15, 17, 68, 95, 69, 97, 99, 101, 118, 129, 44, 70, 71, 72, 24, 49, 19, 26, 25, 27, 16, 28, 29, 30, 53, 79, 55, 80, 103, 54, 31, 32, 56, 81, 104, 84, 88, 109, 122, 130, 105, 57, 82, 106, 107, 119, 120, 121, 108, 83, 20, 33, 58, 85, 35, 59, 86, 110, 111, 34, 36, 60, 12] := clos
theorem closed : joinedFacts Tryz.pinned.checked.prog 3 Tryz.f3 (OpenSpec.ofChange Rows.inlineLinksSpec).bare Rows.inlineLinksRow = true := by
  unfold joinedFacts Program.recurses Program.inPlace Program.unfollowed Program.varsNamed
  rw [clos', mayEnter, liftsFinal, madeSo]
  kernel_rfl
theorem goes : false = Rows.inlineLinksRow.goesBy Tryz.pinned.checked.prog := by
  unfold OpenClaim.goesBy Program.goesAt Program.goesFrom
  rw [show Tryz.pinned.checked.prog.funcNamed Rows.inlineLinksRow.func = some 3 by kernel_rfl]
  simp only [Option.any_some]
  unfold Program.goes Program.unfollowed
  rw [clos']
  kernel_rfl

end Go.Proofs.YtahljcbmckldhaaGreatDoor.inlineLinks
