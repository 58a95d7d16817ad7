/-
  TokenCodes: the row's closed facts.
-/
import Derived.Test.YtmllkffdejojbaaDoorRows
import Derived.ProofKit
import Derived.SevenTiedAt
import Derived.Test.YtmllkffdejojbaaDoorHead
namespace Go.Proofs.YtmllkffdejojbaaDoor.tokenCodes
open Go.ChangeShapes Go.WideShapes Go.ChangeAt Go.RowKit
set_option maxRecDepth 100000
set_option linter.unusedVariables false
set_option linter.unusedSimpArgs false

theorem clos : Tryd.prog.closure 14 = [14, 33, 34, 37, 61, 79, 83, 69, 92, 86, 93, 87, 94, 53, 72, 48, 70, 43, 68, 91, 95, 96, 97, 41, 67, 80, 38, 54, 74, 73, 98, 84, 50, 55, 75, 71, 56, 76, 99, 111, 116, 39, 63, 88, 109, 110, 115, 121, 122, 64, 81, 103, 113, 118, 123, 124, 120, 119, 65, 89, 125, 126, 45, 42, 104, 114, 105, 100, 101, 102, 112, 117, 82, 106, 107, 108, 62, 85, 35, 36, 60, 78] := by kernel_rfl
theorem clos' : Tryd.pinned.checked.prog.closure 14 = [14, 33, 34, 37, 61, 79, 83, 69, 92, 86, 93, 87, 94, 53, 72, 48, 70, 43, 68, 91, 95, 96, 97, 41, 67, 80, 38, 54, 74, 73, 98, 84, 50, 55, 75, 71, 56, 76, 99, 111, 116, 39, 63, 88, 109, 110, 115, 121, 122, 64, 81, 103, 113, 118, 123, 124, 120, 119, 65, 89, 125, 126, 45, 42, 104, 114, 105, 100, 101, 102, 112, 117, 82, 106, 107, 108, 62, 85, 35, 36, 60, 78] := clos
theorem closed : joinedFacts Tryd.pinned.checked.prog 14 Tryd.f14 (OpenSpec.ofChange Rows.tokenCodesSpec).bare Rows.tokenCodesRow = true := by
  unfold joinedFacts Program.recurses Program.inPlace Program.unfollowed Program.varsNamed
  rw [clos', mayEnter, liftsFinal, madeSo]
  kernel_rfl
theorem goes : false = Rows.tokenCodesRow.goesBy Tryd.pinned.checked.prog := by
  unfold OpenClaim.goesBy Program.goesAt Program.goesFrom
  rw [show Tryd.pinned.checked.prog.funcNamed Rows.tokenCodesRow.func = some 14 by kernel_rfl]
  simp only [Option.any_some]
  unfold Program.goes Program.unfollowed
  rw [clos']
  kernel_rfl

end Go.Proofs.YtmllkffdejojbaaDoor.tokenCodes
