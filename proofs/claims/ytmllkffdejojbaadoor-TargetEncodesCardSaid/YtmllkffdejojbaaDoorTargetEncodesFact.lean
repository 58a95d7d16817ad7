/-
  TargetEncodes: the row's closed facts.
-/
import Derived.Test.YtmllkffdejojbaaDoorRows
import Derived.ProofKit
namespace Go.Proofs.YtmllkffdejojbaaDoor.targetEncodes
open Go.ChangeShapes Go.WideShapes Go.ChangeAt Go.RowKit
set_option maxRecDepth 100000
set_option linter.unusedVariables false
set_option linter.unusedSimpArgs false

set_option maxRecDepth 100000
theorem closed : joinedFacts Tryd.pinned.checked.prog 4 Tryd.f4 (OpenSpec.ofChange Rows.targetEncodesSpec).bare Rows.targetEncodesRow = true := by kernel_rfl

end Go.Proofs.YtmllkffdejojbaaDoor.targetEncodes
