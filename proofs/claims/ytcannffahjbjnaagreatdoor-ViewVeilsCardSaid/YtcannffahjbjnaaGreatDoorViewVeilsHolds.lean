/-
  ViewVeils: the row holds.
-/
import Derived.Test.YtcannffahjbjnaaGreatDoorViewVeilsCon
import Derived.Test.YtcannffahjbjnaaGreatDoorViewVeilsFact
import Derived.ProofKit
namespace Go.Proofs.YtcannffahjbjnaaGreatDoor.viewVeils
open Go.ChangeShapes Go.WideShapes Go.ChangeAt Go.RowKit
set_option maxRecDepth 100000
set_option linter.unusedVariables false
set_option linter.unusedSimpArgs false

theorem said : Rows.ViewVeilsSaid :=
  OpenClaim.holds_of_cond 4 Tryz.f4 rfl rfl rfl rfl rfl rfl rfl ⟨rfl, rfl, rfl, rfl, rfl⟩ rfl rfl rfl rfl rfl (by kernel_rfl) Tryz.func4 closed
    (of_decide_eq_true (by kernel_rfl)) (by unfold Func.isWrapper; first | (rw [if_pos (by decide +kernel)]; kernel_rfl) | (rw [if_neg (by decide +kernel)]; exact ⟨rfl, rfl⟩))
    (fun os started H enc _ I => by rw [OpenClaim.pre_eq_preRow]; exact lifted os started H enc I)

end Go.Proofs.YtcannffahjbjnaaGreatDoor.viewVeils
