/-
  ViewPlain: the row holds.
-/
import Derived.Test.YtcannffahjbjnaaGreatDoorViewPlainCon
import Derived.Test.YtcannffahjbjnaaGreatDoorViewPlainFact
import Derived.ProofKit
namespace Go.Proofs.YtcannffahjbjnaaGreatDoor.viewPlain
open Go.ChangeShapes Go.WideShapes Go.ChangeAt Go.RowKit
set_option maxRecDepth 100000
set_option linter.unusedVariables false
set_option linter.unusedSimpArgs false

theorem said : Rows.ViewPlainSaid :=
  OpenClaim.holds_of_cond 3 Tryz.f3 rfl rfl rfl rfl rfl rfl rfl ⟨rfl, rfl, rfl, rfl, rfl⟩ rfl rfl rfl rfl rfl (by kernel_rfl) Tryz.func3 closed
    (of_decide_eq_true (by kernel_rfl)) (by unfold Func.isWrapper; first | (rw [if_pos (by decide +kernel)]; kernel_rfl) | (rw [if_neg (by decide +kernel)]; exact ⟨rfl, rfl⟩))
    (fun os started H enc _ I => by rw [OpenClaim.pre_eq_preRow]; exact lifted os started H enc I)

end Go.Proofs.YtcannffahjbjnaaGreatDoor.viewPlain
