/-
  ViewVeils, FOR EVERY INPUT, where the listed tables of the library hold what they were laid with: the call answers true, and each argument reads behind it as it read before. The row's step, out of the walk 'law_vveils', and the tied card.
-/
import Derived.Test.YtcannffahjbjnaaGreatDoorCards
import Derived.Test.YtcannffahjbjnaaGreatDoorTie
import Derived.Test.YtcannffahjbjnaaGreatDoorViewVeilsHolds
import Derived.SevenTiedAt
namespace Go.Proofs.YtcannffahjbjnaaGreatDoor.viewVeils
open Go.ChangeShapes Go.WideShapes Go.ChangeAt Go.RowKit
set_option maxRecDepth 100000
set_option linter.unusedVariables false
set_option linter.unusedSimpArgs false

theorem plain (f : FuncId) (fn : Func) (hf : Tryz.pinned.checked.prog.funcNamed Rows.viewVeilsRow.func = some f) (hfn : Tryz.pinned.checked.prog.funcs[f]? = some fn) :
    Rows.viewVeilsCard.stood.looks = Tryz.pinned.checked.prog.looks [] ∧ ∀ (j : Nat) t, fn.params[j]? = some t → Tryz.pinned.checked.prog.wantsStandIn t = false := by
  obtain rfl : f = 4 := Option.some.inj ((show Tryz.prog.funcNamed Rows.viewVeilsRow.func = some 4 by kernel_rfl).symm.trans hf) |>.symm
  obtain rfl : fn = Tryz.f4 := (Option.some.inj (Tryz.func4.symm.trans hfn)).symm
  refine ⟨looksOf, fun j t ht => ?_⟩
  rw [Tryz.params4] at ht
  have hm : t ∈ [3, 9] := by have := Array.mem_of_getElem? ht; simp at this ⊢; first | exact this | omega
  have hall : ([3, 9].all fun u => !Tryz.prog.wantsStandIn u) = true := by kernel_rfl
  exact (show Tryz.prog.wantsStandIn t = false by simpa using List.all_eq_true.1 hall t hm)

/-- THE STATEMENT. -/
theorem proved : Rows.ViewVeilsCardSaid :=
  Claim7.holds_tied_plain_at .later [] _ _ _ _ said (fun _ h => by cases h) (by kernel_rfl) (fun _ h => by cases h) viewVeils_row_tie rfl ⟨rfl, rfl⟩ mainIs rfl plain goes
#print axioms proved
end Go.Proofs.YtcannffahjbjnaaGreatDoor.viewVeils
