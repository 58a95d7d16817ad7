/-
  ViewPlain, FOR EVERY INPUT, where the listed tables of the library hold what they were laid with: the call answers true, and each argument reads behind it as it read before. The row's step, out of the walk 'law_vplain', and the tied card.
-/
import Derived.Test.YtcannffahjbjnaaGreatDoorCards
import Derived.Test.YtcannffahjbjnaaGreatDoorTie
import Derived.Test.YtcannffahjbjnaaGreatDoorViewPlainHolds
import Derived.SevenTiedAt
namespace Go.Proofs.YtcannffahjbjnaaGreatDoor.viewPlain
open Go.ChangeShapes Go.WideShapes Go.ChangeAt Go.RowKit
set_option maxRecDepth 100000
set_option linter.unusedVariables false
set_option linter.unusedSimpArgs false

theorem plain (f : FuncId) (fn : Func) (hf : Tryz.pinned.checked.prog.funcNamed Rows.viewPlainRow.func = some f) (hfn : Tryz.pinned.checked.prog.funcs[f]? = some fn) :
    Rows.viewPlainCard.stood.looks = Tryz.pinned.checked.prog.looks [] ∧ ∀ (j : Nat) t, fn.params[j]? = some t → Tryz.pinned.checked.prog.wantsStandIn t = false := by
  obtain rfl : f = 3 := Option.some.inj ((show Tryz.prog.funcNamed Rows.viewPlainRow.func = some 3 by kernel_rfl).symm.trans hf) |>.symm
  obtain rfl : fn = Tryz.f3 := (Option.some.inj (Tryz.func3.symm.trans hfn)).symm
  refine ⟨looksOf, fun j t ht => ?_⟩
  rw [Tryz.params3] at ht
  have hm : t ∈ [3, 22] := by have := Array.mem_of_getElem? ht; simp at this ⊢; first | exact this | omega
  have hall : ([3, 22].all fun u => !Tryz.prog.wantsStandIn u) = true := by kernel_rfl
  exact (show Tryz.prog.wantsStandIn t = false by simpa using List.all_eq_true.1 hall t hm)

/-- THE STATEMENT. -/
theorem proved : Rows.ViewPlainCardSaid :=
  Claim7.holds_tied_plain_at .later [] _ _ _ _ said (fun _ h => by cases h) (by kernel_rfl) (fun _ h => by cases h) viewPlain_row_tie rfl ⟨rfl, rfl⟩ mainIs rfl plain goes
#print axioms proved
end Go.Proofs.YtcannffahjbjnaaGreatDoor.viewPlain
