/-
  TokenCodes, FOR EVERY INPUT, where the listed tables of the library hold what they were laid with: the call answers true, and each argument reads behind it as it read before. The row's step, out of the walk 'law_codes', and the tied card.
-/
import Derived.Test.YtmllkffdejojbaaDoorCards
import Derived.Test.YtmllkffdejojbaaDoorTie
import Derived.Test.YtmllkffdejojbaaDoorTokenCodesHolds
import Derived.SevenTiedAt
namespace Go.Proofs.YtmllkffdejojbaaDoor.tokenCodes
open Go.ChangeShapes Go.WideShapes Go.ChangeAt Go.RowKit
set_option maxRecDepth 100000
set_option linter.unusedVariables false
set_option linter.unusedSimpArgs false

theorem plain (f : FuncId) (fn : Func) (hf : Tryd.pinned.checked.prog.funcNamed Rows.tokenCodesRow.func = some f) (hfn : Tryd.pinned.checked.prog.funcs[f]? = some fn) :
    Rows.tokenCodesCard.stood.looks = Tryd.pinned.checked.prog.looks [] ∧ ∀ (j : Nat) t, fn.params[j]? = some t → Tryd.pinned.checked.prog.wantsStandIn t = false := by
  obtain rfl : f = 14 := Option.some.inj ((show Tryd.prog.funcNamed Rows.tokenCodesRow.func = some 14 by kernel_rfl).symm.trans hf) |>.symm
  obtain rfl : fn = Tryd.f14 := (Option.some.inj (Tryd.func14.symm.trans hfn)).symm
  refine ⟨looksOf, fun j t ht => ?_⟩
  rw [Tryd.params14] at ht
  have hm : t ∈ [3, 9] := by have := Array.mem_of_getElem? ht; simp at this ⊢; first | exact this | omega
  have hall : ([3, 9].all fun u => !Tryd.prog.wantsStandIn u) = true := by kernel_rfl
  exact (show Tryd.prog.wantsStandIn t = false by simpa using List.all_eq_true.1 hall t hm)

/-- THE STATEMENT. -/
theorem proved : Rows.TokenCodesCardSaid :=
  Claim7.holds_tied_plain_at .later [] _ _ _ _ said (fun _ h => by cases h) (by kernel_rfl) (fun _ h => by cases h) tokenCodes_row_tie rfl ⟨rfl, rfl⟩ mainIs rfl plain goes
#print axioms proved
end Go.Proofs.YtmllkffdejojbaaDoor.tokenCodes
