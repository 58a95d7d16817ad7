/-
  bowdlerlaw12.panics: does asking for a text panic?
-/
import Derived.Test.YtmllkffdejojbaaDoorTokTok
import Derived.Defers
import Derived.Recover
import Derived.Laws.Panics
namespace Go.Proofs.YtmllkffdejojbaaDoor
open Go.RowKit
set_option maxRecDepth 100000
set_option linter.unusedVariables false
set_option linter.unusedSimpArgs false

theorem ta_panic (W : World) : (Instr.typeAssert (.iface 3 (.int .i64 5)) 20 88 false).run Tryd.prog W = .halt (.panic (.iface 15 (.pointer (some ⟨W.heap.size, 0, none⟩)))) (W.alloc (.cells #[typeHandle Tryd.prog 20, typeHandle Tryd.prog 3, typeHandle Tryd.prog 88, strVal ""] 160)) := by kernel_rfl

theorem must_five (w : World) :
    Calls Tryd.prog 36 #[.iface 3 (.int .i64 5)] w fun e w' => e = .panicked [{ v := .iface 15 (.pointer (some ⟨w.heap.size, 0, none⟩)), recovered := false }] ∧ Below w.heap.size w w' := by
  have q := ta_panic
  go_enter Tryd.func36, Tryd.ntmps36
  go_wp2_with fail
  exact ⟨rfl, rfl, (Below.refl _ w).alloc (Nat.le_refl _) _⟩

theorem pan_catch (p : Addr) (x : Bool) (u : TypeId) (pv : Value) (w : World) (hc : w.cell? p = some (.bool x)) (hz : w.frozen? p = false) :
    CallsD Tryd.prog 78 #[.pointer (some p)] (.panicking [{ v := .iface u pv, recovered := false }]) w fun e u' w' =>
      e = .returned (.tuple #[]) ∧ u' = .panicking [{ v := .iface u pv, recovered := true }] ∧ w' = w.setCell p (.bool true) := by
  refine callsD_of_wpS Tryd.func78 rfl fun c₀ cs hu => ?_
  apply wpS_region
  simp [wpOpsS, go_sem, recoverD, hu, Tryd.ntmps78, Exit.thenS, hc, hz, bodyPostS, results, Tryd.results78]

set_option maxHeartbeats 4000000 in
theorem panics_five (w : World) :
    Calls Tryd.prog 60 #[.iface 3 (.int .i64 5)] w fun e w' => e = .returned (.bool true) ∧ Below w.heap.size w w' := by
  have hmf : ∀ (fn : Fn) (first cap : Array Value) (w : World), (Instr.makeFunc fn first cap).run Tryd.prog w = .ok (.func fn first cap) w := fun _ _ _ _ => rfl
  have hb1 : Below w.heap.size w (w.alloc (.cells #[.bool false] 4)) := (Below.refl _ w).alloc (Nat.le_refl _) _
  go_enter_defers Tryd.func60, Tryd.ntmps60
  go_wp2_with fail
  refine (must_five _).mono ?_
  rintro e w2 ⟨rfl, b2⟩
  go_wp2_with fail
  have hc : w2.cell? ⟨w.heap.size, 0, none⟩ = some (.bool false) := (b2.cell (p := ⟨w.heap.size, 0, none⟩) (by simp)).trans (by simp)
  have hz : w2.frozen? ⟨w.heap.size, 0, none⟩ = false := (b2.frozen (p := ⟨w.heap.size, 0, none⟩) (by simp)).trans (by simp)
  have hB2 := below_step hb1 b2
  refine leaves_cons (f := 78) (args := #[.pointer (some ⟨w.heap.size, 0, none⟩)]) (by simp) (by simp [go_sem]) ?_
  refine (pan_catch ⟨w.heap.size, 0, none⟩ false 15 _ _ hc hz).mono ?_
  rintro e u' w'' ⟨rfl, rfl, rfl⟩
  simp [Leaves, settle, results, Tryd.results60, go_sem, hc, hz]
  exact hB2.setCell (by simp) _

end Go.Proofs.YtmllkffdejojbaaDoor
