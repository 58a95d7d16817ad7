/-
  bowdlerlaw11.alive: the first call whose answer the document fixes; a definition asked for as a whole.
-/
import Derived.Test.YtmllkffdejojbaaDoorTake
import Derived.Test.YtmllkffdejojbaaDoorFoldLaw
namespace Go.Proofs.YtmllkffdejojbaaDoor
open Go.RowKit
set_option maxRecDepth 100000
set_option linter.unusedVariables false
set_option linter.unusedSimpArgs false

theorem defAt_new (w : World) (u0 u1 u2 u3 u4 : Value) : DefAt (w.alloc (.cells #[u0, u1, u2, u3, u4] 40)) w.heap.size u0 u1 u2 u3 u4 := by
  unfold DefAt; simp

theorem alive_line1 : lineL [91, 65, 32, 98, 93, 58, 32, 47, 120, 32, 34, 116, 34] = (⟨[97, 32, 98], [47, 120], [116], [], false⟩, true) := by decide +kernel
theorem alive_line2 : lineL [91, 94, 110, 93, 58, 32, 116, 101, 120, 116] = (⟨[110], [], [], [116, 101, 120, 116], true⟩, true) := by decide +kernel

set_option maxHeartbeats 4000000 in
theorem alive11 (w : World) (hE : Env w) : Calls Tryd.prog 28 #[] w fun e w' => e = .returned (.bool true) ∧ Below w.heap.size w w' := by
  have c1 := fun W hW => line_any ⟨#[91, 65, 32, 98, 93, 58, 32, 47, 120, 32, 34, 116, 34]⟩ W hW (by decide)
  rw [show (ByteArray.mk #[91, 65, 32, 98, 93, 58, 32, 47, 120, 32, 34, 116, 34]).data.toList = [91, 65, 32, 98, 93, 58, 32, 47, 120, 32, 34, 116, 34] from rfl, alive_line1] at c1
  have c2 := fun W hW => line_any ⟨#[91, 94, 110, 93, 58, 32, 116, 101, 120, 116]⟩ W hW (by decide)
  rw [show (ByteArray.mk #[91, 94, 110, 93, 58, 32, 116, 101, 120, 116]).data.toList = [91, 94, 110, 93, 58, 32, 116, 101, 120, 116] from rfl, alive_line2] at c2
  simp only [DefL.val, defV] at c1 c2
  have C1 := Lib.hid c1
  have C2 := Lib.hid c2
  have HE := Lib.hid hE
  clear c1 c2 hE
  go_enter Tryd.func28, Tryd.ntmps28
  go_wp2_with fail
  refine (C1.out _ HE.out).mono ?_
  rintro e w1 ⟨rfl, b1⟩
  go_wp2_with fail
  have hd1 := defAt_new w1 (.string ⟨#[97, 32, 98]⟩) (.string ⟨#[47, 120]⟩) (.string ⟨#[116]⟩) (.string ⟨#[]⟩) (.bool false)
  have hb1 := b1.alloc b1.size (.cells #[.string ⟨#[97, 32, 98]⟩, .string ⟨#[47, 120]⟩, .string ⟨#[116]⟩, .string ⟨#[]⟩, .bool false] 40)
  have hs1 : w1.heap.size < (w1.alloc (.cells #[.string ⟨#[97, 32, 98]⟩, .string ⟨#[47, 120]⟩, .string ⟨#[116]⟩, .string ⟨#[]⟩, .bool false] 40)).heap.size := by simp
  refine (C2.out _ (HE.out.below hb1)).mono ?_
  rintro e w2 ⟨rfl, b2⟩
  have hd2 := hd1.below b2 hs1
  have hb2 := below_step hb1 b2
  have hs2 : w1.heap.size < w2.heap.size := by have := b2.size; omega
  clear hd1 hb1 hs1 b2
  obtain ⟨d0, d1, d2, d3, d4, g0, g1, g2, g3, g4⟩ := hd2
  go_wp2_with fail
  go_ret
  exact ⟨rfl, hb2.alloc hb2.size _⟩

end Go.Proofs.YtmllkffdejojbaaDoor
