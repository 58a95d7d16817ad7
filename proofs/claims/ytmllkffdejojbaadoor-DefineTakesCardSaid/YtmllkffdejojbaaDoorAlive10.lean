/-
  alive: the first call of chapter 10's laws answers true.
-/
import Derived.Test.YtmllkffdejojbaaDoorInside
import Derived.Test.YtmllkffdejojbaaDoorEnc
import Derived.Test.YtmllkffdejojbaaDoorSafe
namespace Go.Proofs.YtmllkffdejojbaaDoor
open Go.RowKit
set_option maxRecDepth 100000
set_option linter.unusedVariables false
set_option linter.unusedSimpArgs false

theorem inside_one : inside [40, 47, 97, 32, 34, 116, 34, 41, 120] = ([47, 97], [116], 8, true) := by decide +kernel
theorem safe_one : safe ⟨#[32, 74, 97, 118, 97, 83, 99, 114, 105, 112, 116, 58, 120]⟩ = false := by decide +kernel
theorem safe_two : safe ⟨#[47, 97]⟩ = true := by decide +kernel
theorem encode_one : encode [97, 32, 98] = [97, 37, 50, 48, 98] := by decide +kernel
theorem unesc_one : unesc [92, 42, 38, 97, 109, 112, 59] = [42, 38] := by decide +kernel

set_option maxHeartbeats 1000000 in
theorem alive10 (w : World) (hE : Env w) : Calls Tryd.prog 21 #[] w fun e w' => e = .returned (.bool true) ∧ Below w.heap.size w w' := by
  have c1 : ∀ W, Env W → Calls Tryd.prog 24 #[.string ⟨#[40, 47, 97, 32, 34, 116, 34, 41, 120]⟩] W fun e w' => e = .returned (.tuple #[.string ⟨#[47, 97]⟩, .string ⟨#[116]⟩, .int .i64 8, .bool true]) ∧ Below W.heap.size W w' := fun W hW => by
    have := inside_any ⟨#[40, 47, 97, 32, 34, 116, 34, 41, 120]⟩ W hW (by decide)
    rw [show (ByteArray.mk #[40, 47, 97, 32, 34, 116, 34, 41, 120]).data.toList = [40, 47, 97, 32, 34, 116, 34, 41, 120] from rfl, inside_one] at this
    exact this
  have c2 : ∀ W, Calls Tryd.prog 22 #[.string ⟨#[32, 74, 97, 118, 97, 83, 99, 114, 105, 112, 116, 58, 120]⟩] W fun e w' => e = .returned (.bool false) ∧ Below W.heap.size W w' := fun W => by
    have := safe_any ⟨#[32, 74, 97, 118, 97, 83, 99, 114, 105, 112, 116, 58, 120]⟩ W (by decide)
    rw [safe_one] at this
    exact this
  have c3 : ∀ W, Calls Tryd.prog 22 #[.string ⟨#[47, 97]⟩] W fun e w' => e = .returned (.bool true) ∧ Below W.heap.size W w' := fun W => by
    have := safe_any ⟨#[47, 97]⟩ W (by decide)
    rw [safe_two] at this
    exact this
  have c4 : ∀ W, Calls Tryd.prog 23 #[.string ⟨#[97, 32, 98]⟩] W fun e w' => e = .returned (.string ⟨#[97, 37, 50, 48, 98]⟩) ∧ Below W.heap.size W w' := fun W => by
    have := encode_any ⟨#[97, 32, 98]⟩ W (by decide)
    rw [show (ByteArray.mk #[97, 32, 98]).data.toList = [97, 32, 98] from rfl, encode_one] at this
    exact this
  have c5 : ∀ W, Env W → Calls Tryd.prog 27 #[.string ⟨#[92, 42, 38, 97, 109, 112, 59]⟩] W fun e w' => e = .returned (.string ⟨#[42, 38]⟩) ∧ Below W.heap.size W w' := fun W hW => by
    have := unesc_any ⟨#[92, 42, 38, 97, 109, 112, 59]⟩ W hW (by decide)
    rw [show (ByteArray.mk #[92, 42, 38, 97, 109, 112, 59]).data.toList = [92, 42, 38, 97, 109, 112, 59] from rfl, unesc_one] at this
    exact this
  have C1 := Lib.hid c1
  have C2 := Lib.hid c2
  have C3 := Lib.hid c3
  have C4 := Lib.hid c4
  have C5 := Lib.hid c5
  have HE := Lib.hid hE
  clear c1 c2 c3 c4 c5 hE
  have e1 : ((ByteArray.mk #[47, 97]).toList == [47, 97]) = true := by rw [Lib.toList_data]; decide
  have e2 : ((ByteArray.mk #[116]).toList == [116]) = true := by rw [Lib.toList_data]; decide
  have e3 : ((ByteArray.mk #[97, 37, 50, 48, 98]).toList == [97, 37, 50, 48, 98]) = true := by rw [Lib.toList_data]; decide
  have e4 : ((ByteArray.mk #[42, 38]).toList == [42, 38]) = true := by rw [Lib.toList_data]; decide
  go_enter Tryd.func21, Tryd.ntmps21
  go_wp2_with fail
  refine (C1.out _ HE.out).mono ?_
  rintro e w1 ⟨rfl, b1⟩
  go_wp2_with fail
  refine (C2.out _).mono ?_
  rintro e w2 ⟨rfl, b2⟩
  have B2 := below_step b1 b2
  go_wp2_with fail
  refine (C3.out _).mono ?_
  rintro e w3 ⟨rfl, b3⟩
  have B3 := below_step B2 b3
  go_wp2_with fail
  refine (C4.out _).mono ?_
  rintro e w4 ⟨rfl, b4⟩
  have B4 := below_step B3 b4
  go_wp2_with fail
  refine (C5.out _ (HE.out.below B4)).mono ?_
  rintro e w5 ⟨rfl, b5⟩
  have B5 := below_step B4 b5
  go_wp2_with fail
  go_ret
  exact ⟨rfl, B5⟩

end Go.Proofs.YtmllkffdejojbaaDoor
