/-
  Bits of words of 64 bits as the walk spells them: a shifted word's last bit is the word's bit; a word and one more bit; what two words share.
-/
import Derived.WalkKit
import Derived.WalkSmall
namespace Go.Proofs.Ytehfjlonpnanoaa
open Go.RowKit

def W64 : Nat := 18446744073709551616
theorem w64_pow : W64 = 2 ^ 64 := by unfold W64; decide

theorem ret_bool {a b : Bool} (h : a = b) : Ending.returned (.bool a) = .returned (.bool b) := by rw [h]
theorem ret_int {k : IntKind} {a b : Int} (h : a = b) : Ending.returned (.int k a) = .returned (.int k b) := by rw [h]

theorem shr_and_one (u k : Nat) (hu : u < W64) : bits BinOp.and IntKind.u64 ((u : Int) / 2 ^ k) 1 = (((u >>> k) % 2 : Nat) : Int) := by
  have e : ((u : Int) / 2 ^ k) = ((u / 2 ^ k : Nat) : Int) := by simp
  have hlt : u / 2 ^ k ≤ u := Nat.div_le_self _ _
  unfold W64 at hu
  rw [e]
  have := bits_and_u64_nat (u / 2 ^ k) 1 (by omega) (by omega)
  rw [Nat.and_one_is_mod] at this
  rw [Nat.shiftRight_eq_div_pow]
  exact this

theorem leq_bit (u k : Nat) (hu : u < W64) : decide (0 < bits BinOp.and IntKind.u64 ((u : Int) / 2 ^ k) 1) = u.testBit k := by
  rw [shr_and_one u k hu, Nat.testBit_eq_decide_div_mod_eq, Nat.shiftRight_eq_div_pow]
  by_cases h : u / 2 ^ k % 2 = 1
  · simp [h]
  · have : u / 2 ^ k % 2 = 0 := by omega
    simp [this]

theorem leq_bit0 (u k : Nat) (hu : u < W64) : (bits BinOp.and IntKind.u64 ((u : Int) / 2 ^ k) 1 == 0) = !u.testBit k := by
  rw [shr_and_one u k hu, Nat.testBit_eq_decide_div_mod_eq, Nat.shiftRight_eq_div_pow]
  by_cases h : u / 2 ^ k % 2 = 1
  · simp [h]
  · have : u / 2 ^ k % 2 = 0 := by omega
    simp [this]

/-- A power of two, behind a name of its own. -/
def p2 (k : Nat) : Nat := 2 ^ k
theorem p2_lt {k : Nat} (hk : k < 64) : p2 k < W64 := by unfold p2; rw [w64_pow]; exact Nat.pow_lt_pow_right (by omega) hk
theorem wrap_p2 (k : Nat) (hk : k < 64) : IntKind.u64.wrap (2 ^ k) = (p2 k : Int) := by
  have h := p2_lt hk
  unfold W64 at h
  have e : (2 ^ k : Int) = (p2 k : Int) := by unfold p2; simp
  rw [IntKind.wrap_u64, e]
  omega
theorem or_w64 (a b : Nat) (ha : a < W64) (hb : b < W64) : bits BinOp.or IntKind.u64 (a : Int) (b : Int) = ((a ||| b : Nat) : Int) := by
  unfold W64 at ha hb; exact bits_or_u64_nat _ _ ha hb
theorem gt_bit (u k : Nat) (hu : u < W64) (h : u.testBit k = true) : 0 < bits BinOp.and IntKind.u64 ((u : Int) / 2 ^ k) 1 := by
  have := leq_bit u k hu; rw [h] at this; simpa using this
theorem not_gt_bit (u k : Nat) (hu : u < W64) (h : u.testBit k = false) : ¬ 0 < bits BinOp.and IntKind.u64 ((u : Int) / 2 ^ k) 1 := by
  have := leq_bit u k hu; rw [h] at this; simpa using this

end Go.Proofs.Ytehfjlonpnanoaa
