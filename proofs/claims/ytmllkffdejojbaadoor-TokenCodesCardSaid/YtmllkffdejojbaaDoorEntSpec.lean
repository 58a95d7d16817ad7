/-
  entity's plain functions: digits, numbers, names; the entity with which a text begins.
-/
import Derived.Test.YtmllkffdejojbaaDoorStr
import Derived.Test.YtmllkffdejojbaaDoorIdxRune
import Derived.WalkKit
import Derived.Lib.Builder
import Derived.Lib.IndexBytes
import Derived.Laws.Bits64b
namespace Go.Proofs.YtmllkffdejojbaaDoor
open Go.RowKit

def hexL : List UInt8 := [48, 49, 50, 51, 52, 53, 54, 55, 56, 57, 97, 98, 99, 100, 101, 102]
/-- What a digit stands for; 99: it is none. -/
def digV (c : UInt8) : Nat :=
  if 48 ≤ c ∧ c ≤ 57 then c.toNat - 48 else if 65 ≤ c ∧ c ≤ 70 then c.toNat - 55 else if 97 ≤ c ∧ c ≤ 102 then c.toNat - 87 else 99
def isDig (base : Nat) (c : UInt8) : Bool := decide (digV c < base)
def numVal (base : Nat) (l : List UInt8) : Nat := l.foldl (fun v c => v * base + digV c) 0
def digLen (base : Nat) (l : List UInt8) : Nat := (l.takeWhile (isDig base)).length
def number (base most : Nat) (l : List UInt8) : List UInt8 × Nat :=
  let k := digLen base l
  if most < k ∨ k = 0 ∨ l.getD k 0 ≠ 59 then ([], 0)
  else
    let v := numVal base (l.take k)
    (if v = 0 ∨ Lib.validRune v = false then [239, 191, 189] else (Utf8.encode v).data.toList, k)

theorem bits_or_i32_nat (a b : Nat) (ha : a < 2097152) (hb : b < 2097152) : bits .or .i32 (a : Int) (b : Int) = ((a ||| b : Nat) : Int) := by
  have hx : a ||| b < 2 ^ 21 := Nat.or_lt_two_pow (by omega) (by omega)
  have h1 : (BitVec.ofInt 32 (a : Int)).toNat = a := by
    rw [BitVec.ofInt_natCast, BitVec.toNat_ofNat]; exact Nat.mod_eq_of_lt (by omega)
  have h2 : (BitVec.ofInt 32 (b : Int)).toNat = b := by
    rw [BitVec.ofInt_natCast, BitVec.toNat_ofNat]; exact Nat.mod_eq_of_lt (by omega)
  show IntKind.i32.wrap ((BitVec.ofInt 32 (a : Int) ||| BitVec.ofInt 32 (b : Int)).toNat : Int) = _
  rw [BitVec.toNat_or, h1, h2]
  have hm : (((a ||| b : Nat) : Int)) % 4294967296 = ((a ||| b : Nat) : Int) := by omega
  unfold IntKind.wrap
  simp [IntKind.bits, IntKind.signed]
  omega

theorem or_big (r : Nat) (h : 128 ≤ r) (h1 : r ≤ 1114111) : 128 ≤ bits .or .i32 (r : Int) 32 ∧ bits .or .i32 (r : Int) 32 ≤ 2147483647 := by
  have := bits_or_i32_nat r 32 (by omega) (by omega)
  have e : ((32 : Nat) : Int) = 32 := rfl
  rw [e] at this
  rw [this]
  have h2 : r ≤ r ||| 32 := Nat.left_le_or
  have h3 : r ||| 32 < 2 ^ 21 := Nat.or_lt_two_pow (by omega) (by omega)
  omega

theorem decode_big (s : ByteArray) (i : Nat) (hi : i < s.size) (h : 128 ≤ s[i].toNat) : 128 ≤ (Utf8.decode s i).1 := by
  rw [Lib.decode_at]
  have e : s.get! i = s[i] := by
    simp [ByteArray.get!, getElem!_pos, hi]
    rfl
  rw [e]
  unfold Lib.decodeN
  repeat' split
  all_goals first | omega | (simp only; omega)

/-- The code's tests on a byte. -/
theorem dig_facts (c : UInt8) : c.toNat < 128 →
    (0 ≤ bits BinOp.or IntKind.i32 (c.toNat : Int) 32 ∧ bits BinOp.or IntKind.i32 (c.toNat : Int) 32 < 128) ∧
    (if 48 ≤ c.toNat ∧ c.toNat ≤ 102 ∧ ¬ (57 < c.toNat ∧ c.toNat < 65) then
      (digV c < 16 ∧ Lib.indexByte hexL (bits BinOp.or IntKind.i32 (c.toNat : Int) 32).toNat.toUInt8 = digV c) ∨ (digV c = 99 ∧ Lib.indexByte hexL (bits BinOp.or IntKind.i32 (c.toNat : Int) 32).toNat.toUInt8 = -1)
    else digV c = 99) :=
  allB (p := fun c => c.toNat < 128 →
    (0 ≤ bits BinOp.or IntKind.i32 (c.toNat : Int) 32 ∧ bits BinOp.or IntKind.i32 (c.toNat : Int) 32 < 128) ∧
    (if 48 ≤ c.toNat ∧ c.toNat ≤ 102 ∧ ¬ (57 < c.toNat ∧ c.toNat < 65) then
      (digV c < 16 ∧ Lib.indexByte hexL (bits BinOp.or IntKind.i32 (c.toNat : Int) 32).toNat.toUInt8 = digV c) ∨ (digV c = 99 ∧ Lib.indexByte hexL (bits BinOp.or IntKind.i32 (c.toNat : Int) 32).toNat.toUInt8 = -1)
    else digV c = 99)) (by unfold AllB; decide +kernel) c

end Go.Proofs.YtmllkffdejojbaaDoor
