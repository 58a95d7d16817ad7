/-
  target's plain functions: what a byte of a url becomes; the whole.
-/
import Derived.Test.YtmllkffdejojbaaDoorStr
import Derived.WalkKit
import Derived.Lib.Builder
import Derived.Lib.IndexBytes
namespace Go.Proofs.YtmllkffdejojbaaDoor
open Go.RowKit

def isDigit (c : UInt8) : Bool := 48 ≤ c && c ≤ 57
def isLetter (c : UInt8) : Bool := (65 ≤ c && c ≤ 90) || (97 ≤ c && c ≤ 122)
def stayL : List UInt8 := [45, 46, 95, 126, 58, 47, 63, 35, 64, 33, 36, 38, 39, 40, 41, 42, 43, 44, 59, 61, 37]
def okUrl (c : UInt8) : Bool := isDigit c || isLetter c || stayL.contains c
def hexD (n : UInt8) : UInt8 := if n < 10 then 48 + n else 55 + n
def encB (c : UInt8) : List UInt8 := if okUrl c then [c] else [37, hexD (c / 16), hexD (c % 16)]
def encode (l : List UInt8) : List UInt8 := l.flatMap encB

theorem or_letter (c : UInt8) : (decide (97 ≤ bits BinOp.or IntKind.u8 (c.toNat : Int) 32) && decide (bits BinOp.or IntKind.u8 (c.toNat : Int) 32 ≤ 122)) = isLetter c :=
  allB (p := fun c => (decide (97 ≤ bits BinOp.or IntKind.u8 (c.toNat : Int) 32) && decide (bits BinOp.or IntKind.u8 (c.toNat : Int) 32 ≤ 122)) = isLetter c) (by unfold AllB; decide +kernel) c
theorem stay_index (c : UInt8) : decide (0 ≤ Lib.indexByte stayL ((c.toNat : Int).toNat.toUInt8)) = stayL.contains c :=
  allB (p := fun c => decide (0 ≤ Lib.indexByte stayL ((c.toNat : Int).toNat.toUInt8)) = stayL.contains c) (by unfold AllB; decide +kernel) c

theorem dig_test (c : UInt8) : isDigit c = (decide (48 ≤ (c.toNat : Int)) && decide ((c.toNat : Int) ≤ 57)) :=
  allB (p := fun c => isDigit c = (decide (48 ≤ (c.toNat : Int)) && decide ((c.toNat : Int) ≤ 57))) (by unfold AllB; decide +kernel) c

theorem and15 (c : UInt8) : bits BinOp.and IntKind.u8 (c.toNat : Int) 15 = ((c.toNat % 16 : Nat) : Int) :=
  allB (p := fun c => bits BinOp.and IntKind.u8 (c.toNat : Int) 15 = ((c.toNat % 16 : Nat) : Int)) (by unfold AllB; decide +kernel) c

theorem hexS (c : UInt8) : (ByteArray.mk #[37] ++ (ByteArray.mk #[48, 49, 50, 51, 52, 53, 54, 55, 56, 57, 65, 66, 67, 68, 69, 70]).extract (c.toNat / 16) (c.toNat / 16 + 1) ++ (ByteArray.mk #[48, 49, 50, 51, 52, 53, 54, 55, 56, 57, 65, 66, 67, 68, 69, 70]).extract (c.toNat % 16) (c.toNat % 16 + 1)).data.toList = [37, hexD (c / 16), hexD (c % 16)] :=
  allB (p := fun c => (ByteArray.mk #[37] ++ (ByteArray.mk #[48, 49, 50, 51, 52, 53, 54, 55, 56, 57, 65, 66, 67, 68, 69, 70]).extract (c.toNat / 16) (c.toNat / 16 + 1) ++ (ByteArray.mk #[48, 49, 50, 51, 52, 53, 54, 55, 56, 57, 65, 66, 67, 68, 69, 70]).extract (c.toNat % 16) (c.toNat % 16 + 1)).data.toList = [37, hexD (c / 16), hexD (c % 16)]) (by unfold AllB; decide +kernel) c

theorem encB_len (c : UInt8) : (encB c).length ≤ 3 := by unfold encB; split <;> simp
theorem encode_len' (l : List UInt8) : (encode l).length ≤ 3 * l.length := by
  unfold encode
  induction l with
  | nil => simp
  | cons c l ih => rw [List.flatMap_cons, List.length_append, List.length_cons]; have := encB_len c; omega
theorem encode_len (s : List UInt8) (k : Nat) : (encode (s.take k)).length ≤ 3 * k := by
  have := encode_len' (s.take k); have := List.length_take_le k s; omega
theorem encode_snoc (s : ByteArray) (k : Nat) (hk : k < s.size) (c : UInt8) (hc : c = s[k]) : encode (s.data.toList.take (k + 1)) = encode (s.data.toList.take k) ++ encB c := by
  rw [take_succ s k hk, ← hc]; simp [encode]

end Go.Proofs.YtmllkffdejojbaaDoor
