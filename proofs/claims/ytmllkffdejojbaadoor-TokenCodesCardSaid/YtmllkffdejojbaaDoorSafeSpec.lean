/-
  target.Safe's plain function: a url without what is no letter to it, and the four schemes.
-/
import Derived.Test.YtmllkffdejojbaaDoorTgtSpec
import Derived.Lib.RuneBytes
namespace Go.Proofs.YtmllkffdejojbaaDoor
open Go.RowKit

def lowR (r : Nat) : Nat := if 65 ≤ r ∧ r ≤ 90 then r + 32 else r
def keepR (r : Nat) : List UInt8 := if 32 < r ∧ r ≠ 127 then Lib.encodeRune r else []
def stripFrom (s : ByteArray) : Nat → Nat → List UInt8
  | 0, _ => []
  | fuel + 1, pos => if pos < s.size then keepR (lowR (Utf8.decode s pos).1) ++ stripFrom s fuel (pos + (Utf8.decode s pos).2) else []
def strip (s : ByteArray) : List UInt8 := stripFrom s s.size 0
def schemes : List (List UInt8) := [[106, 97, 118, 97, 115, 99, 114, 105, 112, 116, 58], [118, 98, 115, 99, 114, 105, 112, 116, 58], [102, 105, 108, 101, 58], [100, 97, 116, 97, 58]]
def safeL (l : List UInt8) : Bool := !(schemes.any fun p => Lib.hasPrefix l p)
def safe (s : ByteArray) : Bool := safeL (strip s)

theorem width_pos (s : ByteArray) (pos : Nat) (h : pos < s.size) : 1 ≤ (Utf8.decode s pos).2 := by
  by_cases ha : (s[pos]'h).toNat < 128
  · rw [decode_ascii s pos h ha]
    exact Nat.le_refl _
  · exact (decode_high s pos h (by omega)).2

theorem stripFrom_end (s : ByteArray) (fuel pos : Nat) (h : ¬ pos < s.size) : stripFrom s fuel pos = [] := by
  cases fuel with
  | zero => rfl
  | succ f => simp [stripFrom, h]

theorem stripFrom_succ (s : ByteArray) (f pos : Nat) (h : pos < s.size) : stripFrom s (f + 1) pos = keepR (lowR (Utf8.decode s pos).1) ++ stripFrom s f (pos + (Utf8.decode s pos).2) := by
  simp [stripFrom, h]

end Go.Proofs.YtmllkffdejojbaaDoor
