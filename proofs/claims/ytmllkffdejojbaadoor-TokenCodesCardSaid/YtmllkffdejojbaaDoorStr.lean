/-
  Small laws on strings, bytes and endings, used by all walks over text.
-/
import Derived.WalkKit
import Derived.Lib.Builder
import Derived.Lib.Strings
import Derived.Lib.IndexBytes
namespace Go.Proofs.YtmllkffdejojbaaDoor
open Go.RowKit

theorem ret_bool {a b : Bool} (h : a = b) : Ending.returned (.bool a) = .returned (.bool b) := by rw [h]
theorem ret_int {k : IntKind} {a b : Int} (h : a = b) : Ending.returned (.int k a) = .returned (.int k b) := by rw [h]
theorem ret_str {l l' : List UInt8} (h : l = l') : Ending.returned (.string ⟨l.toArray⟩) = .returned (.string ⟨l'.toArray⟩) := by rw [h]

/-- A fact of all bytes, asked of each by the kernel. -/
def AllB (p : UInt8 → Prop) : Prop := ∀ n : Fin 256, p (UInt8.ofNat n.val)
theorem allB {p : UInt8 → Prop} (h : AllB p) (c : UInt8) : p c := by
  have := h ⟨c.toNat, c.toNat_lt⟩
  simpa using this

theorem take_succ (s : ByteArray) (k : Nat) (hk : k < s.size) : s.data.toList.take (k + 1) = s.data.toList.take k ++ [s[k]] := by
  rw [List.take_succ_eq_append_getElem (by simpa using hk)]; rfl

theorem take_all (s : ByteArray) : s.data.toList.take s.size = s.data.toList := List.take_of_length_le (by simp)

theorem byte_lt (c : UInt8) : (0 : Int) ≤ (c.toNat : Int) ∧ (c.toNat : Int) < 256 := by have := c.toNat_lt; omega

theorem bytes_eq {p s : ByteArray} (h : (p.toList == s.toList) = true) : p.data.toList = s.data.toList := by
  rw [Lib.toList_data, Lib.toList_data] at h; exact eq_of_beq h
theorem bytes_ne {p s : ByteArray} (h : (p.toList == s.toList) = false) : p.data.toList ≠ s.data.toList := by
  rw [Lib.toList_data, Lib.toList_data] at h; intro e; rw [e] at h; simp at h

theorem drop_at (s : ByteArray) (i : Nat) (h : i < s.size) : s.data.toList.drop i = s[i] :: s.data.toList.drop (i + 1) := by
  rw [List.drop_eq_getElem_cons (by simpa using h)]; rfl
theorem drop_end (s : ByteArray) (i : Nat) (h : s.size ≤ i) : s.data.toList.drop i = [] := List.drop_eq_nil_of_le (by simpa using h)
theorem ret_strs {x : ByteArray} {l : List UInt8} (h : x.data.toList = l) : Ending.returned (.string x) = .returned (.string ⟨l.toArray⟩) := by rw [← h, Lib.mk_data]
theorem ba_of {x : ByteArray} {l : List UInt8} (h : x.data.toList = l) : x = ⟨l.toArray⟩ := by rw [← h, Lib.mk_data]

theorem ret_sb {p : List UInt8 × Bool} {x : ByteArray} {b : Bool} (h : p = (x.data.toList, b)) : Ending.returned (.tuple #[.string x, .bool b]) = .returned (.tuple #[.string ⟨p.1.toArray⟩, .bool p.2]) := by rw [h, Lib.mk_data]
theorem ret_si {p : List UInt8 × Nat} {x : ByteArray} {n : Int} {m : Nat} (h : p = (x.data.toList, m)) (hn : n = m) : Ending.returned (.tuple #[.string x, .int .i64 n]) = .returned (.tuple #[.string ⟨p.1.toArray⟩, .int .i64 p.2]) := by rw [h, hn, Lib.mk_data]
theorem ret_sib {p : List UInt8 × Nat × Bool} {x : ByteArray} {n : Int} {m : Nat} {b : Bool} (h : p = (x.data.toList, m, b)) (hn : n = m) : Ending.returned (.tuple #[.string x, .int .i64 n, .bool b]) = .returned (.tuple #[.string ⟨p.1.toArray⟩, .int .i64 p.2.1, .bool p.2.2]) := by rw [h, hn, Lib.mk_data]
theorem ret_ssib {p : List UInt8 × List UInt8 × Nat × Bool} {x y : ByteArray} {n : Int} {m : Nat} {b : Bool} (h : p = (x.data.toList, y.data.toList, m, b)) (hn : n = m) : Ending.returned (.tuple #[.string x, .string y, .int .i64 n, .bool b]) = .returned (.tuple #[.string ⟨p.1.toArray⟩, .string ⟨p.2.1.toArray⟩, .int .i64 p.2.2.1, .bool p.2.2.2]) := by rw [h, hn, Lib.mk_data, Lib.mk_data]

theorem app_list (a b : ByteArray) : (a ++ b).data.toList = a.data.toList ++ b.data.toList := by simp
theorem ba_eq {a b : ByteArray} (h : a.data.toList = b.data.toList) : a = b := by rw [ba_of h, Lib.mk_data]
theorem empty_no {s : ByteArray} (h : 0 < s.size) : s.toList.isEmpty = false := by
  rw [Lib.toList_data]
  cases hl : s.data.toList with
  | nil => rw [Lib.size_eq, hl] at h; exact absurd h (by simp)
  | cons _ _ => rfl
theorem empty_yes {s : ByteArray} (h : s.size = 0) : s.toList.isEmpty = true := by
  rw [Lib.toList_data]
  have : s.data.toList = [] := List.eq_nil_of_length_eq_zero (by rw [← Lib.size_eq]; exact h)
  rw [this]; rfl
theorem beq_self_bytes (s : ByteArray) : (s.toList == s.toList) = true := by simp

end Go.Proofs.YtmllkffdejojbaaDoor
