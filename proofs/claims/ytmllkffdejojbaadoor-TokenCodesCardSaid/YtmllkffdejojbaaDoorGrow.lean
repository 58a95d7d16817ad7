/-
  A builder of the call's own stays as it is where only later memory is written; sizes of entities.
-/
import Derived.Test.YtmllkffdejojbaaDoorEnv
import Derived.Test.YtmllkffdejojbaaDoorAt
import Derived.Laws.Cover4
namespace Go.Proofs.YtmllkffdejojbaaDoor
open Go.RowKit

theorem bldAt_below {T e : TypeId} {B b : Nat} {p : Value} {bs : List Value} {W W' : World} (h : Lib.BuilderAtF T e B b p bs W) (hb : Below W.heap.size W W') : Lib.BuilderAtF T e B b p bs W' := by
  have hlt := h.lt
  obtain ⟨hB, v, hv, hown, hne⟩ := h
  exact ⟨hB, v, (hb.block b hlt).trans hv, hown.kept (row := none) ⟨hb.os, hb.tape, hb.output, hb.size, fun k hk _ => hb.block k hk⟩ (Classical.em _), hne⟩
theorem bld_below {T e : TypeId} {B b : Nat} {bs : List Value} {W W' : World} (h : Lib.IsBuilderF T e B b bs W) (hb : Below W.heap.size W W') : Lib.IsBuilderF T e B b bs W' :=
  h.elim (fun x => .inl (bldAt_below x hb)) (fun x => .inr (bldAt_below x hb))

theorem enc_le (i : Int) : (Utf8.encode i).data.toList.length ≤ 4 := by rw [← Lib.size_eq]; exact encode_size_le i

theorem number_text (b m : Nat) (l : List UInt8) : (number b m l).1.length ≤ 4 := by
  unfold number
  simp only
  split
  · exact Nat.zero_le _
  · simp only
    split
    · decide
    · exact enc_le _
theorem named_text (l : List UInt8) : (named l).1.length ≤ 4 := by
  unfold named
  split
  · exact enc_le _
  · exact Nat.zero_le _

theorem entAt_size (l : List UInt8) : (entAt l).1.length ≤ 4 ∧ (entAt l).2 ≤ l.length + 11 := by
  have num : ∀ (r : List UInt8) (b m a : Nat), m ≤ 7 → a ≤ 3 → entAt (38 :: 35 :: r) = (if (number b m ((38 :: 35 :: r).drop a)).2 = 0 then ([], 0) else ((number b m ((38 :: 35 :: r).drop a)).1, a + (number b m ((38 :: 35 :: r).drop a)).2 + 1)) →
      (entAt (38 :: 35 :: r)).1.length ≤ 4 ∧ (entAt (38 :: 35 :: r)).2 ≤ (38 :: 35 :: r).length + 11 := by
    intro r b m a hm ha h
    rw [h]
    have h1 := number_le b m ((38 :: 35 :: r).drop a)
    split
    · exact ⟨Nat.zero_le _, Nat.zero_le _⟩
    · exact ⟨number_text _ _ _, by simp only [List.length_cons]; omega⟩
  cases l with
  | nil => exact ⟨Nat.zero_le _, Nat.zero_le _⟩
  | cons c rest =>
    by_cases hc : c = 38
    · subst hc
      by_cases h1 : rest.head? = some 35
      · cases rest with
        | nil => simp at h1
        | cons d r =>
          simp at h1
          subst h1
          by_cases h2 : r.head? = some 120 ∨ r.head? = some 88
          · exact num r 16 6 3 (by omega) (by omega) (entAt_num r 16 6 3 (Or.inl ⟨h2, rfl, rfl, rfl⟩))
          · exact num r 10 7 2 (by omega) (by omega) (entAt_num r 10 7 2 (Or.inr ⟨h2, rfl, rfl, rfl⟩))
      · rw [entAt_amp rest h1]
        have hc := cut_le rest [59]
        split
        · split
          · exact ⟨named_text _, by simp only [List.length_cons]; omega⟩
          · exact ⟨Nat.zero_le _, Nat.zero_le _⟩
        · exact ⟨Nat.zero_le _, Nat.zero_le _⟩
    · rw [entAt_other c rest hc]
      exact ⟨Nat.zero_le _, Nat.zero_le _⟩

end Go.Proofs.YtmllkffdejojbaaDoor
