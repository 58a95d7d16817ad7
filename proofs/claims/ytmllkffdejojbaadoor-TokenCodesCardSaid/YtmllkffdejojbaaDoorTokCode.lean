/-
  token.code: what stands between backquotes.
-/
import Derived.Test.YtmllkffdejojbaaDoorTokAtom
import Derived.Test.YtmllkffdejojbaaDoorDefLaw
import Derived.Lib.Replace
import Derived.Lib.CountLaws
import Derived.Shelf.Strings.Replace
namespace Go.Proofs.YtmllkffdejojbaaDoor
open Go.RowKit
set_option maxRecDepth 100000
set_option linter.unusedVariables false
set_option linter.unusedSimpArgs false

theorem replace_lf : ∀ (n : Nat) (l : List UInt8), l.length ≤ n → Lib.replaceK [10] [32] (Lib.count l [10]) l = lfBlank l
  | n, [], _ => by
    rw [Lib.count_miss (by rfl)]; rfl
  | 0, c :: l, h => by simp at h
  | n + 1, c :: l, h => by
    by_cases hm : (10 : UInt8) ∈ c :: l
    · obtain ⟨a, b, hab, ha⟩ := List.append_of_mem hm |> fun ⟨a, b, e⟩ => (show ∃ a b, c :: l = a ++ 10 :: b ∧ (10 : UInt8) ∉ a from by
        have key : ∀ (x : List UInt8), (10 : UInt8) ∈ x → ∃ a b, x = a ++ 10 :: b ∧ (10 : UInt8) ∉ a := by
          intro x
          induction x with
          | nil => intro h; cases h
          | cons y x ih =>
            intro h
            by_cases hy : y = 10
            · exact ⟨[], x, by rw [hy]; rfl, by simp⟩
            · obtain ⟨a, b, e, k⟩ := ih (by rcases List.mem_cons.1 h with h | h; exact absurd h.symm hy; exact h)
              exact ⟨y :: a, b, by rw [e]; rfl, by
                intro h
                rcases List.mem_cons.1 h with h | h
                · exact hy h.symm
                · exact k h⟩
        exact key _ hm)
      have hi : Lib.index (c :: l) [10] = (a.length : Nat) := by rw [hab]; exact index_hit 10 a b ha
      have hd : (c :: l).drop (a.length + ([10] : List UInt8).length) = b := by
        rw [hab, show a ++ (10 : UInt8) :: b = (a ++ [10]) ++ b by simp, List.drop_left' (by simp)]
      rw [Lib.count_hit (by simp) hi, hd, Nat.add_comm 1, Lib.replaceK_hit _ _ _ _ _ hi, hd]
      have hbl : b.length ≤ n := by
        have := congrArg List.length hab
        simp at this h; omega
      rw [replace_lf n b hbl, hab, List.take_left' rfl]
      have hna : lfBlank a = a := by
        unfold lfBlank
        conv => rhs; rw [← List.map_id a]
        refine List.map_congr_left (fun x hx => ?_)
        rw [if_neg (fun e => ha (by rw [← e]; exact hx))]
        rfl
      have : lfBlank (a ++ 10 :: b) = lfBlank a ++ 32 :: lfBlank b := by unfold lfBlank; simp
      rw [this, hna]
      simp
    · rw [Lib.count_miss (index_miss 10 _ hm)]
      show c :: l = _
      unfold lfBlank
      conv => lhs; rw [← List.map_id (c :: l)]
      refine List.map_congr_left (fun x hx => ?_)
      rw [if_neg (fun e => hm (by rw [← e]; exact hx))]
      rfl
theorem replaceAll_lf (l : List UInt8) : Lib.replaceAll l [10] [32] = lfBlank l := by
  unfold Lib.replaceAll Lib.replace
  rw [if_neg (by decide)]
  unfold Lib.replaceNum
  rw [if_pos (Or.inl (by omega))]
  exact replace_lf l.length l (Nat.le_refl _)

theorem lf_len (l : List UInt8) : (lfBlank l).length = l.length := by simp [lfBlank]

/-- 'strings.ReplaceAll(x, "\n", " ")'. -/
theorem lf_any (s : ByteArray) (w : World) (hE : Env w) (hs : s.size ≤ 1000000000) :
    Calls Tryd.prog 103 #[.string s, .string ⟨#[10]⟩, .string ⟨#[32]⟩] w fun e w' => e = .returned (.string ⟨(lfBlank s.data.toList).toArray⟩) ∧ Below w.heap.size w w' := by
  obtain ⟨m, hm⟩ := hE.maxl
  have hcb := Lib.countB_le ⟨#[10]⟩ (by decide) s.size s (Nat.le_refl _)
  have := Tryd.strings_ReplaceAll s ⟨#[10]⟩ ⟨#[32]⟩ m w (by omega) hm (by decide) (by
    rw [show (ByteArray.mk #[32]).size = 1 from rfl]
    omega)
  rw [show (ByteArray.mk #[10]).data.toList = [10] from rfl, show (ByteArray.mk #[32]).data.toList = [32] from rfl, replaceAll_lf] at this
  exact this

theorem indexByte_lt (c : UInt8) : ∀ (l : List UInt8), 0 ≤ Lib.indexByte l c → (Lib.indexByte l c).toNat < l.length ∧ l[(Lib.indexByte l c).toNat]? = some c
  | [], h => by
    have : Lib.indexByte [] c = -1 := rfl
    rw [this] at h; omega
  | b :: l, h => by
    have ih := indexByte_lt c l
    unfold Lib.indexByte at h ⊢
    split
    · rename_i hb
      have : b = c := by simpa using hb
      exact ⟨by simp, by simp [this]⟩
    · rename_i hb
      rw [if_neg hb] at h
      split
      · rename_i hm; rw [if_pos hm] at h; omega
      · rename_i hm
        have hge := Lib.indexByte_ge l c
        have hne : Lib.indexByte l c ≠ -1 := by simpa using hm
        obtain ⟨k1, k2⟩ := ih (by omega)
        have e : (Lib.indexByte l c + 1).toNat = (Lib.indexByte l c).toNat + 1 := by omega
        rw [e]
        exact ⟨by simp; omega, by simpa using k2⟩

end Go.Proofs.YtmllkffdejojbaaDoor
