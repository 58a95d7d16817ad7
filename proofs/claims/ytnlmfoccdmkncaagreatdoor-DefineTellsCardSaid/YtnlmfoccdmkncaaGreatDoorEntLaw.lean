/-
  The entity with which a text begins, told name by name, or by its digits. No walk.
-/
import Derived.Test.YtnlmfoccdmkncaaGreatDoorDefD
namespace Go.Proofs.YtnlmfoccdmkncaaGreatDoor
open Go.RowKit
set_option linter.unusedVariables false
set_option linter.unusedSimpArgs false

/-- A name's text: the sign, the name, the end. -/
def entText (k : Nat) : List UInt8 := 38 :: (entNames.getD k [] ++ [59])
def entRune (k : Nat) : List UInt8 := (Utf8.encode (entRunes.getD k 0)).data.toList
theorem ent_facts : ∀ k : Fin 23, (59 : UInt8) ∉ entNames.getD k.val [] ∧ named (entNames.getD k.val []) = (entRune k.val, true) ∧ (entNames.getD k.val []).head? ≠ some 35 ∧ (entNames.getD k.val []) ≠ [] ∧ (entNames.getD k.val []).length ≤ 6 := by decide +kernel

theorem ent_named_of (x : List UInt8) (h : (named x).2 = true) : ∃ k, k < 23 ∧ entNames.getD k [] = x ∧ (named x).1 = entRune k := by
  by_cases hx : ∃ k, k < 23 ∧ entNames.getD k [] = x
  · obtain ⟨k, hk, e⟩ := hx
    refine ⟨k, hk, e, ?_⟩
    have := (ent_facts ⟨k, hk⟩).2.1
    simp only at this
    rw [← e, this]
  · rw [named_none x (fun j hj e => hx ⟨j, hj, e⟩)] at h
    cases h

theorem entAt_open (rest : List UInt8) (h : rest.head? ≠ some 35) : entAt (38 :: rest) = if (cutAt 59 rest).2.2 = true then (if (named (cutAt 59 rest).1).2 = true then ((named (cutAt 59 rest).1).1, (cutAt 59 rest).1.length + 2) else ([], 0)) else ([], 0) := by
  unfold entAt
  split
  · rename_i heq
    simp only [List.cons.injEq, true_and] at heq
    rw [heq] at h
    exact absurd rfl h
  · rename_i heq
    simp only [List.cons.injEq, true_and] at heq
    subst heq
    rfl
  · rename_i h1 h2
    exact absurd rfl (h2 rest)

theorem entAt_name (k : Nat) (hk : k < 23) (r : List UInt8) : entAt (entText k ++ r) = (entRune k, (entNames.getD k []).length + 2) := by
  obtain ⟨h1, h2, h3, h4, _⟩ := ent_facts ⟨k, hk⟩
  simp only at h1 h2 h3 h4
  have e : entText k ++ r = 38 :: (entNames.getD k [] ++ 59 :: r) := by simp [entText]
  rw [e, entAt_open _ (by
    obtain ⟨c, cs, hc⟩ : ∃ c cs, entNames.getD k [] = c :: cs := by
      cases hn : entNames.getD k [] with
      | nil => exact absurd hn h4
      | cons c cs => exact ⟨c, cs, rfl⟩
    rw [hc] at h3 ⊢
    simpa using h3), cut_hit 59 _ r h1]
  simp only
  rw [h2]
  simp

theorem split_first (c : UInt8) : ∀ l : List UInt8, c ∈ l → ∃ a b, l = a ++ c :: b ∧ c ∉ a
  | [], h => by cases h
  | x :: l, h => by
    by_cases hx : x = c
    · exact ⟨[], l, by rw [hx]; rfl, by simp⟩
    · obtain ⟨a, b, e, hn⟩ := split_first c l (by rcases List.mem_cons.1 h with h | h; exact absurd h.symm hx; exact h)
      refine ⟨x :: a, b, by rw [e]; rfl, ?_⟩
      intro hm
      rcases List.mem_cons.1 hm with hm | hm
      · exact hx hm.symm
      · exact hn hm
theorem cut_split (c : UInt8) (l : List UInt8) (h : (cutAt c l).2.2 = true) : l = (cutAt c l).1 ++ c :: (cutAt c l).2.1 := by
  by_cases hc : c ∈ l
  · obtain ⟨a, b, rfl, hna⟩ := split_first c l hc
    rw [cut_hit c a b hna]
  · rw [cut_miss c l hc] at h; cases h

theorem entAt_none (l : List UInt8) (h : ∀ k, k < 23 → ¬ entText k <+: l) (h2 : ¬ [38, 35] <+: l) : entAt l = ([], 0) := by
  cases l with
  | nil => rfl
  | cons c rest =>
    by_cases hc : c = 38
    · subst hc
      have h35 : rest.head? ≠ some 35 := by
        intro e
        cases rest with
        | nil => cases e
        | cons x xs =>
          simp at e; subst e
          exact h2 ⟨xs, rfl⟩
      rw [entAt_open rest h35]
      by_cases hcut : (cutAt 59 rest).2.2 = true
      · rw [if_pos hcut]
        by_cases hn : (named (cutAt 59 rest).1).2 = true
        · exfalso
          obtain ⟨k, hk, e, _⟩ := ent_named_of _ hn
          refine h k hk ⟨(cutAt 59 rest).2.1, ?_⟩
          have hs := cut_split 59 rest hcut
          unfold entText
          rw [e]
          conv => rhs; rw [hs]
          simp
        · rw [if_neg hn]
      · rw [if_neg hcut]
    · exact entAt_other c rest hc

theorem entAt_sharp (r : List UInt8) : entAt (38 :: 35 :: r) = if (number (if r.head? = some 120 ∨ r.head? = some 88 then 16 else 10) (if r.head? = some 120 ∨ r.head? = some 88 then 6 else 7) ((38 :: 35 :: r).drop (if r.head? = some 120 ∨ r.head? = some 88 then 3 else 2))).2 = 0 then ([], 0) else ((number (if r.head? = some 120 ∨ r.head? = some 88 then 16 else 10) (if r.head? = some 120 ∨ r.head? = some 88 then 6 else 7) ((38 :: 35 :: r).drop (if r.head? = some 120 ∨ r.head? = some 88 then 3 else 2))).1, (if r.head? = some 120 ∨ r.head? = some 88 then 3 else 2) + (number (if r.head? = some 120 ∨ r.head? = some 88 then 16 else 10) (if r.head? = some 120 ∨ r.head? = some 88 then 6 else 7) ((38 :: 35 :: r).drop (if r.head? = some 120 ∨ r.head? = some 88 then 3 else 2))).2 + 1) := rfl

end Go.Proofs.YtnlmfoccdmkncaaGreatDoor
