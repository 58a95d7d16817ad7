/-
  Which tokens a text has that holds no brackets, no code, no angles and no backslash: words, breaks, rows of signs; none goes over a NUL. Plain facts.
-/
import Derived.Test.YtahljcbmckldhaaGreatDoorInlG
namespace Go.Proofs.YtahljcbmckldhaaGreatDoor
open Go.RowKit
set_option linter.unusedVariables false
set_option linter.unusedSimpArgs false

/-! ### no entity goes over a NUL -/
theorem names_nz : ∀ x ∈ entNames, (0 : UInt8) ∉ x := by decide
theorem named_mem {l : List UInt8} (h : (named l).2 = true) : l ∈ entNames := by
  unfold named at h
  split at h
  · rename_i i hi
    obtain ⟨x, hx, rfl⟩ : ∃ x ∈ entNames, x = l := by
      obtain ⟨hlt, he, _⟩ := List.findIdx?_eq_some_iff_getElem.1 hi
      exact ⟨_, List.getElem_mem hlt, by simpa using he⟩
    exact hx
  · cases h
theorem dig_nz {b : Nat} (hb : b ≤ 16) {c : UInt8} (h : isDig b c = true) : c ≠ 0 := by
  intro e
  subst e
  unfold isDig at h
  rw [show digV 0 = 99 from rfl] at h
  simp at h; omega
theorem takeWhile_all {α : Type} (p : α → Bool) : ∀ (l : List α), ∀ x ∈ l.takeWhile p, p x = true
  | [], x, h => by cases h
  | y :: l, x, h => by
    rw [List.takeWhile_cons] at h
    split at h
    · rcases List.mem_cons.1 h with rfl | h
      · assumption
      · exact takeWhile_all p l x h
    · cases h
theorem takeWhile_take {α : Type} (p : α → Bool) : ∀ (l : List α), l.take (l.takeWhile p).length = l.takeWhile p
  | [] => rfl
  | y :: l => by
    rw [List.takeWhile_cons]
    split
    · rw [List.length_cons, List.take_succ_cons, takeWhile_take p l]
    · rfl
theorem number_bytes (b m : Nat) (hb : b ≤ 16) (l : List UInt8) (h : (number b m l).2 ≠ 0) : (number b m l).2 + 1 ≤ l.length ∧ (0 : UInt8) ∉ l.take ((number b m l).2 + 1) := by
  unfold number at h ⊢
  simp only at h ⊢
  split at h
  · exact absurd rfl h
  · rename_i hc
    rw [if_neg hc]
    simp only at h ⊢
    simp only [not_or] at hc
    have h59 : l.getD (digLen b l) 0 = 59 := by simpa using hc.2.2
    have hlt : digLen b l < l.length := by
      rcases Nat.lt_or_ge (digLen b l) l.length with h1 | h1
      · exact h1
      · rw [List.getD_eq_getElem?_getD, List.getElem?_eq_none h1] at h59
        exact absurd h59 (by decide)
    refine ⟨hlt, ?_⟩
    rw [List.take_succ_eq_append_getElem hlt]
    intro hm
    rcases List.mem_append.1 hm with hm | hm
    · unfold digLen at hm
      rw [takeWhile_take] at hm
      exact dig_nz hb (takeWhile_all _ _ _ hm) rfl
    · rw [List.getD_eq_getElem?_getD, List.getElem?_eq_getElem hlt] at h59
      simp at hm h59
      rw [h59] at hm
      exact absurd hm (by decide)
theorem first_of {c : UInt8} : ∀ {l : List UInt8}, c ∈ l → ∃ a b, l = a ++ c :: b ∧ c ∉ a
  | [], h => by cases h
  | x :: l, h => by
    by_cases hx : x = c
    · exact ⟨[], l, by rw [hx]; rfl, by simp⟩
    · rcases List.mem_cons.1 h with rfl | h
      · exact absurd rfl hx
      · obtain ⟨a, b, h1, h2⟩ := first_of h
        exact ⟨x :: a, b, by rw [h1]; rfl, by simp only [List.mem_cons, not_or]; exact ⟨fun e => hx e.symm, h2⟩⟩
theorem ent_nz (l : List UInt8) : (entAt l).2 ≤ l.length ∧ (0 : UInt8) ∉ l.take (entAt l).2 := by
  have no : ∀ l : List UInt8, (0 : Nat) ≤ l.length ∧ (0 : UInt8) ∉ l.take 0 := fun l => ⟨Nat.zero_le _, by simp⟩
  cases l with
  | nil => exact no []
  | cons c rest =>
    by_cases hc : c = 38
    · subst hc
      by_cases h35 : rest.head? = some 35
      · obtain ⟨r, rfl⟩ : ∃ r, rest = 35 :: r := by
          cases rest with
          | nil => cases h35
          | cons d r => simp at h35; exact ⟨r, by rw [h35]⟩
        obtain ⟨b, m, a, hh, hb, ha, hz⟩ : ∃ b m a, ((r.head? = some 120 ∨ r.head? = some 88) ∧ b = 16 ∧ m = 6 ∧ a = 3 ∨ ¬ (r.head? = some 120 ∨ r.head? = some 88) ∧ b = 10 ∧ m = 7 ∧ a = 2) ∧ b ≤ 16 ∧ a ≤ (38 :: 35 :: r).length ∧ (0 : UInt8) ∉ (38 :: 35 :: r).take a := by
          by_cases hx : r.head? = some 120 ∨ r.head? = some 88
          · refine ⟨16, 6, 3, Or.inl ⟨hx, rfl, rfl, rfl⟩, Nat.le_refl _, ?_, ?_⟩
            · cases r with
              | nil => simp at hx
              | cons d r => simp
            · cases r with
              | nil => simp at hx
              | cons d r => simp at hx; rcases hx with rfl | rfl <;> simp
          · exact ⟨10, 7, 2, Or.inr ⟨hx, rfl, rfl, rfl⟩, by omega, by simp, by simp⟩
        rw [entAt_num r b m a hh]
        split
        · exact no _
        · rename_i h0
          obtain ⟨h1, h2⟩ := number_bytes b m hb _ h0
          simp only
          generalize hk : (number b m ((38 :: 35 :: r).drop a)).2 = k at h1 h2
          rw [List.length_drop] at h1
          refine ⟨by omega, ?_⟩
          rw [Nat.add_assoc, List.take_add]
          intro hm
          rcases List.mem_append.1 hm with hm | hm
          · exact hz hm
          · exact h2 hm
      · rw [entAt_amp rest h35]
        by_cases h59 : (59 : UInt8) ∈ rest
        · obtain ⟨a, b, rfl, ha⟩ := first_of h59
          have hcut : Lib.cut (a ++ 59 :: b) [59] = (a, b, true) := cut_hit 59 a b ha
          rw [hcut, if_pos rfl]
          split
          · rename_i hn
            have hz := names_nz a (named_mem hn)
            simp only
            refine ⟨by simp, ?_⟩
            rw [show a.length + 2 = (a ++ [59]).length + 1 by simp, List.take_succ_cons, show a ++ 59 :: b = (a ++ [59]) ++ b by simp, List.take_left]
            simp
            exact hz
          · exact no _
        · have hcut : Lib.cut rest [59] = (rest, [], false) := cut_miss 59 rest h59
          rw [hcut, if_neg (by simp)]
          exact no _
    · rw [entAt_other c rest hc]; exact no _
/-- What stands behind a text: nothing, or a NUL. -/
def NulOr (c : List UInt8) : Prop := c = [] ∨ ∃ r, c = 0 :: r
theorem ent_in (b c : List UInt8) (hc : NulOr c) : (entAt (b ++ c)).2 ≤ b.length := by
  obtain ⟨h1, h2⟩ := ent_nz (b ++ c)
  rcases hc with rfl | ⟨r, rfl⟩
  · simpa using h1
  · rcases Nat.lt_or_ge b.length (entAt (b ++ 0 :: r)).2 with h | h
    · exfalso
      apply h2
      rw [List.take_append, List.mem_append]
      right
      obtain ⟨k, hk⟩ : ∃ k, (entAt (b ++ 0 :: r)).2 - b.length = k + 1 := ⟨(entAt (b ++ 0 :: r)).2 - b.length - 1, by omega⟩
      rw [hk, List.take_succ_cons]
      exact List.mem_cons_self ..
    · exact h
theorem among_in (set b c : List UInt8) (hc : NulOr c) (h0 : set.contains 0 = false) : amongL (b ++ c) set ≤ b.length := by
  rcases hc with rfl | ⟨r, rfl⟩
  · rw [List.append_nil]; exact among_le _ _
  · induction b with
    | nil => rw [List.nil_append, among_stop set 0 r h0]; exact Nat.zero_le _
    | cons x b ih =>
      rw [List.cons_append, among_cons]
      split
      · rw [List.length_cons]; omega
      · exact Nat.zero_le _
theorem plain_in (x : UInt8) (b c : List UInt8) (hc : NulOr c) : 1 ≤ plainTo (x :: (b ++ c)) ∧ plainTo (x :: (b ++ c)) ≤ (x :: b).length := by
  unfold plainTo
  rw [List.drop_succ_cons, List.drop_zero]
  rcases hc with rfl | ⟨r, rfl⟩
  · rw [List.append_nil]
    split
    · rename_i h
      have := indexAny_lt specialL b h
      rw [List.length_cons]; omega
    · exact ⟨by simp, Nat.le_refl _⟩
  · have key : ∀ b : List UInt8, 0 ≤ Lib.indexAny (b ++ 0 :: r) specialL ∧ (Lib.indexAny (b ++ 0 :: r) specialL).toNat ≤ b.length := by
      intro b
      induction b with
      | nil => rw [List.nil_append, indexAny_hit specialL 0 r (by decide)]; exact ⟨Int.le_refl _, Nat.le_refl _⟩
      | cons y b ih =>
        rw [List.cons_append]
        unfold Lib.indexAny
        split
        · exact ⟨Int.le_refl _, Nat.zero_le _⟩
        · rw [if_neg (by simp; omega), List.length_cons]; omega
    obtain ⟨h1, h2⟩ := key b
    rw [if_pos h1, List.length_cons]; omega

/-- The bytes of such a text. -/
def noSign (c : UInt8) : Bool := !(c == 0 || c == 96 || c == 60 || c == 91 || c == 93 || c == 92)
theorem noSign_ne {c : UInt8} (h : noSign c = true) : c ≠ 0 ∧ c ≠ 96 ∧ c ≠ 60 ∧ c ≠ 91 ∧ c ≠ 93 ∧ c ≠ 92 := by
  unfold noSign at h
  simp at h
  exact ⟨h.1.1.1.1.1, h.1.1.1.1.2, h.1.1.1.2, h.1.1.2, h.1.2, h.2⟩
/-- Words, breaks, rows. -/
def Mild (k : Tok) : Prop := (∃ l, k = .word l) ∨ (∃ h, k = .brk h) ∨ ∃ x n, k = .run x n
theorem next_mild (b c : List UInt8) (hb : b ≠ []) (hs : ∀ x ∈ b, noSign x = true) (hc : NulOr c) : ∃ k n, nextL (b ++ c) = (k, n) ∧ 1 ≤ n ∧ n ≤ b.length ∧ Mild k := by
  cases b with
  | nil => exact absurd rfl hb
  | cons x b =>
    obtain ⟨n0, n96, n60, n91, n93, n92⟩ := noSign_ne (hs x (List.mem_cons_self ..))
    have hc10 : c.head? ≠ some 10 := by rcases hc with rfl | ⟨r, rfl⟩ <;> simp
    have hplain : beginsL (x :: (b ++ c)) = none → ∃ k n, nextL ((x :: b) ++ c) = (k, n) ∧ 1 ≤ n ∧ n ≤ (x :: b).length ∧ Mild k := fun h => by
      obtain ⟨h1, h2⟩ := plain_in x b c hc
      exact ⟨_, _, next_none _ h, h1, h2, Or.inl ⟨_, rfl⟩⟩
    have hsome : ∀ k n, beginsL (x :: (b ++ c)) = some (k, n) → 1 ≤ n → n ≤ (x :: b).length → Mild k → ∃ k n, nextL ((x :: b) ++ c) = (k, n) ∧ 1 ≤ n ∧ n ≤ (x :: b).length ∧ Mild k := fun k n h h1 h2 h3 => by
      refine ⟨k, n, ?_, h1, h2, h3⟩
      unfold nextL
      rw [List.cons_append, h]
    by_cases h38 : x = 38
    · have he : beginsL (x :: (b ++ c)) = (if 0 < (entAt (x :: (b ++ c))).2 then some (.word (entAt (x :: (b ++ c))).1, (entAt (x :: (b ++ c))).2) else none) := by
        rw [beginsL, if_neg n0, if_neg n92, if_pos h38]
      by_cases h0 : 0 < (entAt (x :: (b ++ c))).2
      · rw [if_pos h0] at he
        exact hsome _ _ he h0 (ent_in (x :: b) c hc) (Or.inl ⟨_, rfl⟩)
      · rw [if_neg h0] at he
        exact hplain he
    · by_cases hr : x = 42 ∨ x = 95
      · have he : beginsL (x :: (b ++ c)) = some (.run x (amongL (x :: (b ++ c)) [x]), amongL (x :: (b ++ c)) [x]) := by
          rw [beginsL, if_neg n0, if_neg n92, if_neg h38, if_neg n96, if_neg n60, if_pos hr]
        refine hsome _ _ he (by rw [among_cons]; simp) (among_in [x] (x :: b) c hc (by simpa using fun e => n0 e.symm)) (Or.inr (Or.inr ⟨_, _, rfl⟩))
      · by_cases h33 : x = 33
        · have he : beginsL (x :: (b ++ c)) = none := by
            rw [beginsL, if_neg n0, if_neg n92, if_neg h38, if_neg n96, if_neg n60, if_neg hr, if_pos h33, if_neg]
            intro hh
            cases b with
            | nil =>
              rcases hc with rfl | ⟨r, rfl⟩
              · simp at hh
              · simp at hh
            | cons y b =>
              simp at hh
              exact (noSign_ne (hs y (by simp))).2.2.2.1 hh
          exact hplain he
        · by_cases hbl : x = 32 ∨ x = 10
          · have he : beginsL (x :: (b ++ c)) = (if ((x :: (b ++ c)).drop (amongL (x :: (b ++ c)) [32])).head? = some 10 then some (.brk (decide (2 ≤ amongL (x :: (b ++ c)) [32])), amongL (x :: (b ++ c)) [32] + behindT ((x :: (b ++ c)).drop (amongL (x :: (b ++ c)) [32])))
              else some (.word ((x :: (b ++ c)).take (amongL (x :: (b ++ c)) [32])), amongL (x :: (b ++ c)) [32])) := by
              rw [beginsL, if_neg n0, if_neg n92, if_neg h38, if_neg n96, if_neg n60, if_neg hr, if_neg h33, if_neg (by rintro (e | e); exact n91 e; exact n93 e), if_pos hbl]
            have hle := among_in [32] (x :: b) c hc (by decide)
            rw [List.cons_append] at hle
            generalize hk : amongL (x :: (b ++ c)) [32] = k at he hle
            by_cases hh : ((x :: (b ++ c)).drop k).head? = some 10
            · rw [if_pos hh] at he
              have hklt : k < (x :: b).length := by
                rcases Nat.lt_or_ge k (x :: b).length with h1 | h1
                · exact h1
                · have : k = (x :: b).length := Nat.le_antisymm hle h1
                  rw [this, ← List.cons_append, List.drop_left] at hh
                  exact absurd hh hc10
              have hd : (x :: (b ++ c)).drop k = (x :: b).drop k ++ c := by rw [← List.cons_append, List.drop_append_of_le_length hle]
              obtain ⟨y, q, hy⟩ : ∃ y q, (x :: b).drop k = y :: q := by
                cases hq : (x :: b).drop k with
                | nil => have := congrArg List.length hq; simp at this hklt; omega
                | cons y q => exact ⟨y, q, rfl⟩
              have hql : q.length + 1 = (x :: b).length - k := by have := congrArg List.length hy; rw [List.length_drop] at this; simpa using this.symm
              have hbt : behindT ((x :: (b ++ c)).drop k) ≤ q.length + 1 := by
                rw [hd, hy]
                unfold behindT
                rw [List.cons_append, List.drop_succ_cons, List.drop_zero]
                have := among_in [32, 9] q c hc (by decide)
                omega
              have hbt1 : 1 ≤ behindT ((x :: (b ++ c)).drop k) := by unfold behindT; omega
              exact hsome _ _ he (by omega) (by omega) (Or.inr (Or.inl ⟨_, rfl⟩))
            · rw [if_neg hh] at he
              refine hsome _ _ he ?_ hle (Or.inl ⟨_, rfl⟩)
              rcases hbl with rfl | rfl
              · rw [← hk, among_cons]; simp
              · exfalso
                apply hh
                rw [← hk, show amongL (10 :: (b ++ c)) [32] = 0 by rw [among_cons]; rfl]
                rfl
          · refine hplain ?_
            rw [beginsL, if_neg n0, if_neg n92, if_neg h38, if_neg n96, if_neg n60, if_neg hr, if_neg h33, if_neg (by rintro (e | e); exact n91 e; exact n93 e), if_neg hbl]

end Go.Proofs.YtahljcbmckldhaaGreatDoor
