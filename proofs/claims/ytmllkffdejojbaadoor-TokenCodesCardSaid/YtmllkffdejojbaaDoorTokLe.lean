/-
  token: a token has bytes, and not many more than the text. Plain facts.
-/
import Derived.Test.YtmllkffdejojbaaDoorTokCode
import Derived.Test.YtmllkffdejojbaaDoorGrow
namespace Go.Proofs.YtmllkffdejojbaaDoor
open Go.RowKit
set_option maxRecDepth 100000
set_option linter.unusedVariables false
set_option linter.unusedSimpArgs false

theorem head_lt {l : List UInt8} {k : Nat} {c : UInt8} (h : (l.drop k).head? = some c) : k < l.length := by
  rcases Nat.lt_or_ge k l.length with h' | h'
  · exact h'
  · rw [List.drop_eq_nil_of_le h'] at h; cases h

theorem codeGo_le (s : List UInt8) (n : Nat) (hn : n ≤ s.length) : ∀ (f i : Nat), i ≤ s.length → (codeGo f s n i).2 ≤ s.length ∧ (n ≤ i → n ≤ (codeGo f s n i).2)
  | 0, i, _ => ⟨hn, fun _ => Nat.le_refl _⟩
  | f + 1, i, hi => by
    rw [codeGo]
    split
    · exact ⟨hn, fun _ => Nat.le_refl _⟩
    · rename_i hk
      have hlt := indexByte_lt 96 (s.drop i) (by omega)
      rw [List.length_drop] at hlt
      have hm := among_le (s.drop (i + (Lib.indexByte (s.drop i) 96).toNat)) [96]
      rw [List.length_drop] at hm
      split
      · rename_i e
        rw [e] at hm
        exact ⟨by simp only; omega, fun h => by simp only; omega⟩
      · have ih := codeGo_le s n hn f (i + (Lib.indexByte (s.drop i) 96).toNat + amongL (s.drop (i + (Lib.indexByte (s.drop i) 96).toNat)) [96]) (by omega)
        exact ⟨ih.1, fun h => ih.2 (by omega)⟩
theorem code_le (c : UInt8) (r : List UInt8) (h : c = 96) : (codeL (c :: r)).2 ≤ (c :: r).length ∧ 0 < (codeL (c :: r)).2 := by
  have hn := among_le (c :: r) [96]
  have hk := codeGo_le (c :: r) _ hn ((c :: r).length + 1) _ hn
  have h1 : 1 ≤ amongL (c :: r) [96] := by rw [h, among_cons]; simp
  exact ⟨hk.1, Nat.lt_of_lt_of_le h1 (hk.2 (Nat.le_refl _))⟩

theorem autoEnd_lt : ∀ (l : List UInt8) (i j : Nat), autoEnd l i = some j → i ≤ j ∧ j < i + l.length
  | [], i, j, h => by cases h
  | c :: l, i, j, h => by
    rw [autoEnd] at h
    split at h
    · injection h with h; subst h; simp
    · split at h
      · cases h
      · have := autoEnd_lt l (i + 1) j h
        simp; omega
theorem tagEnd_lt : ∀ (l : List UInt8) (i j : Nat), tagEnd l i = some j → i ≤ j ∧ j < i + l.length
  | [], i, j, h => by cases h
  | c :: l, i, j, h => by
    rw [tagEnd] at h
    split at h
    · injection h with h; subst h; simp
    · split at h
      · cases h
      · have := tagEnd_lt l (i + 1) j h
        simp; omega

theorem auto_le {s : List UInt8} {t : Tok} {n : Nat} (h : autoL s = some (t, n)) : 0 < n ∧ n ≤ s.length := by
  unfold autoL at h
  split at h
  · cases h
  · split at h
    · cases h
    · split at h
      · rename_i h3
        have h3' := head_lt h3
        split at h
        · rename_i i hi
          have := autoEnd_lt _ _ _ hi
          rw [List.length_drop] at this
          injection h with h
          injection h with h1 h2
          omega
        · cases h
      · cases h
theorem mail_le {s : List UInt8} {t : Tok} {n : Nat} (h : mailL s = some (t, n)) : 0 < n ∧ n ≤ s.length := by
  unfold mailL at h
  split at h
  · cases h
  · split at h
    · split at h
      · cases h
      · split at h
        · rename_i h4
          have h4' := head_lt h4
          injection h with h
          injection h with h1 h2
          omega
        · cases h
    · cases h
theorem tagAt_le {s : List UInt8} {a : Nat} {t : Tok} {n : Nat} (h : tagAt s a = some (t, n)) : 0 < n ∧ n ≤ s.length := by
  unfold tagAt at h
  split at h
  · cases h
  · split at h
    · cases h
    · rename_i c r hcr
      split at h
      · cases h
      · split at h
        · rename_i i hi
          have := tagEnd_lt _ _ _ hi
          have hl := congrArg List.length hcr
          rw [List.length_drop] at hl
          simp at hl this
          injection h with h
          injection h with h1 h2
          omega
        · cases h
theorem atom_le {s : List UInt8} {t : Tok} {n : Nat} (h : atomL s = some (t, n)) : 0 < n ∧ n ≤ s.length := by
  unfold atomL at h
  split at h
  · cases h
  · split at h
    · rename_i h3
      have h3' := head_lt h3
      injection h with h
      injection h with h1 h2
      omega
    · cases h
theorem behindT_le (s : List UInt8) (h : 1 ≤ s.length) : 1 ≤ behindT s ∧ behindT s ≤ s.length := by
  unfold behindT
  have := among_le (s.drop 1) [32, 9]
  rw [List.length_drop] at this
  omega
theorem escaped_le {s : List UInt8} {t : Tok} {n : Nat} (h : escapedL s = some (t, n)) : 0 < n ∧ n ≤ s.length := by
  unfold escapedL at h
  split at h
  · cases h
  · rename_i c r hcr
    have hl := congrArg List.length hcr
    rw [List.length_drop] at hl
    simp at hl
    split at h
    · injection h with h; injection h with h1 h2; omega
    · split at h
      · have := behindT_le (s.drop 1) (by rw [List.length_drop]; omega)
        rw [List.length_drop] at this
        injection h with h; injection h with h1 h2; omega
      · cases h

theorem begins_le {s : List UInt8} {t : Tok} {n : Nat} (h : beginsL s = some (t, n)) : 0 < n ∧ n ≤ s.length + 11 := by
  cases s with
  | nil => cases h
  | cons c r =>
    rw [beginsL] at h
    have pk : ∀ {x : Tok × Nat}, some x = some (t, n) → n = x.2 := fun e => by injection e with e; rw [e]
    split at h
    · have := atom_le h; omega
    · split at h
      · have := escaped_le h; omega
      · split at h
        · split at h
          · rename_i h0
            have := (entAt_size (c :: r)).2
            have := pk h
            simp only at this; omega
          · cases h
        · split at h
          · rename_i hc
            have := code_le c r hc
            have := pk h
            omega
          · split at h
            · unfold angleL at h
              split at h
              · rename_i x hx
                have := pk h
                have := auto_le (t := x.1) (n := x.2) hx
                omega
              · split at h
                · rename_i x hx
                  have := pk h
                  have := mail_le (t := x.1) (n := x.2) hx
                  omega
                · unfold tagL at h
                  have := tagAt_le h
                  omega
            · split at h
              · have := pk h
                have := among_le (c :: r) [c]
                have h1 : 1 ≤ amongL (c :: r) [c] := by rw [among_cons]; simp
                simp only at *; omega
              · split at h
                · split at h
                  · have := pk h; simp only at this; simp; omega
                  · cases h
                · split at h
                  · have := pk h; simp only at this; simp; omega
                  · split at h
                    · rename_i hc
                      split at h
                      · rename_i h3
                        have h3' := head_lt h3
                        have hb := behindT_le ((c :: r).drop (amongL (c :: r) [32])) (by rw [List.length_drop]; omega)
                        rw [List.length_drop] at hb
                        have := pk h
                        simp only at this; omega
                      · rename_i h3
                        have := among_le (c :: r) [32]
                        have h1 : 1 ≤ amongL (c :: r) [32] := by
                          rcases hc with rfl | rfl
                          · rw [among_cons]; simp
                          · exfalso; apply h3
                            rw [show amongL (10 :: r) [32] = 0 by rw [among_cons]; rfl]
                            rfl
                        have := pk h
                        simp only at this; omega
                    · cases h

theorem indexAny_lt (chars : List UInt8) : ∀ (l : List UInt8), 0 ≤ Lib.indexAny l chars → (Lib.indexAny l chars).toNat < l.length
  | [], h => by
    have : Lib.indexAny [] chars = -1 := rfl
    rw [this] at h; omega
  | b :: l, h => by
    have ih := indexAny_lt chars l
    unfold Lib.indexAny at h ⊢
    split
    · simp
    · rename_i hb
      rw [if_neg hb] at h
      split
      · rename_i hm; rw [if_pos hm] at h; omega
      · rename_i hm
        have hge := Lib.indexAny_ge chars l
        have hne : Lib.indexAny l chars ≠ -1 := by simpa using hm
        have := ih (by omega)
        simp; omega

theorem next_le (s : List UInt8) (h : s ≠ []) : 0 < (nextL s).2 ∧ (nextL s).2 ≤ s.length + 11 := by
  have hl := List.length_pos_iff.2 h
  unfold nextL
  cases hb : beginsL s with
  | some r => exact begins_le (t := r.1) (n := r.2) hb
  | none =>
    simp only
    unfold plainTo
    split
    · rename_i h0
      have := indexAny_lt specialL (s.drop 1) h0
      rw [List.length_drop] at this
      omega
    · omega

end Go.Proofs.YtmllkffdejojbaaDoor
