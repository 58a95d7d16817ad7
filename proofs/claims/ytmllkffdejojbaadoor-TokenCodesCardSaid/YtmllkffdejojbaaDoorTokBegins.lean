/-
  token.begins: the token with which a text begins.
-/
import Derived.Test.YtmllkffdejojbaaDoorTokNext
import Derived.Test.YtmllkffdejojbaaDoorAt
namespace Go.Proofs.YtmllkffdejojbaaDoor
open Go.RowKit
set_option maxRecDepth 100000
set_option linter.unusedVariables false
set_option linter.unusedSimpArgs false

theorem pre_two (s : ByteArray) (w : World) :
    Calls Tryd.prog 41 #[.string s, .string ⟨#[33, 91]⟩] w fun e w' => e = .returned (.bool (Lib.hasPrefix s.data.toList [33, 91])) ∧ w' = w :=
  Tryd.strings_HasPrefix s ⟨#[33, 91]⟩ w

theorem ret_same {a b : Option (Tok × Nat)} (h : a = b) : Ending.returned (.tuple #[tokVal a, .int .i64 (tokLen a)]) = .returned (.tuple #[tokVal b, .int .i64 (tokLen b)]) := by rw [h]
theorem ret_brk {o : Option (Tok × Nat)} {b c : Bool} {m : Nat} {n : Int} (h : o = some (.brk b, m)) (hb : c = b) (hn : n = m) : Ending.returned (.tuple #[.iface 98 (.agg #[.bool c]), .int .i64 n]) = .returned (.tuple #[tokVal o, .int .i64 (tokLen o)]) := by
  rw [hb]; exact ret_tok h rfl hn
theorem ret_codeL {o : Option (Tok × Nat)} {r : Tok × Nat} (h : o = some r) : Ending.returned (.tuple #[r.1.val, .int .i64 r.2]) = .returned (.tuple #[tokVal o, .int .i64 (tokLen o)]) := by rw [h]; rfl


set_option maxHeartbeats 8000000 in
/-- A byte that hands the text on to one reader. -/
theorem begins_sub (s : ByteArray) (c : UInt8) (r : List UInt8) (w : World) (hE : Env w) (hl : s.data.toList = c :: r) (hs : s.size ≤ 1000000000) (h : c = 0 ∨ c = 92 ∨ c = 96 ∨ c = 60) :
    Calls Tryd.prog 61 #[.string s] w fun e w' => e = .returned (.tuple #[tokVal (beginsL s.data.toList), .int .i64 (tokLen (beginsL s.data.toList))]) ∧ Below w.heap.size w w' := by
  have hsz : 1 ≤ s.size := by rw [Lib.size_eq, hl]; simp
  have hc : ∀ h, s[0]'h = c := fun h => by
    have := Lib.data_getElem? s 0 h
    rw [hl] at this
    simpa using this.symm
  rcases h with rfl | rfl | rfl | rfl
  · have HB := Lib.hid (show beginsL s.data.toList = atomL s.data.toList by rw [hl]; rfl)
    clear hl
    go_enter Tryd.func61, Tryd.ntmps61
    go_wp2_with fail
    refine (atom_tok s _ hsz hs).mono ?_
    rintro e w2 ⟨rfl, b2⟩
    go_wp2_with fail
    go_ret2
    exact ⟨ret_same HB.out.symm, b2⟩
  · have HB := Lib.hid (show beginsL s.data.toList = escapedL s.data.toList by rw [hl]; rfl)
    clear hl
    go_enter Tryd.func61, Tryd.ntmps61
    go_wp2_with fail
    refine (escaped_tok s _ hsz hs).mono ?_
    rintro e w2 ⟨rfl, b2⟩
    go_wp2_with fail
    go_ret2
    exact ⟨ret_same HB.out.symm, b2⟩
  · have HB := Lib.hid (show beginsL s.data.toList = some (codeL s.data.toList) by rw [hl]; rfl)
    clear hl
    go_enter Tryd.func61, Tryd.ntmps61
    go_wp2_with fail
    refine (code_tok s _ hE hs).mono ?_
    rintro e w2 ⟨rfl, b2⟩
    go_wp2_with fail
    go_ret2
    exact ⟨ret_codeL HB.out, b2⟩
  · have HB := Lib.hid (show beginsL s.data.toList = angleL s.data.toList by rw [hl]; rfl)
    clear hl
    go_enter Tryd.func61, Tryd.ntmps61
    go_wp2_with fail
    refine (angle_tok s _ hsz hs).mono ?_
    rintro e w2 ⟨rfl, b2⟩
    go_wp2_with fail
    go_ret2
    exact ⟨ret_same HB.out.symm, b2⟩

set_option maxHeartbeats 8000000 in
theorem begins_amp (s : ByteArray) (r : List UInt8) (w : World) (hE : Env w) (hl : s.data.toList = 38 :: r) (hs : s.size ≤ 1000000000) :
    Calls Tryd.prog 61 #[.string s] w fun e w' => e = .returned (.tuple #[tokVal (beginsL s.data.toList), .int .i64 (tokLen (beginsL s.data.toList))]) ∧ Below w.heap.size w w' := by
  have hsz : 1 ≤ s.size := by rw [Lib.size_eq, hl]; simp
  have hc : ∀ h, s[0]'h = 38 := fun h => by
    have := Lib.data_getElem? s 0 h
    rw [hl] at this
    simpa using this.symm
  have hB : beginsL s.data.toList = if 0 < (entAt s.data.toList).2 then some (.word (entAt s.data.toList).1, (entAt s.data.toList).2) else none := by rw [hl]; rfl
  have ha := fun W hW => at_any s W hW hs
  obtain ⟨T, hT, _⟩ := ba_ex (entAt s.data.toList).1
  obtain ⟨n, hn⟩ : ∃ n, (entAt s.data.toList).2 = n := ⟨_, rfl⟩
  rw [← hT, hn] at ha hB
  simp only [Lib.mk_data] at ha
  have HA := Lib.hid ha
  have HE := Lib.hid hE
  clear ha hE
  by_cases h0 : 0 < n
  · have h0' : (0 : Int) < (n : Int) := by omega
    rw [if_pos h0] at hB
    have HB := Lib.hid hB
    clear hB hT hn
    go_enter Tryd.func61, Tryd.ntmps61
    go_wp2_with fail
    refine (HA.out _ HE.out).mono ?_
    rintro e w2 ⟨rfl, b2⟩
    go_wp2_with fail
    go_ret2
    exact ⟨ret_word HB.out rfl rfl, b2⟩
  · have h0' : ¬ (0 : Int) < (n : Int) := by omega
    rw [if_neg h0] at hB
    have HB := Lib.hid hB
    clear hB hT hn
    go_enter Tryd.func61, Tryd.ntmps61
    go_wp2_with fail
    refine (HA.out _ HE.out).mono ?_
    rintro e w2 ⟨rfl, b2⟩
    go_wp2_with fail
    go_ret2
    exact ⟨ret_nil HB.out, b2⟩

set_option maxHeartbeats 8000000 in
theorem begins_run (s : ByteArray) (c : UInt8) (r : List UInt8) (w : World) (hl : s.data.toList = c :: r) (hs : s.size ≤ 1000000000) (h : c = 42 ∨ c = 95) :
    Calls Tryd.prog 61 #[.string s] w fun e w' => e = .returned (.tuple #[tokVal (beginsL s.data.toList), .int .i64 (tokLen (beginsL s.data.toList))]) ∧ Below w.heap.size w w' := by
  have hsz : 1 ≤ s.size := by rw [Lib.size_eq, hl]; simp
  have hc : ∀ h, s[0]'h = c := fun h => by
    have := Lib.data_getElem? s 0 h
    rw [hl] at this
    simpa using this.symm
  have hx : s.extract 0 1 = ⟨#[c]⟩ := ba_eq (by rw [Lib.extract_data, hl]; rfl)
  have hm := fun W => among_tok s ⟨#[c]⟩ W (by show 1 < _; omega) (fun j b hj => by
    have : b = c := by
      rw [show (ByteArray.mk #[c]).data.toList = [c] from rfl] at hj
      cases j with
      | zero => simpa using hj.symm
      | succ j => simp at hj
    rw [this]; rcases h with rfl | rfl <;> decide) hs
  rw [show (ByteArray.mk #[c]).data.toList = [c] from rfl] at hm
  have hB : beginsL s.data.toList = some (.run c (amongL s.data.toList [c]), amongL s.data.toList [c]) := by
    rw [hl]
    rcases h with rfl | rfl <;> rfl
  obtain ⟨n, hn⟩ : ∃ n, amongL s.data.toList [c] = n := ⟨_, rfl⟩
  rw [hn] at hm hB
  have HM := Lib.hid hm
  have HB := Lib.hid hB
  clear hm hB hn
  rcases h with rfl | rfl
  all_goals
    go_enter Tryd.func61, Tryd.ntmps61
    go_wp2_with fail
    refine (HM.out _).mono ?_
    rintro e w2 ⟨rfl, b2⟩
    go_wp2_with fail
    go_ret2
    exact ⟨ret_tok HB.out rfl rfl, b2⟩

set_option maxHeartbeats 8000000 in
theorem begins_mark (s : ByteArray) (c : UInt8) (r : List UInt8) (w : World) (hl : s.data.toList = c :: r) (hs : s.size ≤ 1000000000) (h : c = 33 ∨ c = 91 ∨ c = 93) :
    Calls Tryd.prog 61 #[.string s] w fun e w' => e = .returned (.tuple #[tokVal (beginsL s.data.toList), .int .i64 (tokLen (beginsL s.data.toList))]) ∧ Below w.heap.size w w' := by
  have hsz : 1 ≤ s.size := by rw [Lib.size_eq, hl]; simp
  have hc : ∀ h, s[0]'h = c := fun h => by
    have := Lib.data_getElem? s 0 h
    rw [hl] at this
    simpa using this.symm
  have hx : s.extract 0 1 = ⟨#[c]⟩ := ba_eq (by rw [Lib.extract_data, hl]; rfl)
  rcases h with rfl | rfl | rfl
  · have hp := fun W => pre_two s W
    have hq : Lib.hasPrefix s.data.toList [33, 91] = decide (r.head? = some 91) := by
      rw [hl]
      unfold Lib.hasPrefix
      cases r with
      | nil => rfl
      | cons d r =>
        by_cases e : d = 91
        · simp [List.isPrefixOf, e]
        · simp [List.isPrefixOf, e, Ne.symm e]
    rw [hq] at hp
    have hB : beginsL s.data.toList = if r.head? = some 91 then some (.mark [33, 91], 2) else none := by rw [hl]; rfl
    by_cases hd : r.head? = some 91
    · rw [decide_eq_true hd] at hp
      rw [if_pos hd] at hB
      have HP := Lib.hid hp
      have HB := Lib.hid hB
      clear hp hB hq hd
      go_enter Tryd.func61, Tryd.ntmps61
      go_wp2_with fail
      refine (HP.out _).mono ?_
      rintro e w' ⟨rfl, hw'⟩
      obtain rfl := hw'.symm
      go_wp2_with fail
      go_ret2
      exact ⟨ret_tok HB.out rfl rfl, Below.refl _ _⟩
    · rw [decide_eq_false hd] at hp
      rw [if_neg hd] at hB
      have HP := Lib.hid hp
      have HB := Lib.hid hB
      clear hp hB hq hd
      go_enter Tryd.func61, Tryd.ntmps61
      go_wp2_with fail
      refine (HP.out _).mono ?_
      rintro e w' ⟨rfl, hw'⟩
      obtain rfl := hw'.symm
      go_wp2_with fail
      go_ret2
      exact ⟨ret_nil HB.out, Below.refl _ _⟩
  · have HB := Lib.hid (show beginsL s.data.toList = some (.mark [91], 1) by rw [hl]; rfl)
    go_enter Tryd.func61, Tryd.ntmps61
    go_wp2_with fail
    go_ret2
    exact ⟨ret_tok HB.out rfl rfl, Below.refl _ _⟩
  · have HB := Lib.hid (show beginsL s.data.toList = some (.mark [93], 1) by rw [hl]; rfl)
    go_enter Tryd.func61, Tryd.ntmps61
    go_wp2_with fail
    go_ret2
    exact ⟨ret_tok HB.out rfl rfl, Below.refl _ _⟩

set_option maxHeartbeats 8000000 in
theorem begins_blank (s : ByteArray) (c : UInt8) (r : List UInt8) (w : World) (hl : s.data.toList = c :: r) (hs : s.size ≤ 1000000000) (h : c = 32 ∨ c = 10) :
    Calls Tryd.prog 61 #[.string s] w fun e w' => e = .returned (.tuple #[tokVal (beginsL s.data.toList), .int .i64 (tokLen (beginsL s.data.toList))]) ∧ Below w.heap.size w w' := by
  have hsz : 1 ≤ s.size := by rw [Lib.size_eq, hl]; simp
  have hc : ∀ h, s[0]'h = c := fun h => by
    have := Lib.data_getElem? s 0 h
    rw [hl] at this
    simpa using this.symm
  have hm := fun W => among_small [32] (by decide) (by decide) s W hs
  have hle := among_le s.data.toList [32]
  rw [← Lib.size_eq] at hle
  have hB : beginsL s.data.toList = if (s.data.toList.drop (amongL s.data.toList [32])).head? = some 10 then some (.brk (decide (2 ≤ amongL s.data.toList [32])), amongL s.data.toList [32] + behindT (s.data.toList.drop (amongL s.data.toList [32])))
      else some (.word (s.data.toList.take (amongL s.data.toList [32])), amongL s.data.toList [32]) := by
    rw [hl]
    rcases h with rfl | rfl <;> rfl
  obtain ⟨n, hn⟩ : ∃ n, amongL s.data.toList [32] = n := ⟨_, rfl⟩
  rw [hn] at hm hB hle
  have hp := fun W => pre_at 10 (s.extract n s.size) W
  rw [tail_list] at hp
  have HM := Lib.hid hm
  clear hm hn
  by_cases hd : (s.data.toList.drop n).head? = some 10
  · have hlt := head_lt hd
    rw [← Lib.size_eq] at hlt
    rw [decide_eq_true hd] at hp
    rw [if_pos hd] at hB
    have hb := fun W => behind_tok (s.extract n s.size) W (by rw [tail_size]; omega) (by rw [tail_size]; omega)
    rw [tail_list] at hb
    have hbl : behindT (s.data.toList.drop n) ≤ 1000000000 := by
      unfold behindT
      have := among_le ((s.data.toList.drop n).drop 1) [32, 9]
      simp only [List.length_drop] at this
      rw [← Lib.size_eq] at this
      omega
    obtain ⟨k, hk⟩ : ∃ k, behindT (s.data.toList.drop n) = k := ⟨_, rfl⟩
    rw [hk] at hb hB hbl
    have HP := Lib.hid hp
    have HB := Lib.hid hB
    have HBB := Lib.hid hb
    clear hp hB hb hk hd hl
    rcases h with rfl | rfl
    all_goals
      go_enter Tryd.func61, Tryd.ntmps61
      go_wp2_with fail
      refine (HM.out _).mono ?_
      rintro e w2 ⟨rfl, b2⟩
      go_wp2_with fail
      refine (HP.out _).mono ?_
      rintro e w' ⟨rfl, hw'⟩
      obtain rfl := hw'.symm
      go_wp2_with fail
      refine (HBB.out _).mono ?_
      rintro e w3 ⟨rfl, b3⟩
      have B3 := below_step b2 b3
      go_wp2_with fail
      go_ret2
      exact ⟨ret_brk HB.out (by rw [decide_eq_decide]; omega) (by omega), B3⟩
  · rw [decide_eq_false hd] at hp
    rw [if_neg hd] at hB
    have HP := Lib.hid hp
    have HB := Lib.hid hB
    clear hp hB hd hl
    rcases h with rfl | rfl
    all_goals
      go_enter Tryd.func61, Tryd.ntmps61
      go_wp2_with fail
      refine (HM.out _).mono ?_
      rintro e w2 ⟨rfl, b2⟩
      go_wp2_with fail
      refine (HP.out _).mono ?_
      rintro e w' ⟨rfl, hw'⟩
      obtain rfl := hw'.symm
      go_wp2_with fail
      go_ret2
      exact ⟨ret_word HB.out (by rw [Lib.extract_data]; simp) rfl, b2⟩

/-- The bytes with which a token of its own may begin. -/
def headBytes : List UInt8 := [0, 92, 38, 96, 60, 42, 95, 33, 91, 93, 32, 10]

set_option maxHeartbeats 8000000 in
theorem begins_other (s : ByteArray) (c : UInt8) (r : List UInt8) (w : World) (hl : s.data.toList = c :: r) (h : headBytes.contains c = false) :
    Calls Tryd.prog 61 #[.string s] w fun e w' => e = .returned (.tuple #[tokVal (beginsL s.data.toList), .int .i64 (tokLen (beginsL s.data.toList))]) ∧ Below w.heap.size w w' := by
  have hsz : 1 ≤ s.size := by rw [Lib.size_eq, hl]; simp
  have hc : ∀ h, s[0]'h = c := fun h => by
    have := Lib.data_getElem? s 0 h
    rw [hl] at this
    simpa using this.symm
  have ne : ∀ k : UInt8, headBytes.contains k = true → ((c.toNat : Int) == (k.toNat : Int)) = false := fun k hk => by
    rw [beq_eq_false_iff_ne]
    intro e
    have : c = k := by have h1 : c.toNat = k.toNat := by omega
                       rw [← UInt8.ofNat_toNat (x := c), h1, UInt8.ofNat_toNat]
    rw [this, hk] at h
    cases h
  have HB := Lib.hid (show beginsL s.data.toList = none by
    have n : ∀ k : UInt8, headBytes.contains k = true → c ≠ k := fun k hk e => by rw [e, hk] at h; cases h
    rw [hl, beginsL, if_neg (n 0 rfl), if_neg (n 92 rfl), if_neg (n 38 rfl), if_neg (n 96 rfl), if_neg (n 60 rfl), if_neg (by rintro (e | e); exact n 42 rfl e; exact n 95 rfl e), if_neg (n 33 rfl), if_neg (by rintro (e | e); exact n 91 rfl e; exact n 93 rfl e), if_neg (by rintro (e | e); exact n 32 rfl e; exact n 10 rfl e)])
  have n0 : ((c.toNat : Int) == 0) = false := ne 0 rfl
  have n1 : ((c.toNat : Int) == 92) = false := ne 92 rfl
  have n2 : ((c.toNat : Int) == 38) = false := ne 38 rfl
  have n3 : ((c.toNat : Int) == 96) = false := ne 96 rfl
  have n4 : ((c.toNat : Int) == 60) = false := ne 60 rfl
  have n5 : ((c.toNat : Int) == 42) = false := ne 42 rfl
  have n6 : ((c.toNat : Int) == 95) = false := ne 95 rfl
  have n7 : ((c.toNat : Int) == 33) = false := ne 33 rfl
  have n8 : ((c.toNat : Int) == 91) = false := ne 91 rfl
  have n9 : ((c.toNat : Int) == 93) = false := ne 93 rfl
  have n10 : ((c.toNat : Int) == 32) = false := ne 32 rfl
  have n11 : ((c.toNat : Int) == 10) = false := ne 10 rfl
  clear ne h hl
  go_enter Tryd.func61, Tryd.ntmps61
  go_wp2_with fail
  go_ret2
  exact ⟨ret_nil HB.out, Below.refl _ _⟩

/-- THE TOKEN WITH WHICH A TEXT BEGINS. -/
theorem begins_tok (s : ByteArray) (w : World) (hE : Env w) (h0 : 1 ≤ s.size) (hs : s.size ≤ 1000000000) :
    Calls Tryd.prog 61 #[.string s] w fun e w' => e = .returned (.tuple #[tokVal (beginsL s.data.toList), .int .i64 (tokLen (beginsL s.data.toList))]) ∧ Below w.heap.size w w' := by
  obtain ⟨c, r, hl⟩ : ∃ c r, s.data.toList = c :: r := by
    cases h : s.data.toList with
    | nil => rw [Lib.size_eq, h] at h0; simp at h0
    | cons c r => exact ⟨c, r, rfl⟩
  cases h : headBytes.contains c with
  | false => exact begins_other s c r w hl h
  | true =>
    have hm : c = 0 ∨ c = 92 ∨ c = 38 ∨ c = 96 ∨ c = 60 ∨ c = 42 ∨ c = 95 ∨ c = 33 ∨ c = 91 ∨ c = 93 ∨ c = 32 ∨ c = 10 := by
      simpa [headBytes] using h
    rcases hm with h | h | h | h | h | h | h | h | h | h | h | h
    · exact begins_sub s c r w hE hl hs (Or.inl h)
    · exact begins_sub s c r w hE hl hs (Or.inr (Or.inl h))
    · subst h; exact begins_amp s r w hE hl hs
    · exact begins_sub s c r w hE hl hs (Or.inr (Or.inr (Or.inl h)))
    · exact begins_sub s c r w hE hl hs (Or.inr (Or.inr (Or.inr h)))
    · exact begins_run s c r w hl hs (Or.inl h)
    · exact begins_run s c r w hl hs (Or.inr h)
    · exact begins_mark s c r w hl hs (Or.inl h)
    · exact begins_mark s c r w hl hs (Or.inr (Or.inl h))
    · exact begins_mark s c r w hl hs (Or.inr (Or.inr h))
    · exact begins_blank s c r w hl hs (Or.inl h)
    · exact begins_blank s c r w hl hs (Or.inr h)

end Go.Proofs.YtmllkffdejojbaaDoor
