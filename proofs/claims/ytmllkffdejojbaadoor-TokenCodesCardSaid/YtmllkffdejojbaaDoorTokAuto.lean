/-
  token.auto, mail, tag, angle: what stands between angles.
-/
import Derived.Test.YtmllkffdejojbaaDoorTokLe
import Derived.Deep.QuietTactic
import Derived.BigQuiet
namespace Go.Proofs.YtmllkffdejojbaaDoor
open Go.RowKit
set_option maxRecDepth 100000
set_option linter.unusedVariables false
set_option linter.unusedSimpArgs false


def autoSet : List UInt8 := lettersL ++ digitsL ++ [43, 46, 45]
def mailSet : List UInt8 := lettersL ++ digitsL ++ [46, 45, 95, 43]
def hostSet : List UInt8 := lettersL ++ digitsL ++ [45, 46]
def nameSet : List UInt8 := lettersL ++ digitsL ++ [45]

theorem among_letters (s : ByteArray) (k : Nat) (w : World) (hs : s.size ≤ 1000000000) :
    Calls Tryd.prog 83 #[.string (s.extract k s.size), .string ⟨#[97, 98, 99, 100, 101, 102, 103, 104, 105, 106, 107, 108, 109, 110, 111, 112, 113, 114, 115, 116, 117, 118, 119, 120, 121, 122, 65, 66, 67, 68, 69, 70, 71, 72, 73, 74, 75, 76, 77, 78, 79, 80, 81, 82, 83, 84, 85, 86, 87, 88, 89, 90]⟩] w fun e w' => e = .returned (.int .i64 (amongL (s.data.toList.drop k) lettersL)) ∧ Below w.heap.size w w' := by
  have := among_small lettersL (by decide) (by decide) (s.extract k s.size) w (by rw [tail_size]; omega)
  rw [tail_list] at this
  exact this
theorem among_auto (s : ByteArray) (k : Nat) (w : World) (hs : s.size ≤ 1000000000) :
    Calls Tryd.prog 83 #[.string (s.extract k s.size), .string ⟨([97, 98, 99, 100, 101, 102, 103, 104, 105, 106, 107, 108, 109, 110, 111, 112, 113, 114, 115, 116, 117, 118, 119, 120, 121, 122, 65, 66, 67, 68, 69, 70].append [71, 72, 73, 74, 75, 76, 77, 78, 79, 80, 81, 82, 83, 84, 85, 86, 87, 88, 89, 90, 48, 49, 50, 51, 52, 53, 54, 55, 56, 57, 43, 46, 45]).toArray⟩] w fun e w' => e = .returned (.int .i64 (amongL (s.data.toList.drop k) autoSet)) ∧ Below w.heap.size w w' := by
  have := among_small autoSet (by decide) (by decide) (s.extract k s.size) w (by rw [tail_size]; omega)
  rw [tail_list] at this
  exact this
theorem among_mail (s : ByteArray) (k : Nat) (w : World) (hs : s.size ≤ 1000000000) :
    Calls Tryd.prog 83 #[.string (s.extract k s.size), .string ⟨([97, 98, 99, 100, 101, 102, 103, 104, 105, 106, 107, 108, 109, 110, 111, 112, 113, 114, 115, 116, 117, 118, 119, 120, 121, 122, 65, 66, 67, 68, 69, 70].append [71, 72, 73, 74, 75, 76, 77, 78, 79, 80, 81, 82, 83, 84, 85, 86, 87, 88, 89, 90, 48, 49, 50, 51, 52, 53, 54, 55, 56, 57, 46, 45, 95, 43]).toArray⟩] w fun e w' => e = .returned (.int .i64 (amongL (s.data.toList.drop k) mailSet)) ∧ Below w.heap.size w w' := by
  have := among_small mailSet (by decide) (by decide) (s.extract k s.size) w (by rw [tail_size]; omega)
  rw [tail_list] at this
  exact this
theorem among_host (s : ByteArray) (k : Nat) (w : World) (hs : s.size ≤ 1000000000) :
    Calls Tryd.prog 83 #[.string (s.extract k s.size), .string ⟨([97, 98, 99, 100, 101, 102, 103, 104, 105, 106, 107, 108, 109, 110, 111, 112, 113, 114, 115, 116, 117, 118, 119, 120, 121, 122, 65, 66, 67, 68, 69, 70].append [71, 72, 73, 74, 75, 76, 77, 78, 79, 80, 81, 82, 83, 84, 85, 86, 87, 88, 89, 90, 48, 49, 50, 51, 52, 53, 54, 55, 56, 57, 45, 46]).toArray⟩] w fun e w' => e = .returned (.int .i64 (amongL (s.data.toList.drop k) hostSet)) ∧ Below w.heap.size w w' := by
  have := among_small hostSet (by decide) (by decide) (s.extract k s.size) w (by rw [tail_size]; omega)
  rw [tail_list] at this
  exact this
theorem among_name (s : ByteArray) (k : Nat) (w : World) (hs : s.size ≤ 1000000000) :
    Calls Tryd.prog 83 #[.string (s.extract k s.size), .string ⟨([97, 98, 99, 100, 101, 102, 103, 104, 105, 106, 107, 108, 109, 110, 111, 112, 113, 114, 115, 116, 117, 118, 119, 120, 121, 122, 65, 66, 67, 68, 69, 70].append [71, 72, 73, 74, 75, 76, 77, 78, 79, 80, 81, 82, 83, 84, 85, 86, 87, 88, 89, 90, 48, 49, 50, 51, 52, 53, 54, 55, 56, 57, 45]).toArray⟩] w fun e w' => e = .returned (.int .i64 (amongL (s.data.toList.drop k) nameSet)) ∧ Below w.heap.size w w' := by
  have := among_small nameSet (by decide) (by decide) (s.extract k s.size) w (by rw [tail_size]; omega)
  rw [tail_list] at this
  exact this

theorem among_zero_end {l set : List UInt8} (h : amongL l set ≠ 0) : l ≠ [] := by rintro rfl; exact h rfl

theorem auto_eq (s : List UInt8) (t : Nat) (h0 : amongL (s.drop 1) lettersL ≠ 0) (ht : amongL (s.drop 2) autoSet = t) (h1 : 1 ≤ t) (h2 : t ≤ 31) (h3 : (s.drop (2 + t)).head? = some 58) :
    autoL s = (match autoEnd (s.drop (2 + t)) (2 + t) with
      | some i => some (.auto ((s.take i).drop 1) ((s.take i).drop 1), i + 1)
      | none => none) := by
  have ht' : amongL (s.drop 2) (lettersL ++ digitsL ++ [43, 46, 45]) = t := ht
  unfold autoL
  rw [if_neg h0, ht', if_neg (by omega), if_pos h3]
  rfl
theorem auto_no (s : List UInt8) (t : Nat) (ht : amongL (s.drop 2) autoSet = t) (h : amongL (s.drop 1) lettersL = 0 ∨ t < 1 ∨ 31 < t ∨ (s.drop (2 + t)).head? ≠ some 58) : autoL s = none := by
  have ht' : amongL (s.drop 2) (lettersL ++ digitsL ++ [43, 46, 45]) = t := ht
  unfold autoL
  rw [ht']
  split
  · rfl
  · split
    · rfl
    · split
      · rename_i a b c
        exfalso
        rcases h with h | h | h | h
        · exact a h
        · exact b (Or.inl h)
        · exact b (Or.inr h)
        · exact h c
      · rfl

set_option maxHeartbeats 8000000 in
theorem auto_tok (s : ByteArray) (w : World) (h0 : 1 ≤ s.size) (hs : s.size ≤ 1000000000) :
    Calls Tryd.prog 106 #[.string s] w fun e w' => e = .returned (.tuple #[tokVal (autoL s.data.toList), .int .i64 (tokLen (autoL s.data.toList))]) ∧ Below w.heap.size w w' := by
  have hc1 := fun W => among_letters s 1 W hs
  have hc2 := fun W => among_auto s 2 W hs
  have hno := auto_no s.data.toList
  have hyes := auto_eq s.data.toList
  have hl1 := among_le (s.data.toList.drop 1) lettersL
  rw [List.length_drop, ← Lib.size_eq] at hl1
  have hl2 := among_le (s.data.toList.drop 2) autoSet
  rw [List.length_drop, ← Lib.size_eq] at hl2
  obtain ⟨n, hn⟩ : ∃ n, amongL (s.data.toList.drop 1) lettersL = n := ⟨_, rfl⟩
  obtain ⟨t, ht⟩ : ∃ t, amongL (s.data.toList.drop 2) autoSet = t := ⟨_, rfl⟩
  have hno := hno t ht
  have hyes := hyes t
  rw [hn] at hc1 hno hl1 hyes
  rw [ht] at hc2 hl2 hyes
  have HC1 := Lib.hid hc1
  have HC2 := Lib.hid hc2
  clear hc1 hc2 hn ht
  by_cases t0 : n = 0
  · have HN := Lib.hid (hno (Or.inl t0))
    have t0' : ((n : Int) == 0) = true := by rw [beq_iff_eq]; omega
    clear hno hyes
    go_enter Tryd.func106, Tryd.ntmps106
    go_wp2_with fail
    refine (HC1.out _).mono ?_
    rintro e w2 ⟨rfl, b2⟩
    go_wp2_with fail
    go_ret2
    exact ⟨ret_nil HN.out, b2⟩
  · have t0' : ((n : Int) == 0) = false := by rw [beq_eq_false_iff_ne]; omega
    by_cases t1 : t < 1
    · have HN := Lib.hid (hno (Or.inr (Or.inl t1)))
      have t1' : (t : Int) < 1 := by omega
      clear hno hyes
      go_enter Tryd.func106, Tryd.ntmps106
      go_wp2_with fail
      refine (HC1.out _).mono ?_
      rintro e w2 ⟨rfl, b2⟩
      go_wp2_with fail
      refine (HC2.out _).mono ?_
      rintro e w3 ⟨rfl, b3⟩
      have B3 := below_step b2 b3
      go_wp2_with fail
      go_ret2
      exact ⟨ret_nil HN.out, B3⟩
    · have t1' : ¬ (t : Int) < 1 := by omega
      by_cases t2 : 31 < t
      · have HN := Lib.hid (hno (Or.inr (Or.inr (Or.inl t2))))
        have t2' : (31 : Int) < (t : Int) := by omega
        clear hno hyes
        go_enter Tryd.func106, Tryd.ntmps106
        go_wp2_with fail
        refine (HC1.out _).mono ?_
        rintro e w2 ⟨rfl, b2⟩
        go_wp2_with fail
        refine (HC2.out _).mono ?_
        rintro e w3 ⟨rfl, b3⟩
        have B3 := below_step b2 b3
        go_wp2_with fail
        go_ret2
        exact ⟨ret_nil HN.out, B3⟩
      · have t2' : ¬ (31 : Int) < (t : Int) := by omega
        have hp := fun W => pre_at 58 (s.extract (2 + t) s.size) W
        rw [tail_list] at hp
        by_cases t3 : (s.data.toList.drop (2 + t)).head? = some 58
        · have hyes := hyes t0 rfl (by omega) (by omega) t3
          have hlt := head_lt t3
          rw [← Lib.size_eq] at hlt
          rw [decide_eq_true t3] at hp
          have HP := Lib.hid hp
          obtain ⟨R, hR⟩ : ∃ R, autoEnd (s.data.toList.drop (2 + t)) (2 + t) = R := ⟨_, rfl⟩
          rw [hR] at hyes
          have HY := Lib.hid hyes
          have HR := Lib.hid hR
          clear hp hno hyes hR t3
          go_enter Tryd.func106, Tryd.ntmps106
          go_wp2_with fail
          refine (HC1.out _).mono ?_
          rintro e w2 ⟨rfl, b2⟩
          go_wp2_with fail
          refine (HC2.out _).mono ?_
          rintro e w3 ⟨rfl, b3⟩
          have B3 := below_step b2 b3
          go_wp2_with fail
          refine (HP.out _).mono ?_
          rintro e w' ⟨rfl, hw'⟩
          obtain rfl := hw'.symm
          go_wp2_with fail
          go_loop [7] (fun u7 => ∃ i : Nat, u7 = .int .i64 i ∧ 2 ≤ i ∧ i ≤ s.size ∧ autoEnd (s.data.toList.drop i) i = R) (fun u7 => s.size - (intOf u7).toNat)
          case atStart => exact ⟨2 + t, by go_num, by omega, by omega, HR.out⟩
          case round =>
            obtain ⟨i, rfl, hi2, hi, hri⟩ := hrel
            clear HR
            by_cases hit : i < s.size
            · rw [drop_at s i hit, autoEnd] at hri
              obtain ⟨c, hc⟩ : ∃ c, s[i] = c := ⟨_, rfl⟩
              rw [hc] at hri
              by_cases k1 : c = 62
              · subst k1
                rw [if_pos rfl] at hri
                have HRI := Lib.hid hri
                clear hri
                have hi1' : (1 : Int) ≤ (i : Int) := by omega
                have hi2' : (i : Int) ≤ (s.size : Int) := by omega
                go_wp2_with fail
                go_quiet (fail)
                go_wp2_with fail
                go_ret2
                have e1 : (s.extract 1 i).data.toList = (s.data.toList.take i).drop 1 := by rw [Lib.extract_data, List.drop_take]
                exact ⟨ret_auto (u := (s.data.toList.take i).drop 1) (t := (s.data.toList.take i).drop 1) (m := i + 1) (by rw [HY.out, ← HRI.out]) e1 e1 (by omega), B3.trans ((below_drewN _ _).mono B3.size)⟩
              · have k1' : ((c.toNat : Int) == 62) = false := by
                  rw [beq_eq_false_iff_ne]; intro e
                  exact k1 (byte_eq (n := 62) (by omega))
                rw [if_neg k1] at hri
                by_cases k2 : c ≤ 32 ∨ c = 60 ∨ c = 127
                · rw [if_pos k2] at hri
                  have HRI := Lib.hid (show autoL s.data.toList = none by rw [HY.out, ← hri])
                  clear hri
                  have k2' : (c.toNat : Int) ≤ 32 ∨ (¬ (c.toNat : Int) ≤ 32 ∧ c = 60) ∨ (¬ (c.toNat : Int) ≤ 32 ∧ c = 127) := by
                    rcases k2 with h | h | h
                    · exact Or.inl (by rw [UInt8.le_iff_toNat_le] at h; have : (32 : UInt8).toNat = 32 := rfl; omega)
                    · exact Or.inr (Or.inl ⟨by rw [h]; decide, h⟩)
                    · exact Or.inr (Or.inr ⟨by rw [h]; decide, h⟩)
                  rcases k2' with h | ⟨h, rfl⟩ | ⟨h, rfl⟩
                  all_goals
                    go_wp2_with fail
                    go_ret2
                    exact ⟨ret_nil HRI.out, B3⟩
                · rw [if_neg k2] at hri
                  have HRI := Lib.hid hri
                  clear hri
                  have q1 : ¬ (c.toNat : Int) ≤ 32 := by
                    intro h; apply k2; left
                    rw [UInt8.le_iff_toNat_le]; have : (32 : UInt8).toNat = 32 := rfl; omega
                  have q2 : ((c.toNat : Int) == 60) = false := by
                    rw [beq_eq_false_iff_ne]; intro e
                    exact k2 (Or.inr (Or.inl (byte_eq (n := 60) (by omega))))
                  have q3 : ((c.toNat : Int) == 127) = false := by
                    rw [beq_eq_false_iff_ne]; intro e
                    exact k2 (Or.inr (Or.inr (byte_eq (n := 127) (by omega))))
                  go_wp2_with fail
                  go_round
                  case rel => exact ⟨i + 1, by go_num, by omega, by omega, HRI.out⟩
                  case measure => simp [intOf]; omega
            · rw [drop_end s i (by omega), autoEnd] at hri
              have HRI := Lib.hid (show autoL s.data.toList = none by rw [HY.out, ← hri])
              clear hri
              go_wp2_with fail
              go_ret2
              exact ⟨ret_nil HRI.out, B3⟩
        · have HN := Lib.hid (hno (Or.inr (Or.inr (Or.inr t3))))
          rw [decide_eq_false t3] at hp
          have HP := Lib.hid hp
          clear hp hno hyes t3
          go_enter Tryd.func106, Tryd.ntmps106
          go_wp2_with fail
          refine (HC1.out _).mono ?_
          rintro e w2 ⟨rfl, b2⟩
          go_wp2_with fail
          refine (HC2.out _).mono ?_
          rintro e w3 ⟨rfl, b3⟩
          have B3 := below_step b2 b3
          go_wp2_with fail
          refine (HP.out _).mono ?_
          rintro e w' ⟨rfl, hw'⟩
          obtain rfl := hw'.symm
          go_wp2_with fail
          go_ret2
          exact ⟨ret_nil HN.out, B3⟩

end Go.Proofs.YtmllkffdejojbaaDoor
