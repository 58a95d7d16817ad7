/-
  The texts TokAuto, TokTag, TokCode2, TokNext, TokBegins, TokOne, TokTa, Text, Restore, ParSt, PutOne, Token1, Token2, ItemIn, Flank, one behind the other.
-/
import Derived.Test.YtahljcbmckldhaaGreatDoorInlD
import Derived.Deep.QuietTactic
import Derived.BigQuiet
import Derived.LoopN
import Derived.OwnWalk
import Derived.Laws.OwnMore
import Derived.Maps.AppendAt
import Derived.Deep.AppendLies
import Derived.OneCell
import Derived.Deep.RegionHeld3
import Derived.Shelf.Unicode.DecodeAny

/-
  token.auto, mail, tag, angle: what stands between angles.
-/
namespace Go.Proofs.YtahljcbmckldhaaGreatDoor
open Go.RowKit
set_option maxRecDepth 100000
set_option linter.unusedVariables false
set_option linter.unusedSimpArgs false


def autoSet : List UInt8 := lettersL ++ digitsL ++ [43, 46, 45]
def mailSet : List UInt8 := lettersL ++ digitsL ++ [46, 45, 95, 43]
def hostSet : List UInt8 := lettersL ++ digitsL ++ [45, 46]
def nameSet : List UInt8 := lettersL ++ digitsL ++ [45]

theorem among_letters (s : ByteArray) (k : Nat) (w : World) (hs : s.size ≤ 1000000000) :
    Calls Tryz.prog 45 #[.string (s.extract k s.size), .string ⟨#[97, 98, 99, 100, 101, 102, 103, 104, 105, 106, 107, 108, 109, 110, 111, 112, 113, 114, 115, 116, 117, 118, 119, 120, 121, 122, 65, 66, 67, 68, 69, 70, 71, 72, 73, 74, 75, 76, 77, 78, 79, 80, 81, 82, 83, 84, 85, 86, 87, 88, 89, 90]⟩] w fun e w' => e = .returned (.int .i64 (amongL (s.data.toList.drop k) lettersL)) ∧ Below w.heap.size w w' := by
  have := among_small lettersL (by decide) (by decide) (s.extract k s.size) w (by rw [tail_size]; omega)
  rw [tail_list] at this
  exact this
theorem among_auto (s : ByteArray) (k : Nat) (w : World) (hs : s.size ≤ 1000000000) :
    Calls Tryz.prog 45 #[.string (s.extract k s.size), .string ⟨([97, 98, 99, 100, 101, 102, 103, 104, 105, 106, 107, 108, 109, 110, 111, 112, 113, 114, 115, 116, 117, 118, 119, 120, 121, 122, 65, 66, 67, 68, 69, 70].append [71, 72, 73, 74, 75, 76, 77, 78, 79, 80, 81, 82, 83, 84, 85, 86, 87, 88, 89, 90, 48, 49, 50, 51, 52, 53, 54, 55, 56, 57, 43, 46, 45]).toArray⟩] w fun e w' => e = .returned (.int .i64 (amongL (s.data.toList.drop k) autoSet)) ∧ Below w.heap.size w w' := by
  have := among_small autoSet (by decide) (by decide) (s.extract k s.size) w (by rw [tail_size]; omega)
  rw [tail_list] at this
  exact this
theorem among_mail (s : ByteArray) (k : Nat) (w : World) (hs : s.size ≤ 1000000000) :
    Calls Tryz.prog 45 #[.string (s.extract k s.size), .string ⟨([97, 98, 99, 100, 101, 102, 103, 104, 105, 106, 107, 108, 109, 110, 111, 112, 113, 114, 115, 116, 117, 118, 119, 120, 121, 122, 65, 66, 67, 68, 69, 70].append [71, 72, 73, 74, 75, 76, 77, 78, 79, 80, 81, 82, 83, 84, 85, 86, 87, 88, 89, 90, 48, 49, 50, 51, 52, 53, 54, 55, 56, 57, 46, 45, 95, 43]).toArray⟩] w fun e w' => e = .returned (.int .i64 (amongL (s.data.toList.drop k) mailSet)) ∧ Below w.heap.size w w' := by
  have := among_small mailSet (by decide) (by decide) (s.extract k s.size) w (by rw [tail_size]; omega)
  rw [tail_list] at this
  exact this
theorem among_host (s : ByteArray) (k : Nat) (w : World) (hs : s.size ≤ 1000000000) :
    Calls Tryz.prog 45 #[.string (s.extract k s.size), .string ⟨([97, 98, 99, 100, 101, 102, 103, 104, 105, 106, 107, 108, 109, 110, 111, 112, 113, 114, 115, 116, 117, 118, 119, 120, 121, 122, 65, 66, 67, 68, 69, 70].append [71, 72, 73, 74, 75, 76, 77, 78, 79, 80, 81, 82, 83, 84, 85, 86, 87, 88, 89, 90, 48, 49, 50, 51, 52, 53, 54, 55, 56, 57, 45, 46]).toArray⟩] w fun e w' => e = .returned (.int .i64 (amongL (s.data.toList.drop k) hostSet)) ∧ Below w.heap.size w w' := by
  have := among_small hostSet (by decide) (by decide) (s.extract k s.size) w (by rw [tail_size]; omega)
  rw [tail_list] at this
  exact this
theorem among_name (s : ByteArray) (k : Nat) (w : World) (hs : s.size ≤ 1000000000) :
    Calls Tryz.prog 45 #[.string (s.extract k s.size), .string ⟨([97, 98, 99, 100, 101, 102, 103, 104, 105, 106, 107, 108, 109, 110, 111, 112, 113, 114, 115, 116, 117, 118, 119, 120, 121, 122, 65, 66, 67, 68, 69, 70].append [71, 72, 73, 74, 75, 76, 77, 78, 79, 80, 81, 82, 83, 84, 85, 86, 87, 88, 89, 90, 48, 49, 50, 51, 52, 53, 54, 55, 56, 57, 45]).toArray⟩] w fun e w' => e = .returned (.int .i64 (amongL (s.data.toList.drop k) nameSet)) ∧ Below w.heap.size w w' := by
  have := among_small nameSet (by decide) (by decide) (s.extract k s.size) w (by rw [tail_size]; omega)
  rw [tail_list] at this
  exact this

theorem among_zero_end {l set : List UInt8} (h : amongL l set ≠ 0) : l ≠ [] := by rintro rfl; exact h rfl

theorem auto_eq (s : List UInt8) (t : Nat) (h0 : amongL (s.drop 1) lettersL ≠ 0) (ht : amongL (s.drop 2) autoSet = t) (h1 : 1 ≤ t) (h2 : t ≤ 31) (h3 : (s.drop (2 + t)).head? = some 58) :
    autoL s = (match autoEnd (s.drop (2 + t)) (2 + t) with
      | some i => some (.auto ((s.take i).drop 1) ((s.take i).drop 1), i + 1)
      | none => none) := by
  have ht' : amongL (s.drop 2) (lettersL ++ digitsL ++ [43, 46, 45]) = t := ht
  unfold autoL
  rw [if_neg h0, ht', if_neg (by omega), if_pos h3]
  rfl
theorem auto_no (s : List UInt8) (t : Nat) (ht : amongL (s.drop 2) autoSet = t) (h : amongL (s.drop 1) lettersL = 0 ∨ t < 1 ∨ 31 < t ∨ (s.drop (2 + t)).head? ≠ some 58) : autoL s = none := by
  have ht' : amongL (s.drop 2) (lettersL ++ digitsL ++ [43, 46, 45]) = t := ht
  unfold autoL
  rw [ht']
  split
  · rfl
  · split
    · rfl
    · split
      · rename_i a b c
        exfalso
        rcases h with h | h | h | h
        · exact a h
        · exact b (Or.inl h)
        · exact b (Or.inr h)
        · exact h c
      · rfl

set_option maxHeartbeats 8000000 in
theorem auto_tok (s : ByteArray) (w : World) (h0 : 1 ≤ s.size) (hs : s.size ≤ 1000000000) :
    Calls Tryz.prog 70 #[.string s] w fun e w' => e = .returned (.tuple #[tokVal (autoL s.data.toList), .int .i64 (tokLen (autoL s.data.toList))]) ∧ Below w.heap.size w w' := by
  have hc1 := fun W => among_letters s 1 W hs
  have hc2 := fun W => among_auto s 2 W hs
  have hno := auto_no s.data.toList
  have hyes := auto_eq s.data.toList
  have hl1 := among_le (s.data.toList.drop 1) lettersL
  rw [List.length_drop, ← Lib.size_eq] at hl1
  have hl2 := among_le (s.data.toList.drop 2) autoSet
  rw [List.length_drop, ← Lib.size_eq] at hl2
  obtain ⟨n, hn⟩ : ∃ n, amongL (s.data.toList.drop 1) lettersL = n := ⟨_, rfl⟩
  obtain ⟨t, ht⟩ : ∃ t, amongL (s.data.toList.drop 2) autoSet = t := ⟨_, rfl⟩
  have hno := hno t ht
  have hyes := hyes t
  rw [hn] at hc1 hno hl1 hyes
  rw [ht] at hc2 hl2 hyes
  have HC1 := Lib.hid hc1
  have HC2 := Lib.hid hc2
  clear hc1 hc2 hn ht
  by_cases t0 : n = 0
  · have HN := Lib.hid (hno (Or.inl t0))
    have t0' : ((n : Int) == 0) = true := by rw [beq_iff_eq]; omega
    clear hno hyes
    go_enter Tryz.func70, Tryz.ntmps70
    go_wp2_with fail
    refine (HC1.out _).mono ?_
    rintro e w2 ⟨rfl, b2⟩
    go_wp2_with fail
    go_ret2
    exact ⟨ret_nil HN.out, b2⟩
  · have t0' : ((n : Int) == 0) = false := by rw [beq_eq_false_iff_ne]; omega
    by_cases t1 : t < 1
    · have HN := Lib.hid (hno (Or.inr (Or.inl t1)))
      have t1' : (t : Int) < 1 := by omega
      clear hno hyes
      go_enter Tryz.func70, Tryz.ntmps70
      go_wp2_with fail
      refine (HC1.out _).mono ?_
      rintro e w2 ⟨rfl, b2⟩
      go_wp2_with fail
      refine (HC2.out _).mono ?_
      rintro e w3 ⟨rfl, b3⟩
      have B3 := below_step b2 b3
      go_wp2_with fail
      go_ret2
      exact ⟨ret_nil HN.out, B3⟩
    · have t1' : ¬ (t : Int) < 1 := by omega
      by_cases t2 : 31 < t
      · have HN := Lib.hid (hno (Or.inr (Or.inr (Or.inl t2))))
        have t2' : (31 : Int) < (t : Int) := by omega
        clear hno hyes
        go_enter Tryz.func70, Tryz.ntmps70
        go_wp2_with fail
        refine (HC1.out _).mono ?_
        rintro e w2 ⟨rfl, b2⟩
        go_wp2_with fail
        refine (HC2.out _).mono ?_
        rintro e w3 ⟨rfl, b3⟩
        have B3 := below_step b2 b3
        go_wp2_with fail
        go_ret2
        exact ⟨ret_nil HN.out, B3⟩
      · have t2' : ¬ (31 : Int) < (t : Int) := by omega
        have hp := fun W => pre_at 58 (s.extract (2 + t) s.size) W
        rw [tail_list] at hp
        by_cases t3 : (s.data.toList.drop (2 + t)).head? = some 58
        · have hyes := hyes t0 rfl (by omega) (by omega) t3
          have hlt := head_lt t3
          rw [← Lib.size_eq] at hlt
          rw [decide_eq_true t3] at hp
          have HP := Lib.hid hp
          obtain ⟨R, hR⟩ : ∃ R, autoEnd (s.data.toList.drop (2 + t)) (2 + t) = R := ⟨_, rfl⟩
          rw [hR] at hyes
          have HY := Lib.hid hyes
          have HR := Lib.hid hR
          clear hp hno hyes hR t3
          go_enter Tryz.func70, Tryz.ntmps70
          go_wp2_with fail
          refine (HC1.out _).mono ?_
          rintro e w2 ⟨rfl, b2⟩
          go_wp2_with fail
          refine (HC2.out _).mono ?_
          rintro e w3 ⟨rfl, b3⟩
          have B3 := below_step b2 b3
          go_wp2_with fail
          refine (HP.out _).mono ?_
          rintro e w' ⟨rfl, hw'⟩
          obtain rfl := hw'.symm
          go_wp2_with fail
          go_loop [7] (fun u7 => ∃ i : Nat, u7 = .int .i64 i ∧ 2 ≤ i ∧ i ≤ s.size ∧ autoEnd (s.data.toList.drop i) i = R) (fun u7 => s.size - (intOf u7).toNat)
          case atStart => exact ⟨2 + t, by go_num, by omega, by omega, HR.out⟩
          case round =>
            obtain ⟨i, rfl, hi2, hi, hri⟩ := hrel
            clear HR
            by_cases hit : i < s.size
            · rw [drop_at s i hit, autoEnd] at hri
              obtain ⟨c, hc⟩ : ∃ c, s[i] = c := ⟨_, rfl⟩
              rw [hc] at hri
              by_cases k1 : c = 62
              · subst k1
                rw [if_pos rfl] at hri
                have HRI := Lib.hid hri
                clear hri
                have hi1' : (1 : Int) ≤ (i : Int) := by omega
                have hi2' : (i : Int) ≤ (s.size : Int) := by omega
                go_wp2_with fail
                go_quiet (fail)
                go_wp2_with fail
                go_ret2
                have e1 : (s.extract 1 i).data.toList = (s.data.toList.take i).drop 1 := by rw [Lib.extract_data, List.drop_take]
                exact ⟨ret_auto (u := (s.data.toList.take i).drop 1) (t := (s.data.toList.take i).drop 1) (m := i + 1) (by rw [HY.out, ← HRI.out]) e1 e1 (by omega), B3.trans ((below_drewN _ _).mono B3.size)⟩
              · have k1' : ((c.toNat : Int) == 62) = false := by
                  rw [beq_eq_false_iff_ne]; intro e
                  exact k1 (byte_eq (n := 62) (by omega))
                rw [if_neg k1] at hri
                by_cases k2 : c ≤ 32 ∨ c = 60 ∨ c = 127
                · rw [if_pos k2] at hri
                  have HRI := Lib.hid (show autoL s.data.toList = none by rw [HY.out, ← hri])
                  clear hri
                  have k2' : (c.toNat : Int) ≤ 32 ∨ (¬ (c.toNat : Int) ≤ 32 ∧ c = 60) ∨ (¬ (c.toNat : Int) ≤ 32 ∧ c = 127) := by
                    rcases k2 with h | h | h
                    · exact Or.inl (by rw [UInt8.le_iff_toNat_le] at h; have : (32 : UInt8).toNat = 32 := rfl; omega)
                    · exact Or.inr (Or.inl ⟨by rw [h]; decide, h⟩)
                    · exact Or.inr (Or.inr ⟨by rw [h]; decide, h⟩)
                  rcases k2' with h | ⟨h, rfl⟩ | ⟨h, rfl⟩
                  all_goals
                    go_wp2_with fail
                    go_ret2
                    exact ⟨ret_nil HRI.out, B3⟩
                · rw [if_neg k2] at hri
                  have HRI := Lib.hid hri
                  clear hri
                  have q1 : ¬ (c.toNat : Int) ≤ 32 := by
                    intro h; apply k2; left
                    rw [UInt8.le_iff_toNat_le]; have : (32 : UInt8).toNat = 32 := rfl; omega
                  have q2 : ((c.toNat : Int) == 60) = false := by
                    rw [beq_eq_false_iff_ne]; intro e
                    exact k2 (Or.inr (Or.inl (byte_eq (n := 60) (by omega))))
                  have q3 : ((c.toNat : Int) == 127) = false := by
                    rw [beq_eq_false_iff_ne]; intro e
                    exact k2 (Or.inr (Or.inr (byte_eq (n := 127) (by omega))))
                  go_wp2_with fail
                  go_round
                  case rel => exact ⟨i + 1, by go_num, by omega, by omega, HRI.out⟩
                  case measure => simp [intOf]; omega
            · rw [drop_end s i (by omega), autoEnd] at hri
              have HRI := Lib.hid (show autoL s.data.toList = none by rw [HY.out, ← hri])
              clear hri
              go_wp2_with fail
              go_ret2
              exact ⟨ret_nil HRI.out, B3⟩
        · have HN := Lib.hid (hno (Or.inr (Or.inr (Or.inr t3))))
          rw [decide_eq_false t3] at hp
          have HP := Lib.hid hp
          clear hp hno hyes t3
          go_enter Tryz.func70, Tryz.ntmps70
          go_wp2_with fail
          refine (HC1.out _).mono ?_
          rintro e w2 ⟨rfl, b2⟩
          go_wp2_with fail
          refine (HC2.out _).mono ?_
          rintro e w3 ⟨rfl, b3⟩
          have B3 := below_step b2 b3
          go_wp2_with fail
          refine (HP.out _).mono ?_
          rintro e w' ⟨rfl, hw'⟩
          obtain rfl := hw'.symm
          go_wp2_with fail
          go_ret2
          exact ⟨ret_nil HN.out, B3⟩

end Go.Proofs.YtahljcbmckldhaaGreatDoor

/-
  token.mail, tag, angle.
-/
namespace Go.Proofs.YtahljcbmckldhaaGreatDoor
open Go.RowKit
set_option maxRecDepth 100000
set_option linter.unusedVariables false
set_option linter.unusedSimpArgs false


theorem mail_no (s : List UInt8) (n m : Nat) (hn : amongL (s.drop 1) mailSet = n) (hm : amongL (s.drop (2 + n)) hostSet = m)
    (h : n = 0 ∨ (s.drop (1 + n)).head? ≠ some 64 ∨ m = 0 ∨ (s.drop (2 + n + m)).head? ≠ some 62) : mailL s = none := by
  have hn' : amongL (s.drop 1) (lettersL ++ digitsL ++ [46, 45, 95, 43]) = n := hn
  have hm' : amongL (s.drop (2 + n)) (lettersL ++ digitsL ++ [45, 46]) = m := hm
  unfold mailL
  rw [hn', hm']
  split
  · rfl
  · split
    · split
      · rfl
      · split
        · rename_i a b c d
          exfalso
          rcases h with h | h | h | h
          · exact a h
          · exact h b
          · exact c h
          · exact h d
        · rfl
    · rfl
theorem mail_yes (s : List UInt8) (n m : Nat) (hn : amongL (s.drop 1) mailSet = n) (hm : amongL (s.drop (2 + n)) hostSet = m) (h1 : n ≠ 0) (h2 : (s.drop (1 + n)).head? = some 64) (h3 : m ≠ 0) (h4 : (s.drop (2 + n + m)).head? = some 62) :
    mailL s = some (.auto (mailto ++ (s.take (2 + n + m)).drop 1) ((s.take (2 + n + m)).drop 1), 2 + n + m + 1) := by
  have hn' : amongL (s.drop 1) (lettersL ++ digitsL ++ [46, 45, 95, 43]) = n := hn
  have hm' : amongL (s.drop (2 + n)) (lettersL ++ digitsL ++ [45, 46]) = m := hm
  unfold mailL
  rw [hn', hm', if_neg h1, if_pos h2, if_neg h3, if_pos h4]

set_option maxHeartbeats 8000000 in
theorem mail_tok (s : ByteArray) (w : World) (h0 : 1 ≤ s.size) (hs : s.size ≤ 1000000000) :
    Calls Tryz.prog 71 #[.string s] w fun e w' => e = .returned (.tuple #[tokVal (mailL s.data.toList), .int .i64 (tokLen (mailL s.data.toList))]) ∧ Below w.heap.size w w' := by
  have hc1 := fun W => among_mail s 1 W hs
  have hl1 := among_le (s.data.toList.drop 1) mailSet
  rw [List.length_drop, ← Lib.size_eq] at hl1
  obtain ⟨n, hn⟩ : ∃ n, amongL (s.data.toList.drop 1) mailSet = n := ⟨_, rfl⟩
  have hc2 := fun W => among_host s (2 + n) W hs
  have hl2 := among_le (s.data.toList.drop (2 + n)) hostSet
  rw [List.length_drop, ← Lib.size_eq] at hl2
  obtain ⟨m, hm⟩ : ∃ m, amongL (s.data.toList.drop (2 + n)) hostSet = m := ⟨_, rfl⟩
  have hno := mail_no s.data.toList n m hn hm
  have hyes := mail_yes s.data.toList n m hn hm
  rw [hn] at hc1 hl1
  rw [hm] at hc2 hl2
  have HC1 := Lib.hid hc1
  have HC2 := Lib.hid hc2
  clear hc1 hc2 hn hm
  by_cases t0 : n = 0
  · have HN := Lib.hid (hno (Or.inl t0))
    have t0' : ((n : Int) == 0) = true := by rw [beq_iff_eq]; omega
    clear hno hyes
    go_enter Tryz.func71, Tryz.ntmps71
    go_wp2_with fail
    refine (HC1.out _).mono ?_
    rintro e w2 ⟨rfl, b2⟩
    go_wp2_with fail
    go_ret2
    exact ⟨ret_nil HN.out, b2⟩
  · have t0' : ((n : Int) == 0) = false := by rw [beq_eq_false_iff_ne]; omega
    have hp := fun W => pre_at 64 (s.extract (1 + n) s.size) W
    rw [tail_list] at hp
    by_cases t1 : (s.data.toList.drop (1 + n)).head? = some 64
    · have hlt1 := head_lt t1
      rw [← Lib.size_eq] at hlt1
      rw [decide_eq_true t1] at hp
      have HP := Lib.hid hp
      clear hp
      by_cases t2 : m = 0
      · have HN := Lib.hid (hno (Or.inr (Or.inr (Or.inl t2))))
        have t2' : ((m : Int) == 0) = true := by rw [beq_iff_eq]; omega
        clear hno hyes t1
        go_enter Tryz.func71, Tryz.ntmps71
        go_wp2_with fail
        refine (HC1.out _).mono ?_
        rintro e w2 ⟨rfl, b2⟩
        go_wp2_with fail
        refine (HP.out _).mono ?_
        rintro e w' ⟨rfl, hw'⟩
        obtain rfl := hw'.symm
        go_wp2_with fail
        refine (HC2.out _).mono ?_
        rintro e w3 ⟨rfl, b3⟩
        have B3 := below_step b2 b3
        go_wp2_with fail
        go_ret2
        exact ⟨ret_nil HN.out, B3⟩
      · have t2' : ((m : Int) == 0) = false := by rw [beq_eq_false_iff_ne]; omega
        have hq := fun W => pre_at 62 (s.extract (2 + n + m) s.size) W
        rw [tail_list] at hq
        by_cases t3 : (s.data.toList.drop (2 + n + m)).head? = some 62
        · have hlt2 := head_lt t3
          rw [← Lib.size_eq] at hlt2
          rw [decide_eq_true t3] at hq
          have HQ := Lib.hid hq
          have HY := Lib.hid (hyes t0 t1 t2 t3)
          have e1 : (s.extract 1 (2 + n + m)).data.toList = (s.data.toList.take (2 + n + m)).drop 1 := by rw [Lib.extract_data, List.drop_take]
          have HE1 := Lib.hid e1
          have hez : (s.extract 1 (2 + n + m)).size ≤ 1000000000 := by rw [Lib.size_eq, e1, List.length_drop, List.length_take, ← Lib.size_eq]; omega
          obtain ⟨X, hX⟩ : ∃ X, s.extract 1 (2 + n + m) = X := ⟨_, rfl⟩
          rw [hX] at hez HE1
          clear hno hyes t1 t3 hq e1
          go_enter Tryz.func71, Tryz.ntmps71
          go_wp2_with fail
          refine (HC1.out _).mono ?_
          rintro e w2 ⟨rfl, b2⟩
          go_wp2_with fail
          refine (HP.out _).mono ?_
          rintro e w' ⟨rfl, hw'⟩
          obtain rfl := hw'.symm
          go_wp2_with fail
          refine (HC2.out _).mono ?_
          rintro e w3 ⟨rfl, b3⟩
          have B3 := below_step b2 b3
          go_wp2_with fail
          refine (HQ.out _).mono ?_
          rintro e w' ⟨rfl, hw'⟩
          obtain rfl := hw'.symm
          go_wp2_with fail
          go_quiet (fail)
          go_wp2_with fail
          go_ret2
          exact ⟨ret_auto HY.out (by rw [app_list, HE1.out]; rfl) HE1.out (by omega), B3.trans ((below_drewN _ _).mono B3.size)⟩
        · rw [decide_eq_false t3] at hq
          have HQ := Lib.hid hq
          have HN := Lib.hid (hno (Or.inr (Or.inr (Or.inr t3))))
          clear hno hyes t1 t3 hq
          go_enter Tryz.func71, Tryz.ntmps71
          go_wp2_with fail
          refine (HC1.out _).mono ?_
          rintro e w2 ⟨rfl, b2⟩
          go_wp2_with fail
          refine (HP.out _).mono ?_
          rintro e w' ⟨rfl, hw'⟩
          obtain rfl := hw'.symm
          go_wp2_with fail
          refine (HC2.out _).mono ?_
          rintro e w3 ⟨rfl, b3⟩
          have B3 := below_step b2 b3
          go_wp2_with fail
          refine (HQ.out _).mono ?_
          rintro e w' ⟨rfl, hw'⟩
          obtain rfl := hw'.symm
          go_wp2_with fail
          go_ret2
          exact ⟨ret_nil HN.out, B3⟩
    · have HN := Lib.hid (hno (Or.inr (Or.inl t1)))
      rw [decide_eq_false t1] at hp
      have HP := Lib.hid hp
      clear hp hno hyes t1
      go_enter Tryz.func71, Tryz.ntmps71
      go_wp2_with fail
      refine (HC1.out _).mono ?_
      rintro e w2 ⟨rfl, b2⟩
      go_wp2_with fail
      refine (HP.out _).mono ?_
      rintro e w' ⟨rfl, hw'⟩
      obtain rfl := hw'.symm
      go_wp2_with fail
      go_ret2
      exact ⟨ret_nil HN.out, b2⟩

/-! ### tag -/
theorem tag_signs (c : UInt8) (w : World) :
    Calls Tryz.prog 102 #[.string ⟨#[32, 10, 47]⟩, .int .i32 (c.toNat : Int)] w fun e w' => e = .returned (.bool (decide (c = 32 ∨ c = 10 ∨ c = 47))) ∧ Below w.heap.size w w' := by
  have := containsRune_nat ⟨#[32, 10, 47]⟩ c.toNat w (by unfold AllAscii; decide) (by decide) (by have := c.toNat_lt; omega)
  rw [show (ByteArray.mk #[32, 10, 47]).data.toList = [32, 10, 47] from rfl] at this
  have e : ([32, 10, 47] : List UInt8).any (fun b => b.toNat == c.toNat) = decide (c = 32 ∨ c = 10 ∨ c = 47) := allB (p := fun c => ([32, 10, 47] : List UInt8).any (fun b => b.toNat == c.toNat) = decide (c = 32 ∨ c = 10 ∨ c = 47)) (by unfold AllB; decide +kernel) c
  rw [e] at this
  exact this

theorem tag_no (s : List UInt8) (a k : Nat) (hk : amongL (s.drop a) nameSet = k) (h : amongL (s.drop a) lettersL = 0 ∨ s.drop (a + k) = [] ∨ (∃ c r, s.drop (a + k) = c :: r ∧ (c ≠ 62 ∧ c ≠ 32 ∧ c ≠ 10 ∧ c ≠ 47)) ∨ tagEnd (s.drop (a + k)) (a + k) = none) : tagAt s a = none := by
  have hk' : amongL (s.drop a) (lettersL ++ digitsL ++ [45]) = k := hk
  unfold tagAt
  rw [hk']
  split
  · rfl
  · rename_i q
    split
    · rfl
    · rename_i c r hcr
      split
      · rfl
      · rename_i hq
        rcases h with h | h | ⟨c', r', h, h2⟩ | h
        · exact absurd h q
        · rw [h] at hcr; cases hcr
        · rw [h] at hcr
          injection hcr with e1 e2
          subst e1
          exact absurd h2 hq
        · rw [hcr] at h
          rw [h]
theorem tag_yes (s : List UInt8) (a k i : Nat) (hk : amongL (s.drop a) nameSet = k) (h0 : amongL (s.drop a) lettersL ≠ 0) (c : UInt8) (r : List UInt8) (hc : s.drop (a + k) = c :: r) (h1 : ¬ (c ≠ 62 ∧ c ≠ 32 ∧ c ≠ 10 ∧ c ≠ 47))
    (hi : tagEnd (s.drop (a + k)) (a + k) = some i) : tagAt s a = some (.tag (s.take (i + 1)), i + 1) := by
  have hk' : amongL (s.drop a) (lettersL ++ digitsL ++ [45]) = k := hk
  unfold tagAt
  rw [hk', if_neg h0]
  rw [hc] at hi ⊢
  simp only
  rw [if_neg h1, hi]

set_option maxHeartbeats 16000000 in
theorem tag_two (s : ByteArray) (w : World) (h0 : 1 ≤ s.size) (hs : s.size ≤ 1000000000) (hsl : (s.data.toList.drop 1).head? = some 47) :
    Calls Tryz.prog 72 #[.string s] w fun e w' => e = .returned (.tuple #[tokVal (tagL s.data.toList), .int .i64 (tokLen (tagL s.data.toList))]) ∧ Below w.heap.size w w' := by
  have hp := fun W => pre_at 47 (s.extract 1 s.size) W
  rw [tail_list, decide_eq_true hsl] at hp
  have hTA : tagL s.data.toList = tagAt s.data.toList 2 := by unfold tagL; rw [if_pos hsl]
  have hlt := head_lt hsl
  rw [← Lib.size_eq] at hlt
  have HP := Lib.hid hp
  clear hp hsl
  have hc1 := fun W => among_letters s 2 W hs
  have hc2 := fun W => among_name s 2 W hs
  have hl1 := among_le (s.data.toList.drop 2) lettersL
  rw [List.length_drop, ← Lib.size_eq] at hl1
  have hl2 := among_le (s.data.toList.drop 2) nameSet
  rw [List.length_drop, ← Lib.size_eq] at hl2
  have hno := tag_no s.data.toList 2
  have hyes := tag_yes s.data.toList 2
  obtain ⟨n, hn⟩ : ∃ n, amongL (s.data.toList.drop 2) lettersL = n := ⟨_, rfl⟩
  obtain ⟨k, hk⟩ : ∃ k, amongL (s.data.toList.drop 2) nameSet = k := ⟨_, rfl⟩
  have hno := hno k hk
  have hyes := fun i => hyes k i hk
  rw [hn] at hc1 hno hl1 hyes
  rw [hk] at hc2 hl2
  have HC1 := Lib.hid hc1
  have HC2 := Lib.hid hc2
  clear hc1 hc2 hn hk
  by_cases t0 : n = 0
  · have HN := Lib.hid (hTA.trans (hno (Or.inl t0)))
    have t0' : ((n : Int) == 0) = true := by rw [beq_iff_eq]; omega
    clear hno hyes hTA
    go_enter Tryz.func72, Tryz.ntmps72
    go_wp2_with fail
    refine (HP.out _).mono ?_
    rintro e w' ⟨rfl, hw'⟩
    obtain rfl := hw'.symm
    go_wp2_with fail
    refine (HC1.out _).mono ?_
    rintro e w2 ⟨rfl, b2⟩
    go_wp2_with fail
    go_ret2
    exact ⟨ret_nil HN.out, b2⟩
  · have t0' : ((n : Int) == 0) = false := by rw [beq_eq_false_iff_ne]; omega
    by_cases t1 : 2 + k < s.size
    · have t1' : (2 : Int) + (k : Int) < (s.size : Int) := by omega
      have hd := drop_at s (2 + k) t1
      obtain ⟨c, hc⟩ : ∃ c, s[2 + k] = c := ⟨_, rfl⟩
      rw [hc] at hd
      have hsg := fun W => tag_signs c W
      have hcb := byte_lt c
      obtain ⟨hcb0, hcb1⟩ := hcb
      by_cases q1 : c = 62
      · subst q1
        have hq0 : ¬ ((62 : UInt8) ≠ 62 ∧ (62 : UInt8) ≠ 32 ∧ (62 : UInt8) ≠ 10 ∧ (62 : UInt8) ≠ 47) := by decide
        have hyes := fun i => hyes i t0 62 _ hd hq0
        obtain ⟨R, hR⟩ : ∃ R, tagEnd (s.data.toList.drop (2 + k)) (2 + k) = R := ⟨_, rfl⟩
        have hnone : R = none → tagL s.data.toList = none := fun h => hTA.trans (hno (Or.inr (Or.inr (Or.inr (hR.trans h)))))
        have hsome : ∀ i, R = some i → tagL s.data.toList = some (.tag (s.data.toList.take (i + 1)), i + 1) := fun i h => hTA.trans (hyes i (hR.trans h))
        have HNO := Lib.hid hnone
        have HYE := Lib.hid hsome
        have HR := Lib.hid hR
        clear hno hyes hTA hR hnone hsome hd
        go_enter Tryz.func72, Tryz.ntmps72
        go_wp2_with fail
        refine (HP.out _).mono ?_
        rintro e w' ⟨rfl, hw'⟩
        obtain rfl := hw'.symm
        go_wp2_with fail
        refine (HC1.out _).mono ?_
        rintro e w2 ⟨rfl, b2⟩
        go_wp2_with fail
        refine (HC2.out _).mono ?_
        rintro e w3 ⟨rfl, b3⟩
        have B4 := below_step b2 b3
        go_wp2_with fail
        go_loop [5] (fun u5 => ∃ i : Nat, u5 = .int .i64 i ∧ i ≤ s.size ∧ tagEnd (s.data.toList.drop i) i = R) (fun u5 => s.size - (intOf u5).toNat)
        case atStart => exact ⟨2 + k, by go_num, by omega, HR.out⟩
        case round =>
          obtain ⟨i, rfl, hi, hri⟩ := hrel
          clear HR
          by_cases hit : i < s.size
          · rw [drop_at s i hit, tagEnd] at hri
            obtain ⟨d, hdd⟩ : ∃ d, s[i] = d := ⟨_, rfl⟩
            rw [hdd] at hri
            by_cases k1 : d = 62
            · subst k1
              rw [if_pos rfl] at hri
              have HRI := Lib.hid (HYE.out i hri.symm)
              clear hri
              have hi1' : (i : Int) + 1 ≤ (s.size : Int) := by omega
              go_wp2_with fail
              go_ret2
              exact ⟨ret_tag HRI.out (by rw [Lib.extract_data]; simp) (by omega), B4⟩
            · have k1' : ((d.toNat : Int) == 62) = false := by
                rw [beq_eq_false_iff_ne]; intro e
                exact k1 (byte_eq (n := 62) (by omega))
              rw [if_neg k1] at hri
              by_cases k2 : d = 60 ∨ d = 0
              · rw [if_pos k2] at hri
                have HRI := Lib.hid (HNO.out hri.symm)
                clear hri
                rcases k2 with rfl | rfl
                all_goals
                  go_wp2_with fail
                  go_ret2
                  exact ⟨ret_nil HRI.out, B4⟩
              · rw [if_neg k2] at hri
                have HRI := Lib.hid hri
                clear hri
                have q2 : ((d.toNat : Int) == 60) = false := by
                  rw [beq_eq_false_iff_ne]; intro e
                  exact k2 (Or.inl (byte_eq (n := 60) (by omega)))
                have q3 : ((d.toNat : Int) == 0) = false := by
                  rw [beq_eq_false_iff_ne]; intro e
                  exact k2 (Or.inr (byte_eq (n := 0) (by omega)))
                go_wp2_with fail
                go_round
                case rel => exact ⟨i + 1, by go_num, by omega, HRI.out⟩
                case measure => simp [intOf]; omega
          · rw [drop_end s i (by omega), tagEnd] at hri
            have HRI := Lib.hid (HNO.out hri.symm)
            clear hri
            go_wp2_with fail
            go_ret2
            exact ⟨ret_nil HRI.out, B4⟩
      · have q1' : ((c.toNat : Int) == 62) = false := by
          rw [beq_eq_false_iff_ne]; intro e
          exact q1 (byte_eq (n := 62) (by omega))
        have q1'' : ((c.toNat : Int) != 62) = true := by rw [bne, q1']; rfl
        by_cases q2 : c = 32 ∨ c = 10 ∨ c = 47
        · have hq0 : ¬ (c ≠ 62 ∧ c ≠ 32 ∧ c ≠ 10 ∧ c ≠ 47) := by
            rintro ⟨_, a, b, d⟩
            rcases q2 with h | h | h
            · exact a h
            · exact b h
            · exact d h
          have hyes := fun i => hyes i t0 c _ hd hq0
          rw [decide_eq_true q2] at hsg
          have HSG := Lib.hid hsg
          clear q2 hsg hq0
          obtain ⟨R, hR⟩ : ∃ R, tagEnd (s.data.toList.drop (2 + k)) (2 + k) = R := ⟨_, rfl⟩
          have hnone : R = none → tagL s.data.toList = none := fun h => hTA.trans (hno (Or.inr (Or.inr (Or.inr (hR.trans h)))))
          have hsome : ∀ i, R = some i → tagL s.data.toList = some (.tag (s.data.toList.take (i + 1)), i + 1) := fun i h => hTA.trans (hyes i (hR.trans h))
          have HNO := Lib.hid hnone
          have HYE := Lib.hid hsome
          have HR := Lib.hid hR
          clear hno hyes hTA hR hnone hsome hd
          go_enter Tryz.func72, Tryz.ntmps72
          go_wp2_with fail
          refine (HP.out _).mono ?_
          rintro e w' ⟨rfl, hw'⟩
          obtain rfl := hw'.symm
          go_wp2_with fail
          refine (HC1.out _).mono ?_
          rintro e w2 ⟨rfl, b2⟩
          go_wp2_with fail
          refine (HC2.out _).mono ?_
          rintro e w3 ⟨rfl, b3⟩
          have B3 := below_step b2 b3
          go_wp2_with fail
          refine (HSG.out _).mono ?_
          rintro e w4 ⟨rfl, b4⟩
          have B4 := below_step B3 b4
          go_wp2_with fail
          go_loop [5] (fun u5 => ∃ i : Nat, u5 = .int .i64 i ∧ i ≤ s.size ∧ tagEnd (s.data.toList.drop i) i = R) (fun u5 => s.size - (intOf u5).toNat)
          case atStart => exact ⟨2 + k, by go_num, by omega, HR.out⟩
          case round =>
            obtain ⟨i, rfl, hi, hri⟩ := hrel
            clear HR
            by_cases hit : i < s.size
            · rw [drop_at s i hit, tagEnd] at hri
              obtain ⟨d, hdd⟩ : ∃ d, s[i] = d := ⟨_, rfl⟩
              rw [hdd] at hri
              by_cases k1 : d = 62
              · subst k1
                rw [if_pos rfl] at hri
                have HRI := Lib.hid (HYE.out i hri.symm)
                clear hri
                have hi1' : (i : Int) + 1 ≤ (s.size : Int) := by omega
                go_wp2_with fail
                go_ret2
                exact ⟨ret_tag HRI.out (by rw [Lib.extract_data]; simp) (by omega), B4⟩
              · have k1' : ((d.toNat : Int) == 62) = false := by
                  rw [beq_eq_false_iff_ne]; intro e
                  exact k1 (byte_eq (n := 62) (by omega))
                rw [if_neg k1] at hri
                by_cases k2 : d = 60 ∨ d = 0
                · rw [if_pos k2] at hri
                  have HRI := Lib.hid (HNO.out hri.symm)
                  clear hri
                  rcases k2 with rfl | rfl
                  all_goals
                    go_wp2_with fail
                    go_ret2
                    exact ⟨ret_nil HRI.out, B4⟩
                · rw [if_neg k2] at hri
                  have HRI := Lib.hid hri
                  clear hri
                  have q2 : ((d.toNat : Int) == 60) = false := by
                    rw [beq_eq_false_iff_ne]; intro e
                    exact k2 (Or.inl (byte_eq (n := 60) (by omega)))
                  have q3 : ((d.toNat : Int) == 0) = false := by
                    rw [beq_eq_false_iff_ne]; intro e
                    exact k2 (Or.inr (byte_eq (n := 0) (by omega)))
                  go_wp2_with fail
                  go_round
                  case rel => exact ⟨i + 1, by go_num, by omega, HRI.out⟩
                  case measure => simp [intOf]; omega
            · rw [drop_end s i (by omega), tagEnd] at hri
              have HRI := Lib.hid (HNO.out hri.symm)
              clear hri
              go_wp2_with fail
              go_ret2
              exact ⟨ret_nil HRI.out, B4⟩
        · have HN := Lib.hid (hTA.trans (hno (Or.inr (Or.inr (Or.inl ⟨c, _, hd, q1, fun h => q2 (Or.inl h), fun h => q2 (Or.inr (Or.inl h)), fun h => q2 (Or.inr (Or.inr h))⟩)))))
          rw [decide_eq_false q2] at hsg
          have HSG := Lib.hid hsg
          clear hno hyes hTA q2 hsg hd
          go_enter Tryz.func72, Tryz.ntmps72
          go_wp2_with fail
          refine (HP.out _).mono ?_
          rintro e w' ⟨rfl, hw'⟩
          obtain rfl := hw'.symm
          go_wp2_with fail
          refine (HC1.out _).mono ?_
          rintro e w2 ⟨rfl, b2⟩
          go_wp2_with fail
          refine (HC2.out _).mono ?_
          rintro e w3 ⟨rfl, b3⟩
          have B3 := below_step b2 b3
          go_wp2_with fail
          refine (HSG.out _).mono ?_
          rintro e w4 ⟨rfl, b4⟩
          have B4 := below_step B3 b4
          go_wp2_with fail
          go_ret2
          exact ⟨ret_nil HN.out, B4⟩
    · have HN := Lib.hid (hTA.trans (hno (Or.inr (Or.inl (drop_end s _ (by omega))))))
      have t1' : ¬ (2 : Int) + (k : Int) < (s.size : Int) := by omega
      clear hno hyes hTA
      go_enter Tryz.func72, Tryz.ntmps72
      go_wp2_with fail
      refine (HP.out _).mono ?_
      rintro e w' ⟨rfl, hw'⟩
      obtain rfl := hw'.symm
      go_wp2_with fail
      refine (HC1.out _).mono ?_
      rintro e w2 ⟨rfl, b2⟩
      go_wp2_with fail
      refine (HC2.out _).mono ?_
      rintro e w3 ⟨rfl, b3⟩
      have B3 := below_step b2 b3
      go_wp2_with fail
      refine wp_loop_rounds 1 ?_
      rw [rounds_succ]
      go_wp2_with fail
      go_ret2
      exact ⟨ret_nil HN.out, B3⟩

set_option maxHeartbeats 16000000 in
theorem tag_one (s : ByteArray) (w : World) (h0 : 1 ≤ s.size) (hs : s.size ≤ 1000000000) (hsl : (s.data.toList.drop 1).head? ≠ some 47) :
    Calls Tryz.prog 72 #[.string s] w fun e w' => e = .returned (.tuple #[tokVal (tagL s.data.toList), .int .i64 (tokLen (tagL s.data.toList))]) ∧ Below w.heap.size w w' := by
  have hp := fun W => pre_at 47 (s.extract 1 s.size) W
  rw [tail_list, decide_eq_false hsl] at hp
  have hTA : tagL s.data.toList = tagAt s.data.toList 1 := by unfold tagL; rw [if_neg hsl]
  have HP := Lib.hid hp
  clear hp hsl
  have hc1 := fun W => among_letters s 1 W hs
  have hc2 := fun W => among_name s 1 W hs
  have hl1 := among_le (s.data.toList.drop 1) lettersL
  rw [List.length_drop, ← Lib.size_eq] at hl1
  have hl2 := among_le (s.data.toList.drop 1) nameSet
  rw [List.length_drop, ← Lib.size_eq] at hl2
  have hno := tag_no s.data.toList 1
  have hyes := tag_yes s.data.toList 1
  obtain ⟨n, hn⟩ : ∃ n, amongL (s.data.toList.drop 1) lettersL = n := ⟨_, rfl⟩
  obtain ⟨k, hk⟩ : ∃ k, amongL (s.data.toList.drop 1) nameSet = k := ⟨_, rfl⟩
  have hno := hno k hk
  have hyes := fun i => hyes k i hk
  rw [hn] at hc1 hno hl1 hyes
  rw [hk] at hc2 hl2
  have HC1 := Lib.hid hc1
  have HC2 := Lib.hid hc2
  clear hc1 hc2 hn hk
  by_cases t0 : n = 0
  · have HN := Lib.hid (hTA.trans (hno (Or.inl t0)))
    have t0' : ((n : Int) == 0) = true := by rw [beq_iff_eq]; omega
    clear hno hyes hTA
    go_enter Tryz.func72, Tryz.ntmps72
    go_wp2_with fail
    refine (HP.out _).mono ?_
    rintro e w' ⟨rfl, hw'⟩
    obtain rfl := hw'.symm
    go_wp2_with fail
    refine (HC1.out _).mono ?_
    rintro e w2 ⟨rfl, b2⟩
    go_wp2_with fail
    go_ret2
    exact ⟨ret_nil HN.out, b2⟩
  · have t0' : ((n : Int) == 0) = false := by rw [beq_eq_false_iff_ne]; omega
    by_cases t1 : 1 + k < s.size
    · have t1' : (1 : Int) + (k : Int) < (s.size : Int) := by omega
      have hd := drop_at s (1 + k) t1
      obtain ⟨c, hc⟩ : ∃ c, s[1 + k] = c := ⟨_, rfl⟩
      rw [hc] at hd
      have hsg := fun W => tag_signs c W
      have hcb := byte_lt c
      obtain ⟨hcb0, hcb1⟩ := hcb
      by_cases q1 : c = 62
      · subst q1
        have hq0 : ¬ ((62 : UInt8) ≠ 62 ∧ (62 : UInt8) ≠ 32 ∧ (62 : UInt8) ≠ 10 ∧ (62 : UInt8) ≠ 47) := by decide
        have hyes := fun i => hyes i t0 62 _ hd hq0
        obtain ⟨R, hR⟩ : ∃ R, tagEnd (s.data.toList.drop (1 + k)) (1 + k) = R := ⟨_, rfl⟩
        have hnone : R = none → tagL s.data.toList = none := fun h => hTA.trans (hno (Or.inr (Or.inr (Or.inr (hR.trans h)))))
        have hsome : ∀ i, R = some i → tagL s.data.toList = some (.tag (s.data.toList.take (i + 1)), i + 1) := fun i h => hTA.trans (hyes i (hR.trans h))
        have HNO := Lib.hid hnone
        have HYE := Lib.hid hsome
        have HR := Lib.hid hR
        clear hno hyes hTA hR hnone hsome hd
        go_enter Tryz.func72, Tryz.ntmps72
        go_wp2_with fail
        refine (HP.out _).mono ?_
        rintro e w' ⟨rfl, hw'⟩
        obtain rfl := hw'.symm
        go_wp2_with fail
        refine (HC1.out _).mono ?_
        rintro e w2 ⟨rfl, b2⟩
        go_wp2_with fail
        refine (HC2.out _).mono ?_
        rintro e w3 ⟨rfl, b3⟩
        have B4 := below_step b2 b3
        go_wp2_with fail
        go_loop [5] (fun u5 => ∃ i : Nat, u5 = .int .i64 i ∧ i ≤ s.size ∧ tagEnd (s.data.toList.drop i) i = R) (fun u5 => s.size - (intOf u5).toNat)
        case atStart => exact ⟨1 + k, by go_num, by omega, HR.out⟩
        case round =>
          obtain ⟨i, rfl, hi, hri⟩ := hrel
          clear HR
          by_cases hit : i < s.size
          · rw [drop_at s i hit, tagEnd] at hri
            obtain ⟨d, hdd⟩ : ∃ d, s[i] = d := ⟨_, rfl⟩
            rw [hdd] at hri
            by_cases k1 : d = 62
            · subst k1
              rw [if_pos rfl] at hri
              have HRI := Lib.hid (HYE.out i hri.symm)
              clear hri
              have hi1' : (i : Int) + 1 ≤ (s.size : Int) := by omega
              go_wp2_with fail
              go_ret2
              exact ⟨ret_tag HRI.out (by rw [Lib.extract_data]; simp) (by omega), B4⟩
            · have k1' : ((d.toNat : Int) == 62) = false := by
                rw [beq_eq_false_iff_ne]; intro e
                exact k1 (byte_eq (n := 62) (by omega))
              rw [if_neg k1] at hri
              by_cases k2 : d = 60 ∨ d = 0
              · rw [if_pos k2] at hri
                have HRI := Lib.hid (HNO.out hri.symm)
                clear hri
                rcases k2 with rfl | rfl
                all_goals
                  go_wp2_with fail
                  go_ret2
                  exact ⟨ret_nil HRI.out, B4⟩
              · rw [if_neg k2] at hri
                have HRI := Lib.hid hri
                clear hri
                have q2 : ((d.toNat : Int) == 60) = false := by
                  rw [beq_eq_false_iff_ne]; intro e
                  exact k2 (Or.inl (byte_eq (n := 60) (by omega)))
                have q3 : ((d.toNat : Int) == 0) = false := by
                  rw [beq_eq_false_iff_ne]; intro e
                  exact k2 (Or.inr (byte_eq (n := 0) (by omega)))
                go_wp2_with fail
                go_round
                case rel => exact ⟨i + 1, by go_num, by omega, HRI.out⟩
                case measure => simp [intOf]; omega
          · rw [drop_end s i (by omega), tagEnd] at hri
            have HRI := Lib.hid (HNO.out hri.symm)
            clear hri
            go_wp2_with fail
            go_ret2
            exact ⟨ret_nil HRI.out, B4⟩
      · have q1' : ((c.toNat : Int) == 62) = false := by
          rw [beq_eq_false_iff_ne]; intro e
          exact q1 (byte_eq (n := 62) (by omega))
        have q1'' : ((c.toNat : Int) != 62) = true := by rw [bne, q1']; rfl
        by_cases q2 : c = 32 ∨ c = 10 ∨ c = 47
        · have hq0 : ¬ (c ≠ 62 ∧ c ≠ 32 ∧ c ≠ 10 ∧ c ≠ 47) := by
            rintro ⟨_, a, b, d⟩
            rcases q2 with h | h | h
            · exact a h
            · exact b h
            · exact d h
          have hyes := fun i => hyes i t0 c _ hd hq0
          rw [decide_eq_true q2] at hsg
          have HSG := Lib.hid hsg
          clear q2 hsg hq0
          obtain ⟨R, hR⟩ : ∃ R, tagEnd (s.data.toList.drop (1 + k)) (1 + k) = R := ⟨_, rfl⟩
          have hnone : R = none → tagL s.data.toList = none := fun h => hTA.trans (hno (Or.inr (Or.inr (Or.inr (hR.trans h)))))
          have hsome : ∀ i, R = some i → tagL s.data.toList = some (.tag (s.data.toList.take (i + 1)), i + 1) := fun i h => hTA.trans (hyes i (hR.trans h))
          have HNO := Lib.hid hnone
          have HYE := Lib.hid hsome
          have HR := Lib.hid hR
          clear hno hyes hTA hR hnone hsome hd
          go_enter Tryz.func72, Tryz.ntmps72
          go_wp2_with fail
          refine (HP.out _).mono ?_
          rintro e w' ⟨rfl, hw'⟩
          obtain rfl := hw'.symm
          go_wp2_with fail
          refine (HC1.out _).mono ?_
          rintro e w2 ⟨rfl, b2⟩
          go_wp2_with fail
          refine (HC2.out _).mono ?_
          rintro e w3 ⟨rfl, b3⟩
          have B3 := below_step b2 b3
          go_wp2_with fail
          refine (HSG.out _).mono ?_
          rintro e w4 ⟨rfl, b4⟩
          have B4 := below_step B3 b4
          go_wp2_with fail
          go_loop [5] (fun u5 => ∃ i : Nat, u5 = .int .i64 i ∧ i ≤ s.size ∧ tagEnd (s.data.toList.drop i) i = R) (fun u5 => s.size - (intOf u5).toNat)
          case atStart => exact ⟨1 + k, by go_num, by omega, HR.out⟩
          case round =>
            obtain ⟨i, rfl, hi, hri⟩ := hrel
            clear HR
            by_cases hit : i < s.size
            · rw [drop_at s i hit, tagEnd] at hri
              obtain ⟨d, hdd⟩ : ∃ d, s[i] = d := ⟨_, rfl⟩
              rw [hdd] at hri
              by_cases k1 : d = 62
              · subst k1
                rw [if_pos rfl] at hri
                have HRI := Lib.hid (HYE.out i hri.symm)
                clear hri
                have hi1' : (i : Int) + 1 ≤ (s.size : Int) := by omega
                go_wp2_with fail
                go_ret2
                exact ⟨ret_tag HRI.out (by rw [Lib.extract_data]; simp) (by omega), B4⟩
              · have k1' : ((d.toNat : Int) == 62) = false := by
                  rw [beq_eq_false_iff_ne]; intro e
                  exact k1 (byte_eq (n := 62) (by omega))
                rw [if_neg k1] at hri
                by_cases k2 : d = 60 ∨ d = 0
                · rw [if_pos k2] at hri
                  have HRI := Lib.hid (HNO.out hri.symm)
                  clear hri
                  rcases k2 with rfl | rfl
                  all_goals
                    go_wp2_with fail
                    go_ret2
                    exact ⟨ret_nil HRI.out, B4⟩
                · rw [if_neg k2] at hri
                  have HRI := Lib.hid hri
                  clear hri
                  have q2 : ((d.toNat : Int) == 60) = false := by
                    rw [beq_eq_false_iff_ne]; intro e
                    exact k2 (Or.inl (byte_eq (n := 60) (by omega)))
                  have q3 : ((d.toNat : Int) == 0) = false := by
                    rw [beq_eq_false_iff_ne]; intro e
                    exact k2 (Or.inr (byte_eq (n := 0) (by omega)))
                  go_wp2_with fail
                  go_round
                  case rel => exact ⟨i + 1, by go_num, by omega, HRI.out⟩
                  case measure => simp [intOf]; omega
            · rw [drop_end s i (by omega), tagEnd] at hri
              have HRI := Lib.hid (HNO.out hri.symm)
              clear hri
              go_wp2_with fail
              go_ret2
              exact ⟨ret_nil HRI.out, B4⟩
        · have HN := Lib.hid (hTA.trans (hno (Or.inr (Or.inr (Or.inl ⟨c, _, hd, q1, fun h => q2 (Or.inl h), fun h => q2 (Or.inr (Or.inl h)), fun h => q2 (Or.inr (Or.inr h))⟩)))))
          rw [decide_eq_false q2] at hsg
          have HSG := Lib.hid hsg
          clear hno hyes hTA q2 hsg hd
          go_enter Tryz.func72, Tryz.ntmps72
          go_wp2_with fail
          refine (HP.out _).mono ?_
          rintro e w' ⟨rfl, hw'⟩
          obtain rfl := hw'.symm
          go_wp2_with fail
          refine (HC1.out _).mono ?_
          rintro e w2 ⟨rfl, b2⟩
          go_wp2_with fail
          refine (HC2.out _).mono ?_
          rintro e w3 ⟨rfl, b3⟩
          have B3 := below_step b2 b3
          go_wp2_with fail
          refine (HSG.out _).mono ?_
          rintro e w4 ⟨rfl, b4⟩
          have B4 := below_step B3 b4
          go_wp2_with fail
          go_ret2
          exact ⟨ret_nil HN.out, B4⟩
    · have HN := Lib.hid (hTA.trans (hno (Or.inr (Or.inl (drop_end s _ (by omega))))))
      have t1' : ¬ (1 : Int) + (k : Int) < (s.size : Int) := by omega
      clear hno hyes hTA
      go_enter Tryz.func72, Tryz.ntmps72
      go_wp2_with fail
      refine (HP.out _).mono ?_
      rintro e w' ⟨rfl, hw'⟩
      obtain rfl := hw'.symm
      go_wp2_with fail
      refine (HC1.out _).mono ?_
      rintro e w2 ⟨rfl, b2⟩
      go_wp2_with fail
      refine (HC2.out _).mono ?_
      rintro e w3 ⟨rfl, b3⟩
      have B3 := below_step b2 b3
      go_wp2_with fail
      refine wp_loop_rounds 1 ?_
      rw [rounds_succ]
      go_wp2_with fail
      go_ret2
      exact ⟨ret_nil HN.out, B3⟩

theorem tag_tok (s : ByteArray) (w : World) (h0 : 1 ≤ s.size) (hs : s.size ≤ 1000000000) :
    Calls Tryz.prog 72 #[.string s] w fun e w' => e = .returned (.tuple #[tokVal (tagL s.data.toList), .int .i64 (tokLen (tagL s.data.toList))]) ∧ Below w.heap.size w w' := by
  by_cases h : (s.data.toList.drop 1).head? = some 47
  · exact tag_two s w h0 hs h
  · exact tag_one s w h0 hs h

end Go.Proofs.YtahljcbmckldhaaGreatDoor

/-
  token.code: the walk.
-/
namespace Go.Proofs.YtahljcbmckldhaaGreatDoor
open Go.RowKit
set_option maxRecDepth 100000
set_option linter.unusedVariables false
set_option linter.unusedSimpArgs false

theorem suf_one (l : List UInt8) (c : UInt8) : Lib.hasSuffix l [c] = decide (l.getLast? = some c) := by
  unfold Lib.hasSuffix
  rw [Bool.eq_iff_iff, decide_eq_true_eq, List.isSuffixOf_iff_suffix]
  constructor
  · rintro ⟨a, rfl⟩; simp
  · intro h
    obtain ⟨a, rfl⟩ := List.getLast?_eq_some_iff.1 h
    exact ⟨a, rfl⟩
theorem suf_at (c : UInt8) (s : ByteArray) (w : World) (hs : s.size ≤ 1000000000) :
    Calls Tryz.prog 68 #[.string s, .string ⟨#[c]⟩] w fun e w' => e = .returned (.bool (decide (s.data.toList.getLast? = some c))) ∧ w' = w := by
  have := Tryz.strings_HasSuffix s ⟨#[c]⟩ w (by omega)
  rw [show (ByteArray.mk #[c]).data.toList = [c] from rfl, suf_one] at this
  exact this

theorem dropAll (c : UInt8) : ∀ l : List UInt8, (l.dropWhile (· == c)).isEmpty = !(l.any (fun x => x != c))
  | [] => rfl
  | x :: l => by
    have ih := dropAll c l
    rw [List.dropWhile_cons, List.any_cons]
    by_cases h : x = c
    · subst h; simpa using ih
    · simp [h]
theorem trim_empty (l : List UInt8) (c : UInt8) : (Lib.trimB l c).isEmpty = !(l.any (fun x => x != c)) := by
  unfold Lib.trimB Lib.trimLeftB
  rw [dropAll]
  unfold Lib.trimRightB
  have h := dropAll c l.reverse
  rw [List.any_reverse] at h
  rw [List.any_reverse]
  cases ha : l.any (fun x => x != c)
  · rw [ha] at h
    have : l.reverse.dropWhile (· == c) = [] := by simpa using h
    rw [this]; rfl
  · congr 1
    rw [List.any_eq_true] at ha ⊢
    obtain ⟨x, hx, hxc⟩ := ha
    have key : ∀ m : List UInt8, x ∈ m → (x != c) = true → x ∈ m.dropWhile (· == c) := by
      intro m
      induction m with
      | nil => intro h _; cases h
      | cons y m ih =>
        intro hm hc
        rw [List.dropWhile_cons]
        split
        · rename_i hy
          refine ih ?_ hc
          rcases List.mem_cons.1 hm with e | e
          · exfalso; rw [← e] at hy; simp at hy hc; exact hc hy
          · exact e
        · exact hm
    exact ⟨x, key _ (List.mem_reverse.2 hx) hxc, hxc⟩

theorem trim_any (s : ByteArray) (w : World) (hs : s.size ≤ 1000000000) :
    Calls Tryz.prog 69 #[.string s, .string ⟨#[32]⟩] w fun e w' => ∃ Y : ByteArray, e = .returned (.string Y) ∧ Y.toList.isEmpty = !(s.data.toList.any (fun c => c != 32)) ∧ Below w.heap.size w w' := by
  refine (Tryz.strings_Trim_one s 32 (by decide) w (by omega)).mono ?_
  rintro e w' ⟨rfl, h⟩
  refine ⟨_, rfl, ?_, ?_⟩
  · rw [Lib.toList_data]; exact trim_empty _ _
  · rcases h with rfl | rfl
    · exact Below.refl _ _
    · exact (Below.refl _ _).drew

theorem any_len {l : List UInt8} (h1 : l.head? = some 32) (h2 : l.getLast? = some 32) (h3 : l.any (fun c => c != 32) = true) : 3 ≤ l.length := by
  match l, h1, h2, h3 with
  | [a], h1, _, h3 => simp at h1; subst h1; simp at h3
  | [a, b], h1, h2, h3 => simp at h1 h2; subst h1 h2; simp at h3
  | a :: b :: c :: l, _, _, _ => simp

/-- The relation of the loop. -/
def CodeRel (s : ByteArray) (n i : Nat) : Prop := ∃ f, codeGo f s.data.toList n i = codeL s.data.toList ∧ s.size < i + f

set_option maxHeartbeats 8000000 in
theorem code_tok (s : ByteArray) (w : World) (hE : Env w) (hs : s.size ≤ 1000000000) :
    Calls Tryz.prog 43 #[.string s] w fun e w' => e = .returned (.tuple #[(codeL s.data.toList).1.val, .int .i64 (codeL s.data.toList).2]) ∧ Below w.heap.size w w' := by
  have hc := fun W => among_small [96] (by decide) (by decide) s W hs
  have hle := among_le s.data.toList [96]
  rw [← Lib.size_eq] at hle
  have h0 : CodeRel s (amongL s.data.toList [96]) (amongL s.data.toList [96]) := ⟨s.size + 1, by rw [Lib.size_eq]; rfl, by omega⟩
  obtain ⟨n, hn⟩ : ∃ n, amongL s.data.toList [96] = n := ⟨_, rfl⟩
  rw [hn] at hc hle h0
  have HC := Lib.hid hc
  have H0 := Lib.hid h0
  have HE := Lib.hid hE
  clear hc hn h0 hE
  go_enter Tryz.func43, Tryz.ntmps43
  go_wp2_with fail
  refine (HC.out _).mono ?_
  rintro e w2 ⟨rfl, b2⟩
  go_wp2_with fail
  go_loopw [5] (fun u5 wr => ∃ i : Nat, u5 = .int .i64 i ∧ i ≤ s.size ∧ n ≤ i ∧ CodeRel s n i ∧ Below w.heap.size w wr) (fun u5 _ => s.size - (intOf u5).toNat)
  case atStart => exact ⟨n, rfl, hle, Nat.le_refl _, H0.out, b2⟩
  case round =>
    obtain ⟨i, rfl, hi, hni0, hrl, hB⟩ := hrel
    clear b2
    have HR := Lib.hid hrl
    clear hrl
    by_cases hit : i < s.size
    · obtain ⟨f, hf, hfi⟩ := HR.out
      obtain ⟨f, rfl⟩ : ∃ g, f = g + 1 := ⟨f - 1, by omega⟩
      rw [codeGo] at hf
      have hix := fun W => Tryz.strings_IndexByte (s.extract i s.size) 96 W
      rw [tail_list, show ((96 : Int).toNat.toUInt8) = 96 from rfl] at hix
      have hlt := indexByte_lt 96 (s.data.toList.drop i)
      obtain ⟨k, hk⟩ : ∃ k, Lib.indexByte (s.data.toList.drop i) 96 = k := ⟨_, rfl⟩
      rw [hk] at hix hf hlt
      have HIX := Lib.hid hix
      clear hix hk HR
      by_cases hk0 : k < 0
      · rw [if_pos hk0] at hf
        have HF := Lib.hid hf
        clear hf hlt
        go_wp2_with fail
        refine (HIX.out _).mono ?_
        rintro e _ ⟨rfl, rfl⟩
        go_wp2_with fail
        go_ret2
        exact ⟨ret_cword HF.out.symm (by rw [Lib.extract_data]; simp) rfl, hB⟩
      · rw [if_neg hk0] at hf
        obtain ⟨K, rfl⟩ : ∃ K : Nat, k = K := ⟨k.toNat, by omega⟩
        obtain ⟨hl1, hl2⟩ := hlt (by omega)
        rw [List.length_drop, ← Lib.size_eq, Int.toNat_natCast] at hl1
        rw [Int.toNat_natCast] at hl2 hf
        rw [List.getElem?_drop] at hl2
        have hca := fun W => among_small [96] (by decide) (by decide) (s.extract (i + K) s.size) W (by rw [tail_size]; omega)
        rw [tail_list] at hca
        have hml := among_le (s.data.toList.drop (i + K)) [96]
        rw [List.length_drop, ← Lib.size_eq] at hml
        have hm1 : 1 ≤ amongL (s.data.toList.drop (i + K)) [96] := by
          have hx : s.data.toList.drop (i + K) = 96 :: s.data.toList.drop (i + K + 1) := by
            obtain ⟨hlen, he⟩ := List.getElem?_eq_some_iff.1 hl2
            rw [List.drop_eq_getElem_cons hlen, he]
          rw [hx, among_cons]
          simp
        obtain ⟨m, hm⟩ : ∃ m, amongL (s.data.toList.drop (i + K)) [96] = m := ⟨_, rfl⟩
        rw [hm] at hca hf hml hm1
        have HCA := Lib.hid hca
        clear hca hm hl2
        have hKi : (i : Int) + (K : Int) ≤ (s.size : Int) := by omega
        by_cases hmn : m = n
        · have hmn' : ((m : Int) == (n : Int)) = true := by rw [beq_iff_eq]; omega
          rw [if_pos hmn] at hf
          have hni : n ≤ i + K := by omega
          have hni' : (n : Int) ≤ (i : Int) + (K : Int) := by omega
          have hlf := fun W hW => lf_any (s.extract n (i + K)) W hW (by rw [Lib.size_eq, Lib.extract_data, List.length_take]; omega)
          have hxl : (s.extract n (i + K)).data.toList = (s.data.toList.take (i + K)).drop n := by rw [Lib.extract_data, List.drop_take]
          rw [hxl] at hlf
          obtain ⟨X, hX, hXz⟩ := ba_ex (lfBlank ((s.data.toList.take (i + K)).drop n))
          rw [← hX] at hlf
          simp only [Lib.mk_data] at hlf
          have hXs : X.size ≤ 1000000000 := by rw [hXz, lf_len, List.length_drop, List.length_take, ← Lib.size_eq]; omega
          unfold codeText at hf
          rw [← hX] at hf
          have hp1 := fun W => pre_at 32 X W
          have hp2 := fun W => suf_at 32 X W hXs
          have hp3 := fun W => trim_any X W hXs
          have HLF := Lib.hid hlf
          clear hlf hX hXz hxl
          by_cases t1 : X.data.toList.head? = some 32
          · rw [decide_eq_true t1] at hp1
            by_cases t2 : X.data.toList.getLast? = some 32
            · rw [decide_eq_true t2] at hp2
              cases t3 : X.data.toList.any (fun c => c != 32)
              · rw [if_neg (by rw [t3]; simp)] at hf
                rw [t3] at hp3
                have HP3 := Lib.hid hp3
                have HF := Lib.hid hf
                have HP1 := Lib.hid hp1
                have HP2 := Lib.hid hp2
                clear hf hp1 hp2 hp3
                go_wp2_with fail
                refine (HIX.out _).mono ?_
                rintro e _ ⟨rfl, rfl⟩
                go_wp2_with fail
                refine (HCA.out _).mono ?_
                rintro e w3 ⟨rfl, b3⟩
                have B3 := below_step hB b3
                go_wp2_with fail
                refine (HLF.out _ (HE.out.below B3)).mono ?_
                rintro e w4 ⟨rfl, b4⟩
                have B4 := below_step B3 b4
                go_wp2_with fail
                refine (HP1.out _).mono ?_
                rintro e _ ⟨rfl, rfl⟩
                go_wp2_with fail
                refine (HP2.out _).mono ?_
                rintro e _ ⟨rfl, rfl⟩
                go_wp2_with fail
                refine (HP3.out _).mono ?_
                rintro e w5 ⟨Y, rfl, hY, b5⟩
                have hY1 : (!Y.toList.isEmpty) = _ := congrArg Bool.not hY
                simp only [Bool.not_not, Bool.not_true, Bool.not_false] at hY hY1
                go_wp2_with fail
                go_ret2
                exact ⟨ret_ccode HF.out.symm rfl (by omega), below_step B4 b5⟩
              · rw [if_pos ⟨t1, t2, t3⟩] at hf
                rw [t3] at hp3
                have hX3 := any_len t1 t2 t3
                rw [← Lib.size_eq] at hX3
                have hx3' : (1 : Int) ≤ (X.size : Int) - 1 := by omega
                have HP3 := Lib.hid hp3
                have HF := Lib.hid hf
                have HP1 := Lib.hid hp1
                have HP2 := Lib.hid hp2
                clear hf hp1 hp2 hp3
                go_wp2_with fail
                refine (HIX.out _).mono ?_
                rintro e _ ⟨rfl, rfl⟩
                go_wp2_with fail
                refine (HCA.out _).mono ?_
                rintro e w3 ⟨rfl, b3⟩
                have B3 := below_step hB b3
                go_wp2_with fail
                refine (HLF.out _ (HE.out.below B3)).mono ?_
                rintro e w4 ⟨rfl, b4⟩
                have B4 := below_step B3 b4
                go_wp2_with fail
                refine (HP1.out _).mono ?_
                rintro e _ ⟨rfl, rfl⟩
                go_wp2_with fail
                refine (HP2.out _).mono ?_
                rintro e _ ⟨rfl, rfl⟩
                go_wp2_with fail
                refine (HP3.out _).mono ?_
                rintro e w5 ⟨Y, rfl, hY, b5⟩
                have hY1 : (!Y.toList.isEmpty) = _ := congrArg Bool.not hY
                simp only [Bool.not_not, Bool.not_true, Bool.not_false] at hY hY1
                go_wp2_with fail
                go_ret2
                exact ⟨ret_ccode HF.out.symm (by rw [Lib.extract_data, List.dropLast_eq_take, ← List.drop_one, List.length_drop, ← Lib.size_eq]) (by omega), below_step B4 b5⟩
            · rw [decide_eq_false t2] at hp2
              rw [if_neg (by rintro ⟨_, h, _⟩; exact t2 h)] at hf
              have HF := Lib.hid hf
              have HP1 := Lib.hid hp1
              have HP2 := Lib.hid hp2
              clear hf hp1 hp2 hp3
              go_wp2_with fail
              refine (HIX.out _).mono ?_
              rintro e _ ⟨rfl, rfl⟩
              go_wp2_with fail
              refine (HCA.out _).mono ?_
              rintro e w3 ⟨rfl, b3⟩
              have B3 := below_step hB b3
              go_wp2_with fail
              refine (HLF.out _ (HE.out.below B3)).mono ?_
              rintro e w4 ⟨rfl, b4⟩
              have B4 := below_step B3 b4
              go_wp2_with fail
              refine (HP1.out _).mono ?_
              rintro e _ ⟨rfl, rfl⟩
              go_wp2_with fail
              refine (HP2.out _).mono ?_
              rintro e _ ⟨rfl, rfl⟩
              go_wp2_with fail
              go_ret2
              exact ⟨ret_ccode HF.out.symm rfl (by omega), B4⟩
          · rw [decide_eq_false t1] at hp1
            rw [if_neg (by rintro ⟨h, _, _⟩; exact t1 h)] at hf
            have HF := Lib.hid hf
            have HP1 := Lib.hid hp1
            have HP2 := Lib.hid hp2
            clear hf hp1 hp2 hp3
            go_wp2_with fail
            refine (HIX.out _).mono ?_
            rintro e _ ⟨rfl, rfl⟩
            go_wp2_with fail
            refine (HCA.out _).mono ?_
            rintro e w3 ⟨rfl, b3⟩
            have B3 := below_step hB b3
            go_wp2_with fail
            refine (HLF.out _ (HE.out.below B3)).mono ?_
            rintro e w4 ⟨rfl, b4⟩
            have B4 := below_step B3 b4
            go_wp2_with fail
            refine (HP1.out _).mono ?_
            rintro e _ ⟨rfl, rfl⟩
            go_wp2_with fail
            go_ret2
            exact ⟨ret_ccode HF.out.symm rfl (by omega), B4⟩
        · have hmn' : ((m : Int) == (n : Int)) = false := by rw [beq_eq_false_iff_ne]; omega
          rw [if_neg hmn] at hf
          have HF := Lib.hid hf
          clear hf
          go_wp2_with fail
          refine (HIX.out _).mono ?_
          rintro e _ ⟨rfl, rfl⟩
          go_wp2_with fail
          refine (HCA.out _).mono ?_
          rintro e w3 ⟨rfl, b3⟩
          go_wp2_with fail
          go_roundw
          case rel => exact ⟨i + K + m, by go_num, by omega, by omega, ⟨f, HF.out, by omega⟩, below_step hB b3⟩
          case measure => simp [intOf]; omega
    · obtain rfl : i = s.size := by omega
      obtain ⟨f, hf, hfi⟩ := HR.out
      obtain ⟨f, rfl⟩ : ∃ g, f = g + 1 := ⟨f - 1, by omega⟩
      rw [codeGo, drop_end s s.size (Nat.le_refl _), if_pos (by decide)] at hf
      have HF := Lib.hid hf
      clear hf HR
      go_wp2_with fail
      go_ret2
      exact ⟨ret_cword HF.out.symm (by rw [Lib.extract_data]; simp) rfl, hB⟩

end Go.Proofs.YtahljcbmckldhaaGreatDoor

/-
  token.angle, begins, Next.
-/
namespace Go.Proofs.YtahljcbmckldhaaGreatDoor
open Go.RowKit
set_option maxRecDepth 100000
set_option linter.unusedVariables false
set_option linter.unusedSimpArgs false

theorem tokLen_some {o : Option (Tok × Nat)} (h : o ≠ none) : ∃ t n, o = some (t, n) := by
  cases o with
  | none => exact absurd rfl h
  | some r => exact ⟨r.1, r.2, rfl⟩

set_option maxHeartbeats 8000000 in
theorem angle_tok (s : ByteArray) (w : World) (h0 : 1 ≤ s.size) (hs : s.size ≤ 1000000000) :
    Calls Tryz.prog 44 #[.string s] w fun e w' => e = .returned (.tuple #[tokVal (angleL s.data.toList), .int .i64 (tokLen (angleL s.data.toList))]) ∧ Below w.heap.size w w' := by
  have ha := fun W => auto_tok s W h0 hs
  have hm := fun W => mail_tok s W h0 hs
  have ht := fun W => tag_tok s W h0 hs
  have hA : angleL s.data.toList = match autoL s.data.toList with
    | some r => some r
    | none => match mailL s.data.toList with
      | some r => some r
      | none => tagL s.data.toList := rfl
  have pa := fun t n => @auto_le s.data.toList t n
  have pm := fun t n => @mail_le s.data.toList t n
  have pt : ∀ t n, tagL s.data.toList = some (t, n) → 0 < n := fun t n h => (tagAt_le h).1
  obtain ⟨oa, ea⟩ : ∃ o, autoL s.data.toList = o := ⟨_, rfl⟩
  obtain ⟨om, em⟩ : ∃ o, mailL s.data.toList = o := ⟨_, rfl⟩
  obtain ⟨ot, et⟩ : ∃ o, tagL s.data.toList = o := ⟨_, rfl⟩
  rw [ea] at ha hA pa
  rw [em] at hm hA pm
  rw [et] at ht hA pt
  rcases oa with _ | ⟨t, n⟩
  · simp only [tokVal, tokLen] at ha
    rcases om with _ | ⟨t, n⟩
    · simp only [tokVal, tokLen] at hm
      rcases ot with _ | ⟨t, n⟩
      · simp only [tokVal, tokLen] at ht
        have HA := Lib.hid ha
        have HM := Lib.hid hm
        have HT := Lib.hid ht
        have HE := Lib.hid hA
        clear ha hm ht hA ea em et pa pm pt
        go_enter Tryz.func44, Tryz.ntmps44
        go_wp2_with fail
        obtain ⟨W1, hW1⟩ : ∃ W1, w.alloc (.cells #[.func (.func 70) #[] #[], .func (.func 71) #[] #[], .func (.func 72) #[] #[]] 66) = W1 := ⟨_, rfl⟩
        have c0 : W1.cell? ⟨w.heap.size, 0, none⟩ = some (.func (.func 70) #[] #[]) := by rw [← hW1]; simp
        have c1 : W1.cell? ⟨w.heap.size, 1, none⟩ = some (.func (.func 71) #[] #[]) := by rw [← hW1]; simp
        have c2 : W1.cell? ⟨w.heap.size, 2, none⟩ = some (.func (.func 72) #[] #[]) := by rw [← hW1]; simp
        have hB1 : Below w.heap.size w W1 := by rw [← hW1]; exact (Below.refl _ w).alloc (Nat.le_refl _) _
        have hs1 : w.heap.size < W1.heap.size := by rw [← hW1, World.size_alloc]; omega
        rw [hW1]
        clear hW1
        refine wp_loop_rounds 4 ?_
        rw [rounds_succ]
        go_wp2_with fail
        refine (HA.out _).mono ?_
        rintro e w2 ⟨rfl, b2⟩
        have d1 := (b2.cell (p := ⟨w.heap.size, 1, none⟩) hs1).trans c1
        have d2 := (b2.cell (p := ⟨w.heap.size, 2, none⟩) hs1).trans c2
        have hs2 : w.heap.size < w2.heap.size := by have := b2.size; omega
        have B2 := below_step hB1 b2
        clear c0 c1 c2 b2
        go_wp2_with fail
        rw [rounds_succ]
        go_wp2_with fail
        refine (HM.out _).mono ?_
        rintro e w3 ⟨rfl, b3⟩
        have e2 := (b3.cell (p := ⟨w.heap.size, 2, none⟩) hs2).trans d2
        have B3 := below_step B2 b3
        clear d1 d2 b3
        go_wp2_with fail
        rw [rounds_succ]
        go_wp2_with fail
        refine (HT.out _).mono ?_
        rintro e w4 ⟨rfl, b4⟩
        have B4 := below_step B3 b4
        clear e2 b4
        go_wp2_with fail
        rw [rounds_succ]
        go_wp2_with fail
        go_ret2
        exact ⟨ret_nil HE.out, B4⟩
      · simp only [tokVal, tokLen] at ht
        have hn := pt t n rfl
        have hn' : (0 : Int) < (n : Int) := by omega
        have HA := Lib.hid ha
        have HM := Lib.hid hm
        have HT := Lib.hid ht
        have HE := Lib.hid hA
        clear ha hm ht hA ea em et pa pm pt
        go_enter Tryz.func44, Tryz.ntmps44
        go_wp2_with fail
        obtain ⟨W1, hW1⟩ : ∃ W1, w.alloc (.cells #[.func (.func 70) #[] #[], .func (.func 71) #[] #[], .func (.func 72) #[] #[]] 66) = W1 := ⟨_, rfl⟩
        have c0 : W1.cell? ⟨w.heap.size, 0, none⟩ = some (.func (.func 70) #[] #[]) := by rw [← hW1]; simp
        have c1 : W1.cell? ⟨w.heap.size, 1, none⟩ = some (.func (.func 71) #[] #[]) := by rw [← hW1]; simp
        have c2 : W1.cell? ⟨w.heap.size, 2, none⟩ = some (.func (.func 72) #[] #[]) := by rw [← hW1]; simp
        have hB1 : Below w.heap.size w W1 := by rw [← hW1]; exact (Below.refl _ w).alloc (Nat.le_refl _) _
        have hs1 : w.heap.size < W1.heap.size := by rw [← hW1, World.size_alloc]; omega
        rw [hW1]
        clear hW1
        refine wp_loop_rounds 4 ?_
        rw [rounds_succ]
        go_wp2_with fail
        refine (HA.out _).mono ?_
        rintro e w2 ⟨rfl, b2⟩
        have d1 := (b2.cell (p := ⟨w.heap.size, 1, none⟩) hs1).trans c1
        have d2 := (b2.cell (p := ⟨w.heap.size, 2, none⟩) hs1).trans c2
        have hs2 : w.heap.size < w2.heap.size := by have := b2.size; omega
        have B2 := below_step hB1 b2
        clear c0 c1 c2 b2
        go_wp2_with fail
        rw [rounds_succ]
        go_wp2_with fail
        refine (HM.out _).mono ?_
        rintro e w3 ⟨rfl, b3⟩
        have e2 := (b3.cell (p := ⟨w.heap.size, 2, none⟩) hs2).trans d2
        have B3 := below_step B2 b3
        clear d1 d2 b3
        go_wp2_with fail
        rw [rounds_succ]
        go_wp2_with fail
        refine (HT.out _).mono ?_
        rintro e w4 ⟨rfl, b4⟩
        have B4 := below_step B3 b4
        clear e2 b4
        go_wp2_with fail
        go_ret2
        exact ⟨ret_tok HE.out rfl rfl, B4⟩
    · simp only [tokVal, tokLen] at hm
      have hn := (pm t n rfl).1
      have hn' : (0 : Int) < (n : Int) := by omega
      have HA := Lib.hid ha
      have HM := Lib.hid hm
      have HE := Lib.hid hA
      clear ha hm ht hA ea em et pa pm pt
      go_enter Tryz.func44, Tryz.ntmps44
      go_wp2_with fail
      obtain ⟨W1, hW1⟩ : ∃ W1, w.alloc (.cells #[.func (.func 70) #[] #[], .func (.func 71) #[] #[], .func (.func 72) #[] #[]] 66) = W1 := ⟨_, rfl⟩
      have c0 : W1.cell? ⟨w.heap.size, 0, none⟩ = some (.func (.func 70) #[] #[]) := by rw [← hW1]; simp
      have c1 : W1.cell? ⟨w.heap.size, 1, none⟩ = some (.func (.func 71) #[] #[]) := by rw [← hW1]; simp
      have c2 : W1.cell? ⟨w.heap.size, 2, none⟩ = some (.func (.func 72) #[] #[]) := by rw [← hW1]; simp
      have hB1 : Below w.heap.size w W1 := by rw [← hW1]; exact (Below.refl _ w).alloc (Nat.le_refl _) _
      have hs1 : w.heap.size < W1.heap.size := by rw [← hW1, World.size_alloc]; omega
      rw [hW1]
      clear hW1
      refine wp_loop_rounds 4 ?_
      rw [rounds_succ]
      go_wp2_with fail
      refine (HA.out _).mono ?_
      rintro e w2 ⟨rfl, b2⟩
      have d1 := (b2.cell (p := ⟨w.heap.size, 1, none⟩) hs1).trans c1
      have d2 := (b2.cell (p := ⟨w.heap.size, 2, none⟩) hs1).trans c2
      have hs2 : w.heap.size < w2.heap.size := by have := b2.size; omega
      have B2 := below_step hB1 b2
      clear c0 c1 c2 b2
      go_wp2_with fail
      rw [rounds_succ]
      go_wp2_with fail
      refine (HM.out _).mono ?_
      rintro e w3 ⟨rfl, b3⟩
      have e2 := (b3.cell (p := ⟨w.heap.size, 2, none⟩) hs2).trans d2
      have B3 := below_step B2 b3
      clear d1 d2 b3
      go_wp2_with fail
      go_ret2
      exact ⟨ret_tok HE.out rfl rfl, B3⟩
  · simp only [tokVal, tokLen] at ha
    have hn := (pa t n rfl).1
    have hn' : (0 : Int) < (n : Int) := by omega
    have HA := Lib.hid ha
    have HE := Lib.hid hA
    clear ha hm ht hA ea em et pa pm pt
    go_enter Tryz.func44, Tryz.ntmps44
    go_wp2_with fail
    obtain ⟨W1, hW1⟩ : ∃ W1, w.alloc (.cells #[.func (.func 70) #[] #[], .func (.func 71) #[] #[], .func (.func 72) #[] #[]] 66) = W1 := ⟨_, rfl⟩
    have c0 : W1.cell? ⟨w.heap.size, 0, none⟩ = some (.func (.func 70) #[] #[]) := by rw [← hW1]; simp
    have c1 : W1.cell? ⟨w.heap.size, 1, none⟩ = some (.func (.func 71) #[] #[]) := by rw [← hW1]; simp
    have c2 : W1.cell? ⟨w.heap.size, 2, none⟩ = some (.func (.func 72) #[] #[]) := by rw [← hW1]; simp
    have hB1 : Below w.heap.size w W1 := by rw [← hW1]; exact (Below.refl _ w).alloc (Nat.le_refl _) _
    have hs1 : w.heap.size < W1.heap.size := by rw [← hW1, World.size_alloc]; omega
    rw [hW1]
    clear hW1
    refine wp_loop_rounds 4 ?_
    rw [rounds_succ]
    go_wp2_with fail
    refine (HA.out _).mono ?_
    rintro e w2 ⟨rfl, b2⟩
    have d1 := (b2.cell (p := ⟨w.heap.size, 1, none⟩) hs1).trans c1
    have d2 := (b2.cell (p := ⟨w.heap.size, 2, none⟩) hs1).trans c2
    have hs2 : w.heap.size < w2.heap.size := by have := b2.size; omega
    have B2 := below_step hB1 b2
    clear c0 c1 c2 b2
    go_wp2_with fail
    go_ret2
    exact ⟨ret_tok HE.out rfl rfl, B2⟩

end Go.Proofs.YtahljcbmckldhaaGreatDoor

/-
  token.begins: the token with which a text begins.
-/
namespace Go.Proofs.YtahljcbmckldhaaGreatDoor
open Go.RowKit
set_option maxRecDepth 100000
set_option linter.unusedVariables false
set_option linter.unusedSimpArgs false

theorem pre_two (s : ByteArray) (w : World) :
    Calls Tryz.prog 46 #[.string s, .string ⟨#[33, 91]⟩] w fun e w' => e = .returned (.bool (Lib.hasPrefix s.data.toList [33, 91])) ∧ w' = w :=
  Tryz.strings_HasPrefix s ⟨#[33, 91]⟩ w

theorem ret_same {a b : Option (Tok × Nat)} (h : a = b) : Ending.returned (.tuple #[tokVal a, .int .i64 (tokLen a)]) = .returned (.tuple #[tokVal b, .int .i64 (tokLen b)]) := by rw [h]
theorem ret_brk {o : Option (Tok × Nat)} {b c : Bool} {m : Nat} {n : Int} (h : o = some (.brk b, m)) (hb : c = b) (hn : n = m) : Ending.returned (.tuple #[.iface 83 (.agg #[.bool c]), .int .i64 n]) = .returned (.tuple #[tokVal o, .int .i64 (tokLen o)]) := by
  rw [hb]; exact ret_tok h rfl hn
theorem ret_codeL {o : Option (Tok × Nat)} {r : Tok × Nat} (h : o = some r) : Ending.returned (.tuple #[r.1.val, .int .i64 r.2]) = .returned (.tuple #[tokVal o, .int .i64 (tokLen o)]) := by rw [h]; rfl


set_option maxHeartbeats 8000000 in
/-- A byte that hands the text on to one reader. -/
theorem begins_sub (s : ByteArray) (c : UInt8) (r : List UInt8) (w : World) (hE : Env w) (hl : s.data.toList = c :: r) (hs : s.size ≤ 1000000000) (h : c = 0 ∨ c = 92 ∨ c = 96 ∨ c = 60) :
    Calls Tryz.prog 23 #[.string s] w fun e w' => e = .returned (.tuple #[tokVal (beginsL s.data.toList), .int .i64 (tokLen (beginsL s.data.toList))]) ∧ Below w.heap.size w w' := by
  have hsz : 1 ≤ s.size := by rw [Lib.size_eq, hl]; simp
  have hc : ∀ h, s[0]'h = c := fun h => by
    have := Lib.data_getElem? s 0 h
    rw [hl] at this
    simpa using this.symm
  rcases h with rfl | rfl | rfl | rfl
  · have HB := Lib.hid (show beginsL s.data.toList = atomL s.data.toList by rw [hl]; rfl)
    clear hl
    go_enter Tryz.func23, Tryz.ntmps23
    go_wp2_with fail
    refine (atom_tok s _ hsz hs).mono ?_
    rintro e w2 ⟨rfl, b2⟩
    go_wp2_with fail
    go_ret2
    exact ⟨ret_same HB.out.symm, b2⟩
  · have HB := Lib.hid (show beginsL s.data.toList = escapedL s.data.toList by rw [hl]; rfl)
    clear hl
    go_enter Tryz.func23, Tryz.ntmps23
    go_wp2_with fail
    refine (escaped_tok s _ hsz hs).mono ?_
    rintro e w2 ⟨rfl, b2⟩
    go_wp2_with fail
    go_ret2
    exact ⟨ret_same HB.out.symm, b2⟩
  · have HB := Lib.hid (show beginsL s.data.toList = some (codeL s.data.toList) by rw [hl]; rfl)
    clear hl
    go_enter Tryz.func23, Tryz.ntmps23
    go_wp2_with fail
    refine (code_tok s _ hE hs).mono ?_
    rintro e w2 ⟨rfl, b2⟩
    go_wp2_with fail
    go_ret2
    exact ⟨ret_codeL HB.out, b2⟩
  · have HB := Lib.hid (show beginsL s.data.toList = angleL s.data.toList by rw [hl]; rfl)
    clear hl
    go_enter Tryz.func23, Tryz.ntmps23
    go_wp2_with fail
    refine (angle_tok s _ hsz hs).mono ?_
    rintro e w2 ⟨rfl, b2⟩
    go_wp2_with fail
    go_ret2
    exact ⟨ret_same HB.out.symm, b2⟩

set_option maxHeartbeats 8000000 in
theorem begins_amp (s : ByteArray) (r : List UInt8) (w : World) (hE : Env w) (hl : s.data.toList = 38 :: r) (hs : s.size ≤ 1000000000) :
    Calls Tryz.prog 23 #[.string s] w fun e w' => e = .returned (.tuple #[tokVal (beginsL s.data.toList), .int .i64 (tokLen (beginsL s.data.toList))]) ∧ Below w.heap.size w w' := by
  have hsz : 1 ≤ s.size := by rw [Lib.size_eq, hl]; simp
  have hc : ∀ h, s[0]'h = 38 := fun h => by
    have := Lib.data_getElem? s 0 h
    rw [hl] at this
    simpa using this.symm
  have hB : beginsL s.data.toList = if 0 < (entAt s.data.toList).2 then some (.word (entAt s.data.toList).1, (entAt s.data.toList).2) else none := by rw [hl]; rfl
  have ha := fun W hW => at_any s W hW hs
  obtain ⟨T, hT, _⟩ := ba_ex (entAt s.data.toList).1
  obtain ⟨n, hn⟩ : ∃ n, (entAt s.data.toList).2 = n := ⟨_, rfl⟩
  rw [← hT, hn] at ha hB
  simp only [Lib.mk_data] at ha
  have HA := Lib.hid ha
  have HE := Lib.hid hE
  clear ha hE
  by_cases h0 : 0 < n
  · have h0' : (0 : Int) < (n : Int) := by omega
    rw [if_pos h0] at hB
    have HB := Lib.hid hB
    clear hB hT hn
    go_enter Tryz.func23, Tryz.ntmps23
    go_wp2_with fail
    refine (HA.out _ HE.out).mono ?_
    rintro e w2 ⟨rfl, b2⟩
    go_wp2_with fail
    go_ret2
    exact ⟨ret_word HB.out rfl rfl, b2⟩
  · have h0' : ¬ (0 : Int) < (n : Int) := by omega
    rw [if_neg h0] at hB
    have HB := Lib.hid hB
    clear hB hT hn
    go_enter Tryz.func23, Tryz.ntmps23
    go_wp2_with fail
    refine (HA.out _ HE.out).mono ?_
    rintro e w2 ⟨rfl, b2⟩
    go_wp2_with fail
    go_ret2
    exact ⟨ret_nil HB.out, b2⟩

set_option maxHeartbeats 8000000 in
theorem begins_run (s : ByteArray) (c : UInt8) (r : List UInt8) (w : World) (hl : s.data.toList = c :: r) (hs : s.size ≤ 1000000000) (h : c = 42 ∨ c = 95) :
    Calls Tryz.prog 23 #[.string s] w fun e w' => e = .returned (.tuple #[tokVal (beginsL s.data.toList), .int .i64 (tokLen (beginsL s.data.toList))]) ∧ Below w.heap.size w w' := by
  have hsz : 1 ≤ s.size := by rw [Lib.size_eq, hl]; simp
  have hc : ∀ h, s[0]'h = c := fun h => by
    have := Lib.data_getElem? s 0 h
    rw [hl] at this
    simpa using this.symm
  have hx : s.extract 0 1 = ⟨#[c]⟩ := ba_eq (by rw [Lib.extract_data, hl]; rfl)
  have hm := fun W => among_tok s ⟨#[c]⟩ W (by show 1 < _; omega) (fun j b hj => by
    have : b = c := by
      rw [show (ByteArray.mk #[c]).data.toList = [c] from rfl] at hj
      cases j with
      | zero => simpa using hj.symm
      | succ j => simp at hj
    rw [this]; rcases h with rfl | rfl <;> decide) hs
  rw [show (ByteArray.mk #[c]).data.toList = [c] from rfl] at hm
  have hB : beginsL s.data.toList = some (.run c (amongL s.data.toList [c]), amongL s.data.toList [c]) := by
    rw [hl]
    rcases h with rfl | rfl <;> rfl
  obtain ⟨n, hn⟩ : ∃ n, amongL s.data.toList [c] = n := ⟨_, rfl⟩
  rw [hn] at hm hB
  have HM := Lib.hid hm
  have HB := Lib.hid hB
  clear hm hB hn
  rcases h with rfl | rfl
  all_goals
    go_enter Tryz.func23, Tryz.ntmps23
    go_wp2_with fail
    refine (HM.out _).mono ?_
    rintro e w2 ⟨rfl, b2⟩
    go_wp2_with fail
    go_ret2
    exact ⟨ret_tok HB.out rfl rfl, b2⟩

set_option maxHeartbeats 8000000 in
theorem begins_mark (s : ByteArray) (c : UInt8) (r : List UInt8) (w : World) (hl : s.data.toList = c :: r) (hs : s.size ≤ 1000000000) (h : c = 33 ∨ c = 91 ∨ c = 93) :
    Calls Tryz.prog 23 #[.string s] w fun e w' => e = .returned (.tuple #[tokVal (beginsL s.data.toList), .int .i64 (tokLen (beginsL s.data.toList))]) ∧ Below w.heap.size w w' := by
  have hsz : 1 ≤ s.size := by rw [Lib.size_eq, hl]; simp
  have hc : ∀ h, s[0]'h = c := fun h => by
    have := Lib.data_getElem? s 0 h
    rw [hl] at this
    simpa using this.symm
  have hx : s.extract 0 1 = ⟨#[c]⟩ := ba_eq (by rw [Lib.extract_data, hl]; rfl)
  rcases h with rfl | rfl | rfl
  · have hp := fun W => pre_two s W
    have hq : Lib.hasPrefix s.data.toList [33, 91] = decide (r.head? = some 91) := by
      rw [hl]
      unfold Lib.hasPrefix
      cases r with
      | nil => rfl
      | cons d r =>
        by_cases e : d = 91
        · simp [List.isPrefixOf, e]
        · simp [List.isPrefixOf, e, Ne.symm e]
    rw [hq] at hp
    have hB : beginsL s.data.toList = if r.head? = some 91 then some (.mark [33, 91], 2) else none := by rw [hl]; rfl
    by_cases hd : r.head? = some 91
    · rw [decide_eq_true hd] at hp
      rw [if_pos hd] at hB
      have HP := Lib.hid hp
      have HB := Lib.hid hB
      clear hp hB hq hd
      go_enter Tryz.func23, Tryz.ntmps23
      go_wp2_with fail
      refine (HP.out _).mono ?_
      rintro e w' ⟨rfl, hw'⟩
      obtain rfl := hw'.symm
      go_wp2_with fail
      go_ret2
      exact ⟨ret_tok HB.out rfl rfl, Below.refl _ _⟩
    · rw [decide_eq_false hd] at hp
      rw [if_neg hd] at hB
      have HP := Lib.hid hp
      have HB := Lib.hid hB
      clear hp hB hq hd
      go_enter Tryz.func23, Tryz.ntmps23
      go_wp2_with fail
      refine (HP.out _).mono ?_
      rintro e w' ⟨rfl, hw'⟩
      obtain rfl := hw'.symm
      go_wp2_with fail
      go_ret2
      exact ⟨ret_nil HB.out, Below.refl _ _⟩
  · have HB := Lib.hid (show beginsL s.data.toList = some (.mark [91], 1) by rw [hl]; rfl)
    go_enter Tryz.func23, Tryz.ntmps23
    go_wp2_with fail
    go_ret2
    exact ⟨ret_tok HB.out rfl rfl, Below.refl _ _⟩
  · have HB := Lib.hid (show beginsL s.data.toList = some (.mark [93], 1) by rw [hl]; rfl)
    go_enter Tryz.func23, Tryz.ntmps23
    go_wp2_with fail
    go_ret2
    exact ⟨ret_tok HB.out rfl rfl, Below.refl _ _⟩

set_option maxHeartbeats 8000000 in
theorem begins_blank (s : ByteArray) (c : UInt8) (r : List UInt8) (w : World) (hl : s.data.toList = c :: r) (hs : s.size ≤ 1000000000) (h : c = 32 ∨ c = 10) :
    Calls Tryz.prog 23 #[.string s] w fun e w' => e = .returned (.tuple #[tokVal (beginsL s.data.toList), .int .i64 (tokLen (beginsL s.data.toList))]) ∧ Below w.heap.size w w' := by
  have hsz : 1 ≤ s.size := by rw [Lib.size_eq, hl]; simp
  have hc : ∀ h, s[0]'h = c := fun h => by
    have := Lib.data_getElem? s 0 h
    rw [hl] at this
    simpa using this.symm
  have hm := fun W => among_small [32] (by decide) (by decide) s W hs
  have hle := among_le s.data.toList [32]
  rw [← Lib.size_eq] at hle
  have hB : beginsL s.data.toList = if (s.data.toList.drop (amongL s.data.toList [32])).head? = some 10 then some (.brk (decide (2 ≤ amongL s.data.toList [32])), amongL s.data.toList [32] + behindT (s.data.toList.drop (amongL s.data.toList [32])))
      else some (.word (s.data.toList.take (amongL s.data.toList [32])), amongL s.data.toList [32]) := by
    rw [hl]
    rcases h with rfl | rfl <;> rfl
  obtain ⟨n, hn⟩ : ∃ n, amongL s.data.toList [32] = n := ⟨_, rfl⟩
  rw [hn] at hm hB hle
  have hp := fun W => pre_at 10 (s.extract n s.size) W
  rw [tail_list] at hp
  have HM := Lib.hid hm
  clear hm hn
  by_cases hd : (s.data.toList.drop n).head? = some 10
  · have hlt := head_lt hd
    rw [← Lib.size_eq] at hlt
    rw [decide_eq_true hd] at hp
    rw [if_pos hd] at hB
    have hb := fun W => behind_tok (s.extract n s.size) W (by rw [tail_size]; omega) (by rw [tail_size]; omega)
    rw [tail_list] at hb
    have hbl : behindT (s.data.toList.drop n) ≤ 1000000000 := by
      unfold behindT
      have := among_le ((s.data.toList.drop n).drop 1) [32, 9]
      simp only [List.length_drop] at this
      rw [← Lib.size_eq] at this
      omega
    obtain ⟨k, hk⟩ : ∃ k, behindT (s.data.toList.drop n) = k := ⟨_, rfl⟩
    rw [hk] at hb hB hbl
    have HP := Lib.hid hp
    have HB := Lib.hid hB
    have HBB := Lib.hid hb
    clear hp hB hb hk hd hl
    rcases h with rfl | rfl
    all_goals
      go_enter Tryz.func23, Tryz.ntmps23
      go_wp2_with fail
      refine (HM.out _).mono ?_
      rintro e w2 ⟨rfl, b2⟩
      go_wp2_with fail
      refine (HP.out _).mono ?_
      rintro e w' ⟨rfl, hw'⟩
      obtain rfl := hw'.symm
      go_wp2_with fail
      refine (HBB.out _).mono ?_
      rintro e w3 ⟨rfl, b3⟩
      have B3 := below_step b2 b3
      go_wp2_with fail
      go_ret2
      exact ⟨ret_brk HB.out (by rw [decide_eq_decide]; omega) (by omega), B3⟩
  · rw [decide_eq_false hd] at hp
    rw [if_neg hd] at hB
    have HP := Lib.hid hp
    have HB := Lib.hid hB
    clear hp hB hd hl
    rcases h with rfl | rfl
    all_goals
      go_enter Tryz.func23, Tryz.ntmps23
      go_wp2_with fail
      refine (HM.out _).mono ?_
      rintro e w2 ⟨rfl, b2⟩
      go_wp2_with fail
      refine (HP.out _).mono ?_
      rintro e w' ⟨rfl, hw'⟩
      obtain rfl := hw'.symm
      go_wp2_with fail
      go_ret2
      exact ⟨ret_word HB.out (by rw [Lib.extract_data]; simp) rfl, b2⟩

/-- The bytes with which a token of its own may begin. -/
def headBytes : List UInt8 := [0, 92, 38, 96, 60, 42, 95, 33, 91, 93, 32, 10]

set_option maxHeartbeats 8000000 in
theorem begins_other (s : ByteArray) (c : UInt8) (r : List UInt8) (w : World) (hl : s.data.toList = c :: r) (h : headBytes.contains c = false) :
    Calls Tryz.prog 23 #[.string s] w fun e w' => e = .returned (.tuple #[tokVal (beginsL s.data.toList), .int .i64 (tokLen (beginsL s.data.toList))]) ∧ Below w.heap.size w w' := by
  have hsz : 1 ≤ s.size := by rw [Lib.size_eq, hl]; simp
  have hc : ∀ h, s[0]'h = c := fun h => by
    have := Lib.data_getElem? s 0 h
    rw [hl] at this
    simpa using this.symm
  have ne : ∀ k : UInt8, headBytes.contains k = true → ((c.toNat : Int) == (k.toNat : Int)) = false := fun k hk => by
    rw [beq_eq_false_iff_ne]
    intro e
    have : c = k := by have h1 : c.toNat = k.toNat := by omega
                       rw [← UInt8.ofNat_toNat (x := c), h1, UInt8.ofNat_toNat]
    rw [this, hk] at h
    cases h
  have HB := Lib.hid (show beginsL s.data.toList = none by
    have n : ∀ k : UInt8, headBytes.contains k = true → c ≠ k := fun k hk e => by rw [e, hk] at h; cases h
    rw [hl, beginsL, if_neg (n 0 rfl), if_neg (n 92 rfl), if_neg (n 38 rfl), if_neg (n 96 rfl), if_neg (n 60 rfl), if_neg (by rintro (e | e); exact n 42 rfl e; exact n 95 rfl e), if_neg (n 33 rfl), if_neg (by rintro (e | e); exact n 91 rfl e; exact n 93 rfl e), if_neg (by rintro (e | e); exact n 32 rfl e; exact n 10 rfl e)])
  have n0 : ((c.toNat : Int) == 0) = false := ne 0 rfl
  have n1 : ((c.toNat : Int) == 92) = false := ne 92 rfl
  have n2 : ((c.toNat : Int) == 38) = false := ne 38 rfl
  have n3 : ((c.toNat : Int) == 96) = false := ne 96 rfl
  have n4 : ((c.toNat : Int) == 60) = false := ne 60 rfl
  have n5 : ((c.toNat : Int) == 42) = false := ne 42 rfl
  have n6 : ((c.toNat : Int) == 95) = false := ne 95 rfl
  have n7 : ((c.toNat : Int) == 33) = false := ne 33 rfl
  have n8 : ((c.toNat : Int) == 91) = false := ne 91 rfl
  have n9 : ((c.toNat : Int) == 93) = false := ne 93 rfl
  have n10 : ((c.toNat : Int) == 32) = false := ne 32 rfl
  have n11 : ((c.toNat : Int) == 10) = false := ne 10 rfl
  clear ne h hl
  go_enter Tryz.func23, Tryz.ntmps23
  go_wp2_with fail
  go_ret2
  exact ⟨ret_nil HB.out, Below.refl _ _⟩

/-- THE TOKEN WITH WHICH A TEXT BEGINS. -/
theorem begins_tok (s : ByteArray) (w : World) (hE : Env w) (h0 : 1 ≤ s.size) (hs : s.size ≤ 1000000000) :
    Calls Tryz.prog 23 #[.string s] w fun e w' => e = .returned (.tuple #[tokVal (beginsL s.data.toList), .int .i64 (tokLen (beginsL s.data.toList))]) ∧ Below w.heap.size w w' := by
  obtain ⟨c, r, hl⟩ : ∃ c r, s.data.toList = c :: r := by
    cases h : s.data.toList with
    | nil => rw [Lib.size_eq, h] at h0; simp at h0
    | cons c r => exact ⟨c, r, rfl⟩
  cases h : headBytes.contains c with
  | false => exact begins_other s c r w hl h
  | true =>
    have hm : c = 0 ∨ c = 92 ∨ c = 38 ∨ c = 96 ∨ c = 60 ∨ c = 42 ∨ c = 95 ∨ c = 33 ∨ c = 91 ∨ c = 93 ∨ c = 32 ∨ c = 10 := by
      simpa [headBytes] using h
    rcases hm with h | h | h | h | h | h | h | h | h | h | h | h
    · exact begins_sub s c r w hE hl hs (Or.inl h)
    · exact begins_sub s c r w hE hl hs (Or.inr (Or.inl h))
    · subst h; exact begins_amp s r w hE hl hs
    · exact begins_sub s c r w hE hl hs (Or.inr (Or.inr (Or.inl h)))
    · exact begins_sub s c r w hE hl hs (Or.inr (Or.inr (Or.inr h)))
    · exact begins_run s c r w hl hs (Or.inl h)
    · exact begins_run s c r w hl hs (Or.inr h)
    · exact begins_mark s c r w hl hs (Or.inl h)
    · exact begins_mark s c r w hl hs (Or.inr (Or.inl h))
    · exact begins_mark s c r w hl hs (Or.inr (Or.inr h))
    · exact begins_blank s c r w hl hs (Or.inl h)
    · exact begins_blank s c r w hl hs (Or.inr h)

end Go.Proofs.YtahljcbmckldhaaGreatDoor

/-
  token.Next: the token at a place.
-/
namespace Go.Proofs.YtahljcbmckldhaaGreatDoor
open Go.RowKit
set_option maxRecDepth 100000
set_option linter.unusedVariables false
set_option linter.unusedSimpArgs false

theorem ret_next {r : Tok × Nat} {t : Tok} {m i : Nat} {v : Value} {n : Int} (h : r = (t, m)) (hv : v = t.val) (hn : n = ((i + m : Nat) : Int)) : Ending.returned (.tuple #[v, .int .i64 n]) = .returned (.tuple #[r.1.val, .int .i64 ((i + r.2 : Nat) : Int)]) := by
  rw [h, hv, hn]
theorem ret_nextw {r : Tok × Nat} {l : List UInt8} {X : ByteArray} {m i : Nat} {n : Int} (h : r = (.word l, m)) (hX : X.data.toList = l) (hn : n = ((i + m : Nat) : Int)) : Ending.returned (.tuple #[.iface 68 (.string X), .int .i64 n]) = .returned (.tuple #[r.1.val, .int .i64 ((i + r.2 : Nat) : Int)]) := by
  refine ret_next h ?_ hn
  rw [ba_of hX]; rfl

set_option maxHeartbeats 2000000 in
/-- THE TOKEN AT A PLACE, and where the next one begins. -/
theorem next_tok (s : ByteArray) (i : Nat) (w : World) (hE : Env w) (hi : i < s.size) (hs : s.size ≤ 1000000) :
    Calls Tryz.prog 18 #[.string s, .int .i64 i] w fun e w' => e = .returned (.tuple #[(nextL (s.data.toList.drop i)).1.val, .int .i64 ((i + (nextL (s.data.toList.drop i)).2 : Nat) : Int)]) ∧ Below w.heap.size w w' := by
  have hi' : (i : Int) < (s.size : Int) := by omega
  have hi2 : ¬ (s.size : Int) ≤ (i : Int) := by omega
  obtain ⟨S, hS⟩ : ∃ S, s.extract i s.size = S := ⟨_, rfl⟩
  have hSl : S.data.toList = s.data.toList.drop i := by rw [← hS, tail_list]
  have hSz : S.size = s.size - i := by rw [← hS, tail_size]
  have hS1 : 1 ≤ S.size := by omega
  have hS2 : S.size + i ≤ s.size := by omega
  have hS3 : s.size ≤ S.size + i := by omega
  clear hSz
  have hb := fun W hW => begins_tok S W hW (by omega) (by omega)
  rw [hSl] at hb
  have hN : nextL (s.data.toList.drop i) = match beginsL (s.data.toList.drop i) with
    | some r => r
    | none => (.word ((s.data.toList.drop i).take (plainTo (s.data.toList.drop i))), plainTo (s.data.toList.drop i)) := rfl
  cases hbo : beginsL (s.data.toList.drop i) with
  | none =>
    rw [hbo] at hb hN
    simp only at hN
    simp only [tokVal, tokLen] at hb
    have hx := fun W => indexAny_any (S.extract 1 S.size) W (by rw [tail_size]; omega)
    rw [tail_list, hSl] at hx
    have hlt := indexAny_lt specialL ((s.data.toList.drop i).drop 1)
    have hP : plainTo (s.data.toList.drop i) = if 0 ≤ Lib.indexAny ((s.data.toList.drop i).drop 1) specialL then 1 + (Lib.indexAny ((s.data.toList.drop i).drop 1) specialL).toNat else (s.data.toList.drop i).length := rfl
    obtain ⟨k, hk⟩ : ∃ k, Lib.indexAny ((s.data.toList.drop i).drop 1) specialL = k := ⟨_, rfl⟩
    rw [hk] at hx hlt hP
    rw [← hSl, ← Lib.size_eq] at hP
    have HB := Lib.hid hb
    have HX := Lib.hid hx
    have HE := Lib.hid hE
    have HSL := Lib.hid hSl
    clear hb hx hE hk hbo
    by_cases hk0 : 0 ≤ k
    · rw [if_pos hk0] at hP
      obtain ⟨K, rfl⟩ : ∃ K : Nat, k = K := ⟨k.toNat, by omega⟩
      have hlt := hlt hk0
      rw [List.length_drop, ← hSl, ← Lib.size_eq, Int.toNat_natCast] at hlt
      rw [Int.toNat_natCast, hSl] at hP
      rw [hP] at hN
      have HN := Lib.hid hN
      have hK1 : (1 : Int) + (K : Int) ≤ (S.size : Int) := by omega
      clear hN hP hSl
      go_enter Tryz.func18, Tryz.ntmps18
      go_wp2_with fail
      refine (HB.out _ HE.out).mono ?_
      rintro e w2 ⟨rfl, b2⟩
      go_wp2_with fail
      refine (HX.out _).mono ?_
      rintro e w3 ⟨rfl, b3⟩
      have B3 := below_step b2 b3
      go_wp2_with fail
      go_ret2
      exact ⟨ret_nextw HN.out (by rw [Lib.extract_data, HSL.out]; simp) (by omega), B3⟩
    · rw [if_neg hk0, hSl] at hP
      rw [hP, ← hSl] at hN
      have HN := Lib.hid hN
      clear hN hP hSl hlt
      go_enter Tryz.func18, Tryz.ntmps18
      go_wp2_with fail
      refine (HB.out _ HE.out).mono ?_
      rintro e w2 ⟨rfl, b2⟩
      go_wp2_with fail
      refine (HX.out _).mono ?_
      rintro e w3 ⟨rfl, b3⟩
      have B3 := below_step b2 b3
      go_wp2_with fail
      go_ret2
      exact ⟨ret_nextw (l := S.data.toList.take S.size) (m := S.size) (X := S) (by rw [← HSL.out]; exact HN.out) (take_all S).symm (by omega), B3⟩
  | some r =>
    obtain ⟨t, n⟩ := r
    rw [hbo] at hb hN
    simp only at hN
    simp only [tokVal, tokLen] at hb
    obtain ⟨hpos, hsafe⟩ := begins_le hbo
    rw [List.length_drop, ← Lib.size_eq] at hsafe
    have HB := Lib.hid hb
    have HN := Lib.hid hN
    have HE := Lib.hid hE
    have hn0 : (0 : Int) < (n : Int) := by omega
    clear hb hN hE hbo hSl
    go_enter Tryz.func18, Tryz.ntmps18
    go_wp2_with fail
    refine (HB.out _ HE.out).mono ?_
    rintro e w2 ⟨rfl, b2⟩
    go_wp2_with fail
    go_ret2
    exact ⟨ret_next HN.out rfl (by omega), b2⟩

end Go.Proofs.YtahljcbmckldhaaGreatDoor

/-
  token: asking a token for its kind.
-/
namespace Go.Proofs.YtahljcbmckldhaaGreatDoor
open Go.RowKit
set_option maxRecDepth 100000

theorem tb_Word_Word (v : Value) (W : World) : (Instr.typeAssert (.iface 68 v) 20 68 true).run Tryz.prog W = .ok (.tuple #[v, .bool true]) W := by kernel_rfl
theorem tb_Word_Atom (v : Value) (W : World) : (Instr.typeAssert (.iface 68 v) 20 86 true).run Tryz.prog W = .ok (.tuple #[.agg #[.int .i64 0], .bool false]) W := by kernel_rfl
theorem tb_Code_Word (v : Value) (W : World) : (Instr.typeAssert (.iface 73 v) 20 68 true).run Tryz.prog W = .ok (.tuple #[.string ⟨#[]⟩, .bool false]) W := by kernel_rfl
theorem tb_Code_Code (v : Value) (W : World) : (Instr.typeAssert (.iface 73 v) 20 73 true).run Tryz.prog W = .ok (.tuple #[v, .bool true]) W := by kernel_rfl
theorem tb_Tag_Word (v : Value) (W : World) : (Instr.typeAssert (.iface 76 v) 20 68 true).run Tryz.prog W = .ok (.tuple #[.string ⟨#[]⟩, .bool false]) W := by kernel_rfl
theorem tb_Tag_Code (v : Value) (W : World) : (Instr.typeAssert (.iface 76 v) 20 73 true).run Tryz.prog W = .ok (.tuple #[.string ⟨#[]⟩, .bool false]) W := by kernel_rfl
theorem tb_Tag_Tag (v : Value) (W : World) : (Instr.typeAssert (.iface 76 v) 20 76 true).run Tryz.prog W = .ok (.tuple #[v, .bool true]) W := by kernel_rfl
theorem tb_Auto_Word (v : Value) (W : World) : (Instr.typeAssert (.iface 79 v) 20 68 true).run Tryz.prog W = .ok (.tuple #[.string ⟨#[]⟩, .bool false]) W := by kernel_rfl
theorem tb_Auto_Code (v : Value) (W : World) : (Instr.typeAssert (.iface 79 v) 20 73 true).run Tryz.prog W = .ok (.tuple #[.string ⟨#[]⟩, .bool false]) W := by kernel_rfl
theorem tb_Auto_Tag (v : Value) (W : World) : (Instr.typeAssert (.iface 79 v) 20 76 true).run Tryz.prog W = .ok (.tuple #[.string ⟨#[]⟩, .bool false]) W := by kernel_rfl
theorem tb_Auto_Auto (v : Value) (W : World) : (Instr.typeAssert (.iface 79 v) 20 79 true).run Tryz.prog W = .ok (.tuple #[v, .bool true]) W := by kernel_rfl
theorem tb_Break_Word (v : Value) (W : World) : (Instr.typeAssert (.iface 83 v) 20 68 true).run Tryz.prog W = .ok (.tuple #[.string ⟨#[]⟩, .bool false]) W := by kernel_rfl
theorem tb_Break_Code (v : Value) (W : World) : (Instr.typeAssert (.iface 83 v) 20 73 true).run Tryz.prog W = .ok (.tuple #[.string ⟨#[]⟩, .bool false]) W := by kernel_rfl
theorem tb_Break_Tag (v : Value) (W : World) : (Instr.typeAssert (.iface 83 v) 20 76 true).run Tryz.prog W = .ok (.tuple #[.string ⟨#[]⟩, .bool false]) W := by kernel_rfl
theorem tb_Break_Auto (v : Value) (W : World) : (Instr.typeAssert (.iface 83 v) 20 79 true).run Tryz.prog W = .ok (.tuple #[.agg #[.string ⟨#[]⟩, .string ⟨#[]⟩], .bool false]) W := by kernel_rfl
theorem tb_Break_Break (v : Value) (W : World) : (Instr.typeAssert (.iface 83 v) 20 83 true).run Tryz.prog W = .ok (.tuple #[v, .bool true]) W := by kernel_rfl
theorem tb_Atom_Word (v : Value) (W : World) : (Instr.typeAssert (.iface 86 v) 20 68 true).run Tryz.prog W = .ok (.tuple #[.string ⟨#[]⟩, .bool false]) W := by kernel_rfl
theorem tb_Atom_Code (v : Value) (W : World) : (Instr.typeAssert (.iface 86 v) 20 73 true).run Tryz.prog W = .ok (.tuple #[.string ⟨#[]⟩, .bool false]) W := by kernel_rfl
theorem tb_Atom_Tag (v : Value) (W : World) : (Instr.typeAssert (.iface 86 v) 20 76 true).run Tryz.prog W = .ok (.tuple #[.string ⟨#[]⟩, .bool false]) W := by kernel_rfl
theorem tb_Atom_Auto (v : Value) (W : World) : (Instr.typeAssert (.iface 86 v) 20 79 true).run Tryz.prog W = .ok (.tuple #[.agg #[.string ⟨#[]⟩, .string ⟨#[]⟩], .bool false]) W := by kernel_rfl
theorem tb_Atom_Break (v : Value) (W : World) : (Instr.typeAssert (.iface 86 v) 20 83 true).run Tryz.prog W = .ok (.tuple #[.agg #[.bool false], .bool false]) W := by kernel_rfl
theorem tb_Atom_Atom (v : Value) (W : World) : (Instr.typeAssert (.iface 86 v) 20 86 true).run Tryz.prog W = .ok (.tuple #[v, .bool true]) W := by kernel_rfl
theorem tb_Atom_Run (v : Value) (W : World) : (Instr.typeAssert (.iface 86 v) 20 89 true).run Tryz.prog W = .ok (.tuple #[.agg #[.int .u8 0, .int .i64 0], .bool false]) W := by kernel_rfl
theorem tb_Atom_Mark (v : Value) (W : World) : (Instr.typeAssert (.iface 86 v) 20 97 true).run Tryz.prog W = .ok (.tuple #[.agg #[.string ⟨#[]⟩], .bool false]) W := by kernel_rfl
theorem tb_Run_Word (v : Value) (W : World) : (Instr.typeAssert (.iface 89 v) 20 68 true).run Tryz.prog W = .ok (.tuple #[.string ⟨#[]⟩, .bool false]) W := by kernel_rfl
theorem tb_Run_Code (v : Value) (W : World) : (Instr.typeAssert (.iface 89 v) 20 73 true).run Tryz.prog W = .ok (.tuple #[.string ⟨#[]⟩, .bool false]) W := by kernel_rfl
theorem tb_Run_Tag (v : Value) (W : World) : (Instr.typeAssert (.iface 89 v) 20 76 true).run Tryz.prog W = .ok (.tuple #[.string ⟨#[]⟩, .bool false]) W := by kernel_rfl
theorem tb_Run_Auto (v : Value) (W : World) : (Instr.typeAssert (.iface 89 v) 20 79 true).run Tryz.prog W = .ok (.tuple #[.agg #[.string ⟨#[]⟩, .string ⟨#[]⟩], .bool false]) W := by kernel_rfl
theorem tb_Run_Break (v : Value) (W : World) : (Instr.typeAssert (.iface 89 v) 20 83 true).run Tryz.prog W = .ok (.tuple #[.agg #[.bool false], .bool false]) W := by kernel_rfl
theorem tb_Run_Atom (v : Value) (W : World) : (Instr.typeAssert (.iface 89 v) 20 86 true).run Tryz.prog W = .ok (.tuple #[.agg #[.int .i64 0], .bool false]) W := by kernel_rfl
theorem tb_Run_Run (v : Value) (W : World) : (Instr.typeAssert (.iface 89 v) 20 89 true).run Tryz.prog W = .ok (.tuple #[v, .bool true]) W := by kernel_rfl
theorem tb_Mark_Word (v : Value) (W : World) : (Instr.typeAssert (.iface 97 v) 20 68 true).run Tryz.prog W = .ok (.tuple #[.string ⟨#[]⟩, .bool false]) W := by kernel_rfl
theorem tb_Mark_Code (v : Value) (W : World) : (Instr.typeAssert (.iface 97 v) 20 73 true).run Tryz.prog W = .ok (.tuple #[.string ⟨#[]⟩, .bool false]) W := by kernel_rfl
theorem tb_Mark_Tag (v : Value) (W : World) : (Instr.typeAssert (.iface 97 v) 20 76 true).run Tryz.prog W = .ok (.tuple #[.string ⟨#[]⟩, .bool false]) W := by kernel_rfl
theorem tb_Mark_Auto (v : Value) (W : World) : (Instr.typeAssert (.iface 97 v) 20 79 true).run Tryz.prog W = .ok (.tuple #[.agg #[.string ⟨#[]⟩, .string ⟨#[]⟩], .bool false]) W := by kernel_rfl
theorem tb_Mark_Break (v : Value) (W : World) : (Instr.typeAssert (.iface 97 v) 20 83 true).run Tryz.prog W = .ok (.tuple #[.agg #[.bool false], .bool false]) W := by kernel_rfl
theorem tb_Mark_Atom (v : Value) (W : World) : (Instr.typeAssert (.iface 97 v) 20 86 true).run Tryz.prog W = .ok (.tuple #[.agg #[.int .i64 0], .bool false]) W := by kernel_rfl
theorem tb_Mark_Run (v : Value) (W : World) : (Instr.typeAssert (.iface 97 v) 20 89 true).run Tryz.prog W = .ok (.tuple #[.agg #[.int .u8 0, .int .i64 0], .bool false]) W := by kernel_rfl
theorem tb_Mark_Mark (v : Value) (W : World) : (Instr.typeAssert (.iface 97 v) 20 97 true).run Tryz.prog W = .ok (.tuple #[v, .bool true]) W := by kernel_rfl

end Go.Proofs.YtahljcbmckldhaaGreatDoor

/-
  emph.Text: the text of nodes.
-/
namespace Go.Proofs.YtahljcbmckldhaaGreatDoor
open Go.RowKit
set_option maxRecDepth 100000
set_option linter.unusedVariables false
set_option linter.unusedSimpArgs false

theorem textL_snoc (l : List Inl) (x : Inl) : textL (l ++ [x]) = textL l ++ textOf x := by unfold textL; simp
theorem textOf_len (x : Inl) : (textOf x).length ≤ x.text.length + 1 := by
  unfold textOf
  split
  · omega
  · split <;> simp
theorem textL_len (l : List Inl) : (textL l).length ≤ textSum l + l.length := by
  induction l with
  | nil => simp [textL]
  | cons x l ih =>
    rw [show x :: l = [x] ++ l from rfl, textSum_append, textSum_one]
    have h := textOf_len x
    unfold textL at ih ⊢
    simp only [List.flatMap_append, List.flatMap_cons, List.flatMap_nil, List.append_nil, List.length_append, List.length_cons, List.length_nil]
    omega


set_option maxHeartbeats 4000000 in
theorem text_any (ao : Option Addr) (cap : Nat) (l : List Inl) (w : World) (hR : RowR w 5 ao l.length (inlCells l)) (hn : l.length ≤ 1000000000000) (hts : textSum l ≤ 10000000000000) :
    Calls Tryz.prog 12 #[.slice ao l.length cap] w fun e w' => e = .returned (.string ⟨(textL l).toArray⟩) ∧ Below w.heap.size w w' := by
  have HR := Lib.hid hR
  have HT := Lib.hid hts
  clear hR hts
  go_enter Tryz.func12, Tryz.ntmps12
  go_wp2_with fail
  go_loopw [8] (fun u8 wr => ∃ k : Nat, k ≤ l.length ∧ u8 = .int .i64 k ∧ Lib.IsBuilderF 46 5 w.heap.size w.heap.size (Lib.byteCells (textL (l.take k))) wr ∧ Below w.heap.size w wr) (fun u8 _ => l.length - (intOf u8).toNat)
  case atStart => exact ⟨0, Nat.zero_le _, rfl, Lib.IsBuilderF.of (Lib.fresh_isBuilder 46 5 w), (Below.refl _ _).alloc (Nat.le_refl _) _⟩
  case round =>
    obtain ⟨k, hk, rfl, hI, hB⟩ := hrel
    by_cases hlt : k < l.length
    · obtain ⟨x, hx⟩ := getElem?_ex l k hlt
      obtain ⟨g, o, rfl⟩ := HR.out.addr (by omega)
      obtain ⟨c0, c1, c2, c3, c4⟩ := (HR.out.below hB).inl k x hx
      have hxs := textSum_mem (List.mem_of_getElem? hx)
      have HTK := Lib.hid (take_snoc l k x hx)
      have hacc : (textL (l.take k)).length ≤ 11000000000000 := by
        have h1 := textL_len (l.take k)
        have h2 := textSum_append (l.take k) (l.drop k)
        rw [List.take_append_drop] at h2
        have h3 := HT.out
        have h4 : (l.take k).length ≤ l.length := by simp; omega
        omega
      have hxz : x.text.length ≤ 10000000000000 := by have := HT.out; omega
      have hb1 := (Below.refl wr.heap.size wr).alloc (Nat.le_refl _) (.cells #[.int .i64 (x.kind : Int), .int .i64 (x.depth : Int), .string ⟨x.text.toArray⟩, .string ⟨x.url.toArray⟩, .string ⟨x.title.toArray⟩] 28)
      have hI1 := bld_below hI hb1
      have hB1 := below_step hB hb1
      clear hx hxs hb1 hI hB
      by_cases e1 : x.kind = 1
      · have k1 : ((x.kind : Int) == 1) = true := by simp; omega
        have hto : textOf x = x.text := by unfold textOf; rw [if_pos (by omega)]
        have HA0 := Lib.hid (show textL (l.take (k + 1)) = textL (l.take k) ++ x.text by rw [HTK.out, textL_snoc, hto])
        clear hto e1
        go_wp2_with fail
        refine (bld_string w.heap.size w.heap.size _ ⟨x.text.toArray⟩ _ hI1 (by rw [Lib.byteCells_length, Lib.size_eq]; simp only; omega) hB1.size).mono ?_
        rintro e w3 ⟨rfl, h3, hb3, k3⟩
        have hB3 := hB1.trans hb3
        have HA := Lib.hid (show Lib.IsBuilderF 46 5 w.heap.size w.heap.size (Lib.byteCells (textL (l.take (k + 1)))) w3 by rw [HA0.out, Lib.byteCells_append]; exact Or.inr h3)
        go_wp2_with fail
        go_roundw
        case rel => exact ⟨k + 1, by omega, by go_num, HA.out, hB3⟩
        case measure => simp [intOf]; omega
      · have k1 : ((x.kind : Int) == 1) = false := by simp; omega
        by_cases e2 : x.kind = 2
        · have k2 : ((x.kind : Int) == 2) = true := by simp; omega
          have hto : textOf x = x.text := by unfold textOf; rw [if_pos (by omega)]
          have HA0 := Lib.hid (show textL (l.take (k + 1)) = textL (l.take k) ++ x.text by rw [HTK.out, textL_snoc, hto])
          clear hto e1 e2
          go_wp2_with fail
          refine (bld_string w.heap.size w.heap.size _ ⟨x.text.toArray⟩ _ hI1 (by rw [Lib.byteCells_length, Lib.size_eq]; simp only; omega) hB1.size).mono ?_
          rintro e w3 ⟨rfl, h3, hb3, k3⟩
          have hB3 := hB1.trans hb3
          have HA := Lib.hid (show Lib.IsBuilderF 46 5 w.heap.size w.heap.size (Lib.byteCells (textL (l.take (k + 1)))) w3 by rw [HA0.out, Lib.byteCells_append]; exact Or.inr h3)
          go_wp2_with fail
          go_roundw
          case rel => exact ⟨k + 1, by omega, by go_num, HA.out, hB3⟩
          case measure => simp [intOf]; omega
        · have k2 : ((x.kind : Int) == 2) = false := by simp; omega
          by_cases e6 : x.kind = 6
          · have k6 : ((x.kind : Int) == 6) = true := by simp; omega
            have hto : textOf x = x.text := by unfold textOf; rw [if_pos (by omega)]
            have HA0 := Lib.hid (show textL (l.take (k + 1)) = textL (l.take k) ++ x.text by rw [HTK.out, textL_snoc, hto])
            clear hto e1 e2 e6
            go_wp2_with fail
            refine (bld_string w.heap.size w.heap.size _ ⟨x.text.toArray⟩ _ hI1 (by rw [Lib.byteCells_length, Lib.size_eq]; simp only; omega) hB1.size).mono ?_
            rintro e w3 ⟨rfl, h3, hb3, k3⟩
            have hB3 := hB1.trans hb3
            have HA := Lib.hid (show Lib.IsBuilderF 46 5 w.heap.size w.heap.size (Lib.byteCells (textL (l.take (k + 1)))) w3 by rw [HA0.out, Lib.byteCells_append]; exact Or.inr h3)
            go_wp2_with fail
            go_roundw
            case rel => exact ⟨k + 1, by omega, by go_num, HA.out, hB3⟩
            case measure => simp [intOf]; omega
          · have k6 : ((x.kind : Int) == 6) = false := by simp; omega
            by_cases e7 : x.kind = 7
            · have k7 : ((x.kind : Int) == 7) = true := by simp; omega
              have hto : textOf x = [32] := by unfold textOf; rw [if_neg (by omega), if_pos (by omega)]
              have HA0 := Lib.hid (show textL (l.take (k + 1)) = textL (l.take k) ++ [32] by rw [HTK.out, textL_snoc, hto])
              clear hto e1 e2 e6 e7
              go_wp2_with fail
              refine (bld_byte w.heap.size w.heap.size _ 32 _ hI1 (by rw [Lib.byteCells_length]; omega) hB1.size).mono ?_
              rintro e w3 ⟨rfl, h3, hb3, k3⟩
              have hB3 := hB1.trans hb3
              have HA := Lib.hid (show Lib.IsBuilderF 46 5 w.heap.size w.heap.size (Lib.byteCells (textL (l.take (k + 1)))) w3 by rw [HA0.out, Lib.byteCells_append]; exact Or.inr h3)
              go_wp2_with fail
              go_roundw
              case rel => exact ⟨k + 1, by omega, by go_num, HA.out, hB3⟩
              case measure => simp [intOf]; omega
            · have k7 : ((x.kind : Int) == 7) = false := by simp; omega
              by_cases e8 : x.kind = 8
              · have k8 : ((x.kind : Int) == 8) = true := by simp; omega
                have hto : textOf x = [32] := by unfold textOf; rw [if_neg (by omega), if_pos (by omega)]
                have HA0 := Lib.hid (show textL (l.take (k + 1)) = textL (l.take k) ++ [32] by rw [HTK.out, textL_snoc, hto])
                clear hto e1 e2 e6 e7 e8
                go_wp2_with fail
                refine (bld_byte w.heap.size w.heap.size _ 32 _ hI1 (by rw [Lib.byteCells_length]; omega) hB1.size).mono ?_
                rintro e w3 ⟨rfl, h3, hb3, k3⟩
                have hB3 := hB1.trans hb3
                have HA := Lib.hid (show Lib.IsBuilderF 46 5 w.heap.size w.heap.size (Lib.byteCells (textL (l.take (k + 1)))) w3 by rw [HA0.out, Lib.byteCells_append]; exact Or.inr h3)
                go_wp2_with fail
                go_roundw
                case rel => exact ⟨k + 1, by omega, by go_num, HA.out, hB3⟩
                case measure => simp [intOf]; omega
              · have k8 : ((x.kind : Int) == 8) = false := by simp; omega
                have hto : textOf x = [] := by unfold textOf; rw [if_neg (by omega), if_neg (by omega)]
                have HA := Lib.hid (show Lib.IsBuilderF 46 5 w.heap.size w.heap.size (Lib.byteCells (textL (l.take (k + 1)))) (wr.alloc (.cells #[.int .i64 (x.kind : Int), .int .i64 (x.depth : Int), .string ⟨x.text.toArray⟩, .string ⟨x.url.toArray⟩, .string ⟨x.title.toArray⟩] 28)) by rw [HTK.out, textL_snoc, hto, List.append_nil]; exact hI1)
                have hB3 := hB1
                clear hto e1 e2 e6 e7 e8
                go_wp2_with fail
                go_roundw
                case rel => exact ⟨k + 1, by omega, by go_num, HA.out, hB3⟩
                case measure => simp [intOf]; omega
    · obtain rfl : k = l.length := by omega
      rw [List.take_length] at hI
      have HI := Lib.hid hI
      clear hI
      go_wp2_with fail
      refine (Tryz.Builder_String_any_k w.heap.size w.heap.size _ wr HI.out hB.size).mono ?_
      rintro e w2 ⟨rfl, _, hb2, _⟩
      go_wp2_with fail
      go_ret
      exact ⟨rfl, hB.trans hb2⟩

end Go.Proofs.YtahljcbmckldhaaGreatDoor

/-
  inline.Restore: a text in which the bytes of atoms are their texts.
-/
namespace Go.Proofs.YtahljcbmckldhaaGreatDoor
open Go.RowKit
set_option maxRecDepth 100000
set_option linter.unusedVariables false
set_option linter.unusedSimpArgs false

def atomCells (x : AtomT) : List Value := [.string ⟨x.label.toArray⟩, .string ⟨x.text.toArray⟩]
theorem atom_len (x : AtomT) : (atomCells x).length = 2 := rfl
theorem RowR.atm {w : World} {g o n : Nat} {l : List AtomT} (h : RowR w 2 (some ⟨g, o, none⟩) n (l.flatMap atomCells)) (k : Nat) (x : AtomT) (hk : l[k]? = some x) :
    w.cell? ⟨g, o + k * 2, none⟩ = some (.string ⟨x.label.toArray⟩) ∧ w.cell? ⟨g, o + k * 2 + 1, none⟩ = some (.string ⟨x.text.toArray⟩) :=
  ⟨h.cell atom_len k 0 x _ hk (by omega) rfl, h.cell atom_len k 1 x _ hk (by omega) rfl⟩

set_option maxHeartbeats 4000000 in
theorem restore_any (s : ByteArray) (ao : Option Addr) (cap : Nat) (ts : List AtomT) (w : World) (hE : Env w) (hR : 0 < ts.length → RowR w 2 ao ts.length (ts.flatMap atomCells)) (hs : s.size ≤ 1000000) (hT : ∀ a ∈ ts, a.text.length ≤ 1000000) :
    Calls Tryz.prog 27 #[.string s, .slice ao ts.length cap] w fun e w' => e = .returned (.string ⟨(restoreL s.data.toList ts).toArray⟩) ∧ Below w.heap.size w w' := by
  have HR := Lib.hid hR
  have HE := Lib.hid hE
  have HT := Lib.hid hT
  obtain ⟨R, hRR⟩ : ∃ R, restoreL s.data.toList ts = R := ⟨_, rfl⟩
  have hRl : R.length ≤ 1000001000000 := by
    have h := restore_len 1000000 ts hT (s.data.toList.length + 1) s.data.toList
    rw [← hRR]
    have h2 := Nat.mul_le_mul_right (1000000 + 1) (show s.data.toList.length ≤ 1000000 by rw [← Lib.size_eq]; exact hs)
    unfold restoreL
    omega
  rw [hRR]
  have HRR := Lib.hid hRR
  clear hR hE hT hRR
  go_enter Tryz.func27, Tryz.ntmps27
  go_wp2_with fail
  go_loopw [6] (fun u6 wr => ∃ (i : Nat) (acc : List UInt8), i ≤ s.size ∧ u6 = .int .i64 i ∧ Lib.IsBuilderF 46 5 w.heap.size w.heap.size (Lib.byteCells acc) wr ∧ Below w.heap.size w wr ∧ acc ++ restoreL (s.data.toList.drop i) ts = R) (fun u6 _ => s.size - (intOf u6).toNat)
  case atStart => exact ⟨0, [], Nat.zero_le _, rfl, Lib.IsBuilderF.of (Lib.fresh_isBuilder 46 5 w), (Below.refl _ _).alloc (Nat.le_refl _) _, by rw [List.drop_zero, List.nil_append]; exact HRR.out⟩
  case round =>
    obtain ⟨i, acc, hi, rfl, hI, hB, hacc⟩ := hrel
    have hal : acc.length ≤ 1000001000000 := by
      rw [← hacc, List.length_append] at hRl; omega
    by_cases hlt : i < s.size
    · have hg := Lib.data_getElem? s i hlt
      obtain ⟨c, hc⟩ : ∃ c, s[i] = c := ⟨_, rfl⟩
      rw [hc] at hg
      have hdr : s.data.toList.drop i = c :: s.data.toList.drop (i + 1) := by
        obtain ⟨h1, h2⟩ := List.getElem?_eq_some_iff.1 hg
        rw [← h2, List.getElem_cons_drop]
      clear hg
      by_cases h0 : c = 0
      · have k0 : ((c.toNat : Int) == 0) = true := by rw [h0]; rfl
        have hnt := next_tok s i wr (HE.out.below hB) hlt hs
        have hdl : (s.data.toList.drop i).length = s.size - i := by rw [List.length_drop, ← Lib.size_eq]
        rw [hdr, h0] at hnt hacc hdl
        rcases next_zero (s.data.toList.drop (i + 1)) with ⟨n, m, hn, hm0, hml⟩ | ⟨x, m, hn⟩
        · rw [hn] at hnt
          rw [restore_atom hn, ← h0, ← hdr, List.drop_drop] at hacc
          simp only [Tok.val] at hnt
          have him : i + m ≤ s.size := by omega
          have HNT := Lib.hid hnt
          have HACC := Lib.hid hacc
          have q := tb_Atom_Atom
          clear hnt hacc hn hdr h0 hdl hml
          go_wp2_with fail
          refine HNT.out.mono ?_
          rintro e w2 ⟨rfl, b2⟩
          have hB2 := below_step hB b2
          have hI2 := bld_below hI b2
          have b3 : Below w2.heap.size w2 (w2.alloc (.cells #[.int .i64 n] 86)) := (Below.refl _ _).alloc (Nat.le_refl _) _
          have hB3 := below_step hB2 b3
          have hI3 := bld_below hI2 b3
          clear hI hI2 hB b2 b3 HNT
          by_cases hnl : n < ts.length
          · obtain ⟨a, ha⟩ := getElem?_ex ts n hnl
            obtain ⟨g, o, rfl⟩ := (HR.out (by omega)).addr (by omega)
            obtain ⟨a0, a1⟩ := ((HR.out (by omega)).below hB3).atm n a ha
            have hnI : (n : Int) < (ts.length : Int) := by omega
            have hat : atomText ts n = a.text := by unfold atomText; rw [ha]
            have hatl := HT.out a (List.mem_of_getElem? ha)
            have HN := Lib.hid (show (acc ++ a.text) ++ restoreL (s.data.toList.drop (i + m)) ts = R by rw [← HACC.out, hat, List.append_assoc])
            clear HACC hat ha a0
            go_wp2_with fail
            refine (bld_string w.heap.size w.heap.size _ ⟨a.text.toArray⟩ _ hI3 (by rw [Lib.byteCells_length, Lib.size_eq]; simp only; omega) hB3.size).mono ?_
            rintro e w3 ⟨rfl, h3, hb3, k3⟩
            have hB4 := hB3.trans hb3
            have HA := Lib.hid (show Lib.IsBuilderF 46 5 w.heap.size w.heap.size (Lib.byteCells (acc ++ a.text)) w3 by rw [Lib.byteCells_append]; exact Or.inr h3)
            go_wp2_with fail
            go_roundw
            case rel => exact ⟨i + m, acc ++ a.text, by omega, by go_num, HA.out, hB4, HN.out⟩
            case measure => simp [intOf]; omega
          · have hnI : ¬ (n : Int) < (ts.length : Int) := by omega
            have hat : atomText ts n = [] := by unfold atomText; rw [List.getElem?_eq_none (by omega)]
            have HN := Lib.hid (show acc ++ restoreL (s.data.toList.drop (i + m)) ts = R by rw [← HACC.out, hat, List.nil_append])
            have HA := Lib.hid hI3
            clear HACC hat
            go_wp2_with fail
            go_roundw
            case rel => exact ⟨i + m, acc, by omega, by go_num, HA.out, hB3, HN.out⟩
            case measure => simp [intOf]; omega
        · rw [hn] at hnt
          rw [restore_word hn] at hacc
          simp only [Tok.val] at hnt
          have HNT := Lib.hid hnt
          have HN := Lib.hid (show (acc ++ [c]) ++ restoreL (s.data.toList.drop (i + 1)) ts = R by rw [h0, ← hacc]; simp)
          have q := tb_Word_Atom
          clear hnt hacc hn hdr h0 hdl
          go_wp2_with fail
          refine HNT.out.mono ?_
          rintro e w2 ⟨rfl, b2⟩
          have hB2 := below_step hB b2
          have hI2 := bld_below hI b2
          have b3 : Below w2.heap.size w2 (w2.alloc (.cells #[.int .i64 0] 86)) := (Below.refl _ _).alloc (Nat.le_refl _) _
          have hB3 := below_step hB2 b3
          have hI3 := bld_below hI2 b3
          clear hI hI2 hB b2 b3 HNT
          go_wp2_with fail
          refine (bld_byte w.heap.size w.heap.size _ (c.toNat : Int) _ hI3 (by rw [Lib.byteCells_length]; omega) (hB3).size).mono ?_
          rintro e w3 ⟨rfl, h3, hb3, k3⟩
          have hB3 := (hB3).trans hb3
          have HA := Lib.hid (show Lib.IsBuilderF 46 5 w.heap.size w.heap.size (Lib.byteCells (acc ++ [c])) w3 by rw [Lib.byteCells_append]; exact Or.inr h3)
          go_wp2_with fail
          go_roundw
          case rel => exact ⟨i + 1, acc ++ [c], by omega, by go_num, HA.out, hB3, HN.out⟩
          case measure => simp [intOf]; omega
      · have k0 : ((c.toNat : Int) == 0) = false := by
          have : c.toNat ≠ 0 := fun h => h0 (UInt8.toNat_inj.1 h)
          simp; omega
        rw [hdr, restore_cons h0] at hacc
        have HN := Lib.hid (show (acc ++ [c]) ++ restoreL (s.data.toList.drop (i + 1)) ts = R by rw [← hacc]; simp)
        clear hacc hdr h0
        go_wp2_with fail
        refine (bld_byte w.heap.size w.heap.size _ (c.toNat : Int) _ hI (by rw [Lib.byteCells_length]; omega) (hB).size).mono ?_
        rintro e w3 ⟨rfl, h3, hb3, k3⟩
        have hB3 := (hB).trans hb3
        have HA := Lib.hid (show Lib.IsBuilderF 46 5 w.heap.size w.heap.size (Lib.byteCells (acc ++ [c])) w3 by rw [Lib.byteCells_append]; exact Or.inr h3)
        go_wp2_with fail
        go_roundw
        case rel => exact ⟨i + 1, acc ++ [c], by omega, by go_num, HA.out, hB3, HN.out⟩
        case measure => simp [intOf]; omega
    · obtain rfl : i = s.size := by omega
      have hd0 : s.data.toList.drop s.size = [] := by rw [Lib.size_eq, List.drop_length]
      rw [hd0, restore_nil, List.append_nil] at hacc
      subst hacc
      have HI := Lib.hid hI
      clear hI hd0
      go_wp2_with fail
      refine (Tryz.Builder_String_any_k w.heap.size w.heap.size _ wr HI.out hB.size).mono ?_
      rintro e w2 ⟨rfl, _, hb2, _⟩
      go_wp2_with fail
      go_ret
      exact ⟨rfl, hB.trans hb2⟩

end Go.Proofs.YtahljcbmckldhaaGreatDoor

/-
  inline.parser: its state in memory, value by value; what stands below it; what a store leaves of it.
-/
namespace Go.Proofs.YtahljcbmckldhaaGreatDoor
open Go.RowKit
set_option maxRecDepth 100000
set_option linter.unusedVariables false
set_option linter.unusedSimpArgs false

/-- Atoms in memory. -/
def AtomsAt (w : World) (av : Value) (ts : List AtomT) : Prop := ∃ ao c, av = .slice ao ts.length c ∧ (0 < ts.length → RowR w 2 ao ts.length (ts.flatMap atomCells))
theorem AtomsAt.below {w w' : World} {av : Value} {ts : List AtomT} (h : AtomsAt w av ts) (hb : Below w.heap.size w w') : AtomsAt w' av ts := by
  obtain ⟨ao, c, h1, h2⟩ := h
  exact ⟨ao, c, h1, fun h0 => (h2 h0).below hb⟩
theorem AtomsAt.nil (w : World) : AtomsAt w (.slice none 0 0) [] := ⟨none, 0, rfl, fun h => absurd h (by simp)⟩

/-- What lies below a block and is not written: the tables of the library, the definitions, the atoms. -/
structure Low (B : Nat) (w : World) (tv av : Value) (t : Option (List DefL)) (ts : List AtomT) : Prop where
  env : ∀ w', Below B w w' → Env w'
  tab : ∀ w', Below B w w' → TabAt w' tv t
  atm : ∀ w', Below B w w' → AtomsAt w' av ts
theorem Low.step {B : Nat} {w w1 : World} {tv av : Value} {t : Option (List DefL)} {ts : List AtomT} (h : Low B w tv av t ts) (hb : Below B w w1) : Low B w1 tv av t ts :=
  ⟨fun w' h1 => h.env w' (hb.trans h1), fun w' h1 => h.tab w' (hb.trans h1), fun w' h1 => h.atm w' (hb.trans h1)⟩
theorem Low.mk' {w : World} {tv av : Value} {t : Option (List DefL)} {ts : List AtomT} (hE : Env w) (hT : TabAt w tv t) (hA : AtomsAt w av ts) : Low w.heap.size w tv av t ts :=
  ⟨fun w' h => hE.below h, fun w' h => hT.below h, fun w' h => hA.below h⟩
theorem Low.here {B : Nat} {w : World} {tv av : Value} {t : Option (List DefL)} {ts : List AtomT} (h : Low B w tv av t ts) : Env w ∧ TabAt w tv t ∧ AtomsAt w av ts :=
  ⟨h.env w (Below.refl _ _), h.tab w (Below.refl _ _), h.atm w (Below.refl _ _)⟩

/-- The parser's state, value by value. -/
structure StV (w : World) (B0 P : Nat) (s : ByteArray) (av tv : Value) (iao : Option Addr) (ic : Nat) (oao : Option Addr) (oc : Nat) (its : List ItemV) (st : PSt) : Prop where
  par : ParAt w P s av tv (.slice iao st.items.length ic) (.slice oao st.opens.length oc)
  it : ItsAt w B0 (.slice iao st.items.length ic) its
  itv : itemsV its = st.items
  op : OpsAt w B0 (.slice oao st.opens.length oc) st.opens

theorem StAt.vals {w : World} {B0 P : Nat} {s : ByteArray} {av tv : Value} {st : PSt} (h : StAt w B0 P s av tv st) : ∃ iao ic oao oc its, StV w B0 P s av tv iao ic oao oc its st := by
  obtain ⟨iv, ov, its, h1, h2, h3, h4⟩ := h
  have hl : its.length = st.items.length := by rw [← h3, itemsV_len]
  obtain ⟨iao, ic, rfl, _⟩ := own_slice h2.1
  obtain ⟨oao, oc, rfl, _⟩ := own_slice h4
  rw [hl] at h1 h2
  exact ⟨iao, ic, oao, oc, its, h1, h2, h3, h4⟩
theorem StV.st {w : World} {B0 P : Nat} {s : ByteArray} {av tv : Value} {iao : Option Addr} {ic : Nat} {oao : Option Addr} {oc : Nat} {its : List ItemV} {st : PSt} (h : StV w B0 P s av tv iao ic oao oc its st) : StAt w B0 P s av tv st :=
  ⟨_, _, its, h.par, h.it, h.itv, h.op⟩
theorem StV.below {w w' : World} {B0 P : Nat} {s : ByteArray} {av tv : Value} {iao : Option Addr} {ic : Nat} {oao : Option Addr} {oc : Nat} {its : List ItemV} {st : PSt} (h : StV w B0 P s av tv iao ic oao oc its st) (hb : Below w.heap.size w w') : StV w' B0 P s av tv iao ic oao oc its st :=
  ⟨h.par.below hb, h.it.below hb, h.itv, own_below h.op hb⟩
theorem StV.len {w : World} {B0 P : Nat} {s : ByteArray} {av tv : Value} {iao : Option Addr} {ic : Nat} {oao : Option Addr} {oc : Nat} {its : List ItemV} {st : PSt} (h : StV w B0 P s av tv iao ic oao oc its st) : its.length = st.items.length := by rw [← h.itv, itemsV_len]

theorem itsAt_set {w : World} {B0 : Nat} {iv : Value} {its : List ItemV} (h : ItsAt w B0 iv its) {a : Addr} {cs : Array Value} {e' : TypeId} {fr : Nat × Nat} (hg : w.heap[a.block]? = some (.cells cs e' fr)) (h1 : 95 ≠ e') (h2 : 28 ≠ e') (u : Value) : ItsAt (w.setCell a u) B0 iv its :=
  ⟨own_setCell h.1 hg h1 u, fun x hx => (h.2 x hx).setCell hg h2 u⟩

/-- Brackets fewer. -/
theorem StV.pop {w : World} {B0 P : Nat} {s : ByteArray} {av tv : Value} {iao : Option Addr} {ic : Nat} {oao : Option Addr} {oc : Nat} {its : List ItemV} {items : List IItem} {os : List Opn} {o : Opn} (h : StV w B0 P s av tv iao ic oao oc its ⟨items, os ++ [o]⟩) :
    StV (w.setCell ⟨P, 4, none⟩ (.slice oao os.length oc)) B0 P s av tv iao ic oao oc its ⟨items, os⟩ := by
  refine ⟨par_set4 h.par _, itsAt_set (a := ⟨P, 4, none⟩) h.it h.par (by decide) (by decide) _, h.itv, ?_⟩
  have h1 := own_take h.op os.length (by simp) oao _ oc rfl
  rw [flat_take opnCells 4 opn_len, List.take_left] at h1
  exact own_setCell (a := ⟨P, 4, none⟩) h1 h.par (by decide) _
/-- Items fewer. -/
theorem StV.cutI {w : World} {B0 P : Nat} {s : ByteArray} {av tv : Value} {iao : Option Addr} {ic : Nat} {oao : Option Addr} {oc : Nat} {its : List ItemV} {st : PSt} (h : StV w B0 P s av tv iao ic oao oc its st) (k : Nat) (hk : k ≤ st.items.length) :
    StV (w.setCell ⟨P, 3, none⟩ (.slice iao k ic)) B0 P s av tv iao ic oao oc (its.take k) { st with items := st.items.take k } := by
  have hkl : (st.items.take k).length = k := by simp; omega
  have hkl2 : (its.take k).length = k := by rw [List.length_take, h.len]; omega
  refine ⟨?_, ⟨?_, fun x hx => ?_⟩, ?_, own_setCell (a := ⟨P, 3, none⟩) h.op h.par (by decide) _⟩
  · show ParAt _ _ _ _ _ (.slice iao (st.items.take k).length ic) _
    rw [hkl]
    exact par_set3 h.par _
  · show World.ownsRow _ _ _ _ (.slice iao (st.items.take k).length ic) _ _
    have h0 := h.it.1
    rw [h.len] at h0
    have h1 := own_take h0 k hk iao _ ic rfl
    rw [flat_take itemCells 5 item_len] at h1
    rw [hkl, hkl2]
    exact own_setCell (a := ⟨P, 3, none⟩) h1 h.par (by decide) _
  · exact (h.it.2 x (List.mem_of_mem_take hx)).setCell (a := ⟨P, 3, none⟩) h.par (by decide) _
  · show itemsV (its.take k) = st.items.take k
    rw [← h.itv]; unfold itemsV; rw [List.map_take]

/-- A row that is not empty: its block. -/
theorem own_form {w : World} {base : Nat} {e : TypeId} {size : Nat} {ao : Option Addr} {c n : Nat} {xs : List Value} (h : w.ownsRow base e size (.slice ao n c) n xs) (hn : 0 < n) :
    ∃ g cur, ao = some ⟨g, 0, none⟩ ∧ base ≤ g ∧ n ≤ c ∧ g < w.heap.size ∧ w.heap[g]? = some (.cells cur e (0, 0)) := by
  rcases h.2 with ⟨_, h2⟩ | ⟨g, cap, cur, hv, hb, hg, hnc, _⟩
  · omega
  · injection hv with h1 _ h3
    subst h1
    subst h3
    exact ⟨g, cur, rfl, hb, hnc, (Array.getElem?_eq_some_iff.1 hg).1, hg⟩
theorem RowR.opn {w : World} {g o n : Nat} {l : List Opn} (h : RowR w 4 (some ⟨g, o, none⟩) n (l.flatMap opnCells)) (k : Nat) (x : Opn) (hk : l[k]? = some x) :
    w.cell? ⟨g, o + k * 4, none⟩ = some (.int .i64 (x.at' : Int)) ∧ w.cell? ⟨g, o + k * 4 + 1, none⟩ = some (.int .i64 (x.fin : Int)) ∧ w.cell? ⟨g, o + k * 4 + 2, none⟩ = some (.bool x.image) ∧ w.cell? ⟨g, o + k * 4 + 3, none⟩ = some (.bool x.shut) :=
  ⟨h.cell opn_len k 0 x _ hk (by omega) rfl, h.cell opn_len k 1 x _ hk (by omega) rfl, h.cell opn_len k 2 x _ hk (by omega) rfl, h.cell opn_len k 3 x _ hk (by omega) rfl⟩
theorem StV.opn {w : World} {B0 P : Nat} {s : ByteArray} {av tv : Value} {iao : Option Addr} {ic : Nat} {oao : Option Addr} {oc : Nat} {its : List ItemV} {st : PSt} (h : StV w B0 P s av tv iao ic oao oc its st) (k : Nat) (x : Opn) (hk : st.opens[k]? = some x) :
    ∃ g, oao = some ⟨g, 0, none⟩ ∧ B0 ≤ g ∧ st.opens.length ≤ oc ∧ g < w.heap.size ∧ w.cell? ⟨g, k * 4, none⟩ = some (.int .i64 (x.at' : Int)) ∧ w.cell? ⟨g, k * 4 + 1, none⟩ = some (.int .i64 (x.fin : Int)) ∧ w.cell? ⟨g, k * 4 + 2, none⟩ = some (.bool x.image) ∧ w.cell? ⟨g, k * 4 + 3, none⟩ = some (.bool x.shut) ∧ w.frozen? ⟨g, k * 4 + 3, none⟩ = false := by
  have hlt := (List.getElem?_eq_some_iff.1 hk).1
  obtain ⟨g, cur, rfl, hb, hc, hg, hh⟩ := own_form h.op (by omega)
  have hr := RowR.opn (own_rowR h.op).2.1 k x hk
  simp only [Nat.zero_add] at hr
  exact ⟨g, rfl, hb, hc, hg, hr.1, hr.2.1, hr.2.2.1, hr.2.2.2, frozen_of_row w g _ _ _ hh⟩
/-- One bracket more is shut. -/
theorem StV.shut {w : World} {B0 P : Nat} {s : ByteArray} {av tv : Value} {iao : Option Addr} {ic : Nat} {g oc : Nat} {its : List ItemV} {st : PSt} (h : StV w B0 P s av tv iao ic (some ⟨g, 0, none⟩) oc its st) (k : Nat) (x : Opn) (hk : st.opens[k]? = some x) :
    StV (w.setCell ⟨g, k * 4 + 3, none⟩ (.bool (x.shut || !x.image))) B0 P s av tv iao ic (some ⟨g, 0, none⟩) oc its { st with opens := st.opens.set k (shutOpen x) } := by
  have hlt := (List.getElem?_eq_some_iff.1 hk).1
  obtain ⟨g', cur, hg', hb, hc, hg, hh⟩ := own_form h.op (by omega)
  injection hg' with hg'
  injection hg' with hg' _ _
  subst hg'
  have hl : (st.opens.set k (shutOpen x)).length = st.opens.length := List.length_set ..
  refine ⟨?_, itsAt_set (a := ⟨g, k * 4 + 3, none⟩) h.it hh (by decide) (by decide) _, h.itv, ?_⟩
  · show ParAt _ _ _ _ _ _ (.slice _ (st.opens.set k (shutOpen x)).length _)
    rw [hl]
    have hne : P ≠ g := by
      rintro rfl
      have := h.par
      unfold ParAt at this
      rw [hh] at this
      simp at this
    unfold ParAt
    rw [Below.heap_setCell _ _ _ _ (by intro e; exact hne e), h.par]
  · show World.ownsRow _ _ _ _ (.slice _ (st.opens.set k (shutOpen x)).length _) _ _
    have h1 := (h.op.stored (k * 4 + 3) (.bool (x.shut || !x.image))).1
    rw [flat_setAt opnCells 4 opn_len st.opens k x (shutOpen x) 3 (.bool (x.shut || !x.image)) hk (by omega) rfl] at h1
    rw [hl]
    exact h1

theorem StV.itm {w : World} {B0 P : Nat} {s : ByteArray} {av tv : Value} {iao : Option Addr} {ic : Nat} {oao : Option Addr} {oc : Nat} {its : List ItemV} {st : PSt} (h : StV w B0 P s av tv iao ic oao oc its st) (h0 : 0 < st.items.length) : ∃ g, iao = some ⟨g, 0, none⟩ ∧ B0 ≤ g ∧ st.items.length ≤ ic ∧ g < w.heap.size := by
  have h1 := h.it.1
  rw [h.len] at h1
  obtain ⟨g, cur, e1, e2, e3, e4, _⟩ := own_form h1 h0
  exact ⟨g, e1, e2, e3, e4⟩

end Go.Proofs.YtahljcbmckldhaaGreatDoor

/-
  inline.parser.put: of one node that is laid now; words.
-/
namespace Go.Proofs.YtahljcbmckldhaaGreatDoor
open Go.RowKit
set_option maxRecDepth 100000
set_option linter.unusedVariables false
set_option linter.unusedSimpArgs false

theorem words_ag (s : ByteArray) (w : World) :
    Calls Tryz.prog 26 #[.string s] w fun e w' => e = .returned (.agg #[.int .i64 1, .int .i64 0, .string s, .string ⟨#[]⟩, .string ⟨#[]⟩]) ∧ Below w.heap.size w w' := by
  have := words_any s w
  unfold wordsI Inl.val at this
  simp only [Lib.mk_data] at this
  exact this

/-- One node, laid in a row of its own and put behind the others. -/
theorem put_one (B0 P : Nat) (s : ByteArray) (av tv : Value) (st : PSt) (x : Inl) (w : World) (hP0 : B0 ≤ P) (h : StAt w B0 P s av tv st) (hn : st.items.length ≤ 1000000000) (b : Nat) (hb : b = w.heap.size) :
    Calls Tryz.prog 25 #[.pointer (some ⟨P, 0, none⟩), .slice (some ⟨b, 0, none⟩) 1 1] (w.alloc (.cells #[.int .i64 (x.kind : Int), .int .i64 (x.depth : Int), .string ⟨x.text.toArray⟩, .string ⟨x.url.toArray⟩, .string ⟨x.title.toArray⟩] 28))
      fun e w' => e = .returned (.tuple #[]) ∧ StAt w' B0 P s av tv (st.put [x]) ∧ Below B0 w w' := by
  subst hb
  have hb : Below w.heap.size w (w.alloc (.cells #[.int .i64 (x.kind : Int), .int .i64 (x.depth : Int), .string ⟨x.text.toArray⟩, .string ⟨x.url.toArray⟩, .string ⟨x.title.toArray⟩] 28)) := (Below.refl _ w).alloc (Nat.le_refl _) _
  have hBs : B0 ≤ w.heap.size := by
    obtain ⟨iv, ov, its, hP, _⟩ := h
    exact Nat.le_trans hP0 (Nat.le_of_lt (par_lt hP))
  refine (put_any B0 P s av tv _ st [x] _ hP0 (h.below hb) (InlsAt.one w x _ rfl) hn).mono ?_
  rintro e w' ⟨rfl, h1, h2⟩
  exact ⟨rfl, h1, (hb.mono hBs).trans h2⟩
/-- .. of a kind that is told, with a text alone. -/
theorem put_lit (B0 P : Nat) (s : ByteArray) (av tv : Value) (st : PSt) (k : Nat) (K : Int) (hK : K = (k : Int)) (T : ByteArray) (w : World) (hP0 : B0 ≤ P) (h : StAt w B0 P s av tv st) (hn : st.items.length ≤ 1000000000) (b : Nat) (hb : b = w.heap.size) :
    Calls Tryz.prog 25 #[.pointer (some ⟨P, 0, none⟩), .slice (some ⟨b, 0, none⟩) 1 1] (w.alloc (.cells #[.int .i64 K, .int .i64 0, .string T, .string ⟨#[]⟩, .string ⟨#[]⟩] 28))
      fun e w' => e = .returned (.tuple #[]) ∧ StAt w' B0 P s av tv (st.put [⟨k, 0, T.data.toList, [], []⟩]) ∧ Below B0 w w' := by
  have := put_one B0 P s av tv st ⟨k, 0, T.data.toList, [], []⟩ w hP0 h hn b hb
  subst hK
  simp only [Lib.mk_data] at this
  exact this

theorem st_size {w : World} {B0 P : Nat} {s : ByteArray} {av tv : Value} {st : PSt} (hP0 : B0 ≤ P) (h : StAt w B0 P s av tv st) : B0 ≤ w.heap.size := by
  obtain ⟨iv, ov, its, hP, _⟩ := h
  exact Nat.le_trans hP0 (Nat.le_of_lt (par_lt hP))

/-- What stands behind a bracket, grouped. -/
theorem StV.group {w : World} {B0 P : Nat} {s : ByteArray} {av tv : Value} {gi ic : Nat} {oao : Option Addr} {oc : Nat} {its : List ItemV} {st : PSt} (h : StV w B0 P s av tv (some ⟨gi, 0, none⟩) ic oao oc its st) (c : Nat) (hc : c ≤ st.items.length)
    (hG : 2 * itsW st.items + st.items.length ≤ 100000000000) (hz : Zero st.items) (hne : ItemsNest st.items) :
    Calls Tryz.prog 20 #[.slice (if ic = c then some ⟨gi, 0, none⟩ else some ⟨gi, c * 5, none⟩) (st.items.length - c) (ic - c)] w fun e w' => ∃ v', e = .returned v' ∧ InlsAt w' v' (groupL (st.items.drop c)) ∧ Below w.heap.size w w' := by
  have hl := h.len
  have hi := h.it.1
  rw [hl] at hi
  have hr := (own_rowR hi).2.1
  have hcap : st.items.length ≤ ic ∨ st.items.length = 0 := by
    rcases Nat.eq_zero_or_pos st.items.length with h0 | h0
    · exact Or.inr h0
    · obtain ⟨_, _, _, h1, _⟩ := h.itm h0; exact Or.inl h1
  have hd : (its.drop c).length = st.items.length - c := by rw [List.length_drop, hl]
  have hiv : itemsV (its.drop c) = st.items.drop c := by rw [← h.itv]; unfold itemsV; rw [List.map_drop]
  have hgb : GB 100000000000 (piecesOf (itemsV (its.drop c))) := by
    rw [hiv]
    refine gb_of ?_ (hz.drop c) (hne.drop c)
    have := itsW_cut st.items c
    rw [List.length_drop]
    omega
  have hN : ∀ x ∈ its.drop c, InlsAt w x.2 x.1.l := fun x hx => h.it.2 x (List.mem_of_mem_drop hx)
  rw [← hiv, ← hd]
  split
  · rename_i e
    refine group_any _ _ _ w ?_ hN hgb
    have h0 : its.drop c = [] := List.eq_nil_of_length_eq_zero (by rw [hd]; omega)
    rw [h0]
    refine ⟨rfl, (fun h => by cases h), fun ad had => ?_⟩
    obtain rfl := Option.some.inj had
    exact ⟨rfl, fun j u hu => by simp at hu⟩
  · refine group_any _ _ _ w ?_ hN hgb
    have h1 := rowR_drop hr item_len hl c hc
    rw [hd]
    simpa using h1

/-- The blocks in which the items' nodes lie. -/
theorem StV.far {w : World} {B0 P : Nat} {s : ByteArray} {av tv : Value} {iao : Option Addr} {ic : Nat} {oao : Option Addr} {oc : Nat} {its : List ItemV} {st : PSt} (h : StV w B0 P s av tv iao ic oao oc its st) (k : Nat) (hk : w.heap.size ≤ k) : ∀ x ∈ its, x.2.ownBlock ≠ some k := by
  intro x hx e
  have := (World.ownsRow.lt (h.it.2 x hx) k e).2
  omega
/-- A store into a node of the call's own. -/
theorem StV.setOther {w : World} {B0 P : Nat} {s : ByteArray} {av tv : Value} {iao : Option Addr} {ic : Nat} {oao : Option Addr} {oc : Nat} {its : List ItemV} {st : PSt} (h : StV w B0 P s av tv iao ic oao oc its st) (a : Addr) (cs : Array Value) (hg : w.heap[a.block]? = some (.cells cs 28 (0, 0))) (hx : ∀ x ∈ its, x.2.ownBlock ≠ some a.block) (u : Value) :
    StV (w.setCell a u) B0 P s av tv iao ic oao oc its st := by
  refine ⟨?_, ⟨own_setCell h.it.1 hg (by decide) _, fun x hxm => ownsRow_setCell_other (h.it.2 x hxm) (hx x hxm) u⟩, h.itv, own_setCell h.op hg (by decide) _⟩
  have hne : ¬ P = a.block := by
    intro e
    have := h.par
    unfold ParAt at this
    rw [← e, this] at hg
    simp at hg
  unfold ParAt
  rw [Below.heap_setCell _ _ _ _ hne]
  exact h.par
theorem shut_next (os : List Opn) (k : Nat) (x : Opn) (hx : os[k]? = some x) : (((os.take k).map shutOpen ++ os.drop k)[k]? = some x) ∧ ((os.take k).map shutOpen ++ os.drop k).set k (shutOpen x) = (os.take (k + 1)).map shutOpen ++ os.drop (k + 1) := by
  have hk := (List.getElem?_eq_some_iff.1 hx).1
  have hl : ((os.take k).map shutOpen).length = k := by simp; omega
  have hd : os.drop k = x :: os.drop (k + 1) := by
    obtain ⟨h1, h2⟩ := List.getElem?_eq_some_iff.1 hx
    rw [← h2, List.getElem_cons_drop]
  refine ⟨?_, ?_⟩
  · rw [List.getElem?_append_right (by omega), hl, Nat.sub_self, hd]; rfl
  · rw [List.set_append_right _ _ (by omega), hl, Nat.sub_self, hd, List.set_cons_zero, take_snoc os k x hx, List.map_append, List.append_assoc]; rfl

end Go.Proofs.YtahljcbmckldhaaGreatDoor

/-
  inline.parser.token: a token is taken: words, code, tags, breaks, an atom that is none.
-/
namespace Go.Proofs.YtahljcbmckldhaaGreatDoor
open Go.RowKit
set_option maxRecDepth 100000
set_option linter.unusedVariables false
set_option linter.unusedSimpArgs false


set_option maxHeartbeats 4000000 in
theorem tk_word (B0 P : Nat) (s : ByteArray) (av tv : Value) (l : List UInt8) (st : PSt) (i next : Nat) (w : World) (hP0 : B0 ≤ P) (h : StAt w B0 P s av tv st) (hn : st.items.length ≤ 1000000000) :
    Calls Tryz.prog 19 #[.pointer (some ⟨P, 0, none⟩), (Tok.word l).val, .int .i64 i, .int .i64 next] w fun e w' => e = .returned (.int .i64 next) ∧ StAt w' B0 P s av tv (st.put [wordsI l]) ∧ Below B0 w w' := by
  have hs0 := st_size hP0 h
  have H := Lib.hid h
  have q := tb_Word_Word
  clear h
  show Calls Tryz.prog _ #[_, .iface 68 (.string ⟨l.toArray⟩), _, _] w _
  go_enter Tryz.func19, Tryz.ntmps19
  go_wp2_with fail
  refine (words_ag ⟨l.toArray⟩ _).mono ?_
  rintro e wa ⟨rfl, ba⟩
  go_wp2_with fail
  refine (put_lit B0 P s av tv st 1 _ rfl ⟨l.toArray⟩ _ hP0 (H.out.below ba) hn _ (by first | rfl | simp)).mono ?_
  rintro e wb ⟨rfl, sb, bb⟩
  go_wp2_with fail
  go_ret
  exact ⟨rfl, sb, ((ba.mono hs0)).trans bb⟩

set_option maxHeartbeats 4000000 in
theorem tk_code (B0 P : Nat) (s : ByteArray) (av tv : Value) (t : Option (List DefL)) (ts : List AtomT) (l : List UInt8) (st : PSt) (i next : Nat) (w : World) (hL : Low B0 w tv av t ts) (hP0 : B0 ≤ P) (h : StAt w B0 P s av tv st) (hn : st.items.length ≤ 1000000000)
    (hl : l.length ≤ 1000000) (hT : ∀ a ∈ ts, a.text.length ≤ 1000000) :
    Calls Tryz.prog 19 #[.pointer (some ⟨P, 0, none⟩), (Tok.code l).val, .int .i64 i, .int .i64 next] w fun e w' => e = .returned (.int .i64 next) ∧ StAt w' B0 P s av tv (st.put [⟨2, 0, restoreL l ts, [], []⟩]) ∧ Below B0 w w' := by
  have hs0 := st_size hP0 h
  obtain ⟨hE, _, ao, c, hav, hA⟩ := hL.here
  obtain ⟨iv, ov, its, hP, _⟩ := id h
  obtain ⟨_, p1, _, _, _⟩ := ParAt.cells hP
  have hr := restore_any ⟨l.toArray⟩ ao c ts w hE hA (by rw [Lib.size_eq]; exact hl) hT
  have H := Lib.hid h
  have HR := Lib.hid hr
  have q := tb_Code_Word
  have q2 := tb_Code_Code
  rw [hav] at p1
  have HAV := Lib.hid hav
  clear h hr hA hE hP hav
  show Calls Tryz.prog _ #[_, .iface 73 (.string ⟨l.toArray⟩), _, _] w _
  go_enter Tryz.func19, Tryz.ntmps19
  go_wp2_with fail
  refine HR.out.mono ?_
  rintro e wa ⟨rfl, ba⟩
  clear p1
  go_wp2_with fail
  refine (put_lit B0 P s av tv st 2 _ rfl ⟨(restoreL l ts).toArray⟩ _ hP0 (H.out.below ba) hn _ (by first | rfl | simp)).mono ?_
  rintro e wb ⟨rfl, sb, bb⟩
  go_wp2_with fail
  go_ret
  exact ⟨rfl, sb, ((ba.mono hs0)).trans bb⟩

set_option maxHeartbeats 4000000 in
theorem tk_tag (B0 P : Nat) (s : ByteArray) (av tv : Value) (l : List UInt8) (st : PSt) (i next : Nat) (w : World) (hP0 : B0 ≤ P) (h : StAt w B0 P s av tv st) (hn : st.items.length ≤ 1000000000) :
    Calls Tryz.prog 19 #[.pointer (some ⟨P, 0, none⟩), (Tok.tag l).val, .int .i64 i, .int .i64 next] w fun e w' => e = .returned (.int .i64 next) ∧ StAt w' B0 P s av tv (st.put [⟨9, 0, l, [], []⟩]) ∧ Below B0 w w' := by
  have H := Lib.hid h
  have q := tb_Tag_Word
  have q2 := tb_Tag_Code
  have q3 := tb_Tag_Tag
  have hB := Below.refl B0 w
  clear h
  show Calls Tryz.prog _ #[_, .iface 76 (.string ⟨l.toArray⟩), _, _] w _
  go_enter Tryz.func19, Tryz.ntmps19
  go_wp2_with fail
  refine (put_lit B0 P s av tv st 9 _ rfl ⟨l.toArray⟩ _ hP0 H.out hn _ (by first | rfl | simp)).mono ?_
  rintro e wb ⟨rfl, sb, bb⟩
  go_wp2_with fail
  go_ret
  exact ⟨rfl, sb, (hB).trans bb⟩

set_option maxHeartbeats 4000000 in
theorem tk_brk (B0 P : Nat) (s : ByteArray) (av tv : Value) (b : Bool) (st : PSt) (i next : Nat) (w : World) (hP0 : B0 ≤ P) (h : StAt w B0 P s av tv st) (hn : st.items.length ≤ 1000000000) :
    Calls Tryz.prog 19 #[.pointer (some ⟨P, 0, none⟩), (Tok.brk b).val, .int .i64 i, .int .i64 next] w fun e w' => e = .returned (.int .i64 next) ∧ StAt w' B0 P s av tv (st.put [⟨if b then 8 else 7, 0, [], [], []⟩]) ∧ Below B0 w w' := by
  have hs0 := st_size hP0 h
  have hb0 : Below w.heap.size w (w.alloc (.cells #[.string ⟨#[]⟩, .string ⟨#[]⟩] 79)) := (Below.refl _ w).alloc (Nat.le_refl _) _
  have hb1 := hb0.alloc hb0.size (.cells #[.bool b] 83)
  have HB1 := Lib.hid (hb1.mono hs0)
  have H := Lib.hid (h.below hb1)
  have q := tb_Break_Word
  have q2 := tb_Break_Code
  have q3 := tb_Break_Tag
  have q4 := tb_Break_Auto
  have q5 := tb_Break_Break
  clear h hb0 hb1
  show Calls Tryz.prog _ #[_, .iface 83 (.agg #[.bool b]), _, _] w _
  cases b
  · go_enter Tryz.func19, Tryz.ntmps19
    go_wp2_with fail
    refine (put_lit B0 P s av tv st 7 _ rfl ⟨#[]⟩ _ hP0 H.out hn _ (by first | rfl | simp)).mono ?_
    rintro e wb ⟨rfl, sb, bb⟩
    go_wp2_with fail
    go_ret
    exact ⟨rfl, sb, (HB1.out).trans bb⟩
  · go_enter Tryz.func19, Tryz.ntmps19
    go_wp2_with fail
    refine (put_lit B0 P s av tv st 8 _ rfl ⟨#[]⟩ _ hP0 H.out hn _ (by first | rfl | simp)).mono ?_
    rintro e wb ⟨rfl, sb, bb⟩
    go_wp2_with fail
    go_ret
    exact ⟨rfl, sb, (HB1.out).trans bb⟩

set_option maxHeartbeats 4000000 in
theorem tk_atom_none (B0 P : Nat) (s : ByteArray) (av tv : Value) (t : Option (List DefL)) (ts : List AtomT) (n : Nat) (st : PSt) (i next : Nat) (w : World) (hL : Low B0 w tv av t ts) (hP0 : B0 ≤ P) (h : StAt w B0 P s av tv st) (hnt : ts.length ≤ n) :
    Calls Tryz.prog 19 #[.pointer (some ⟨P, 0, none⟩), (Tok.atom n).val, .int .i64 i, .int .i64 next] w fun e w' => e = .returned (.int .i64 next) ∧ StAt w' B0 P s av tv st ∧ Below B0 w w' := by
  have hs0 := st_size hP0 h
  obtain ⟨hE, _, ao, c, hav, hA⟩ := hL.here
  have hb1 : Below w.heap.size w (w.alloc (.cells #[.string ⟨#[]⟩, .string ⟨#[]⟩] 79)) := (Below.refl _ w).alloc (Nat.le_refl _) _
  have hb2 := hb1.alloc hb1.size (.cells #[.bool false] 83)
  have hb3 := hb2.alloc hb2.size (.cells #[.int .i64 n] 86)
  obtain ⟨iv, ov, its, hP, _⟩ := h.below hb3
  obtain ⟨_, p1, _, _, _⟩ := ParAt.cells hP
  have HB3 := Lib.hid hb3
  have H := Lib.hid h
  have q1 := tb_Atom_Word
  have q2 := tb_Atom_Code
  have q3 := tb_Atom_Tag
  have q4 := tb_Atom_Auto
  have q5 := tb_Atom_Break
  have q6 := tb_Atom_Atom
  have q7 := tb_Atom_Run
  have q8 := tb_Atom_Mark
  have hcmp : ¬ (n : Int) < (ts.length : Int) := by omega
  have hcmp2 : decide ((n : Int) < (ts.length : Int)) = false := decide_eq_false hcmp
  rw [hav] at p1
  have HAV := Lib.hid hav
  clear h hb1 hb2 hb3 hP hA hE hav
  show Calls Tryz.prog _ #[_, .iface 86 (.agg #[.int .i64 n]), _, _] w _
  go_enter Tryz.func19, Tryz.ntmps19
  go_wp2_with fail
  go_quiet (fail)
  obtain ⟨W, hW⟩ : ∃ W, ((w.alloc (.cells #[.string ⟨#[]⟩, .string ⟨#[]⟩] 79)).alloc (.cells #[.bool false] 83)).alloc (.cells #[.int .i64 n] 86) = W := ⟨_, rfl⟩
  have hb4 := below_drewsN HB3.out nq
  rw [hW] at hb4 p1 ⊢
  obtain ⟨W2, hW2⟩ : ∃ W2, W.drewN nq = W2 := ⟨_, rfl⟩
  rw [hW2] at hb4 ⊢
  clear hW hW2 p1
  have hb5 := hb4.alloc hb4.size (.cells #[.int .u8 0, .int .i64 0] 89)
  have hb6 := hb5.alloc hb5.size (.cells #[.string ⟨#[]⟩] 97)
  go_wp2_with fail
  go_ret
  exact ⟨rfl, H.out.below hb6, hb6.mono hs0⟩

end Go.Proofs.YtahljcbmckldhaaGreatDoor

/-
  inline.parser.token: a link that stands for itself; an atom that is there.
-/
namespace Go.Proofs.YtahljcbmckldhaaGreatDoor
open Go.RowKit
set_option maxRecDepth 100000
set_option linter.unusedVariables false
set_option linter.unusedSimpArgs false

set_option maxHeartbeats 8000000 in
theorem tk_auto (B0 P : Nat) (s : ByteArray) (av tv : Value) (u x : List UInt8) (st : PSt) (i next : Nat) (w : World) (hP0 : B0 ≤ P) (h : StAt w B0 P s av tv st) (hn : st.items.length ≤ 1000000000) :
    Calls Tryz.prog 19 #[.pointer (some ⟨P, 0, none⟩), (Tok.auto u x).val, .int .i64 i, .int .i64 next] w fun e w' => e = .returned (.int .i64 next) ∧ StAt w' B0 P s av tv (st.put (withinL ⟨5, 0, [], u, []⟩ [wordsI x])) ∧ Below B0 w w' := by
  have hs0 := st_size hP0 h
  have hb0 : Below w.heap.size w (w.alloc (.cells #[.string ⟨u.toArray⟩, .string ⟨x.toArray⟩] 79)) := (Below.refl _ w).alloc (Nat.le_refl _) _
  have hk0 : (w.alloc (.cells #[.string ⟨u.toArray⟩, .string ⟨x.toArray⟩] 79)).heap[w.heap.size]? = some (.cells #[.string ⟨u.toArray⟩, .string ⟨x.toArray⟩] 79 (0, 0)) := heap_alloc_new w _
  have hPw : P < w.heap.size := by obtain ⟨_, _, _, hP, _⟩ := h; exact par_lt hP
  have H := Lib.hid h
  have q := tb_Auto_Word
  have q2 := tb_Auto_Code
  have q3 := tb_Auto_Tag
  have q4 := tb_Auto_Auto
  have HW := Lib.hid (fun (w2 : World) => show Calls Tryz.prog 28 #[.agg #[.int .i64 5, .int .i64 0, .string ⟨#[]⟩, .string ⟨u.toArray⟩, .string ⟨#[]⟩], .slice (some ⟨w2.heap.size, 0, none⟩) 1 1] (w2.alloc (.cells #[.int .i64 1, .int .i64 0, .string ⟨x.toArray⟩, .string ⟨#[]⟩, .string ⟨#[]⟩] 28)) _ from
    within_any ⟨5, 0, [], u, []⟩ (.slice (some ⟨w2.heap.size, 0, none⟩) 1 1) [wordsI x] _ (InlsAt.one w2 (wordsI x) w2.heap.size rfl) (by simp) (fun y hy => by rw [List.mem_singleton.1 hy]; exact Nat.zero_le _))
  clear h
  show Calls Tryz.prog _ #[_, .iface 79 (.agg #[.string ⟨u.toArray⟩, .string ⟨x.toArray⟩]), _, _] w _
  go_enter Tryz.func19, Tryz.ntmps19
  go_wp2_with fail
  obtain ⟨W1, hW1⟩ : ∃ W, w.alloc (.cells #[.string ⟨u.toArray⟩, .string ⟨x.toArray⟩] 79) = W := ⟨_, rfl⟩
  rw [hW1] at hb0 hk0 ⊢
  have hsz : w.heap.size < W1.heap.size := (Array.getElem?_eq_some_iff.1 hk0).1
  have c0 : W1.cell? ⟨w.heap.size, 0, none⟩ = some (.string ⟨u.toArray⟩) := by rw [cell_of_row W1 w.heap.size 0 _ _ _ hk0]; rfl
  have c1 : W1.cell? ⟨w.heap.size, 1, none⟩ = some (.string ⟨x.toArray⟩) := by rw [cell_of_row W1 w.heap.size 1 _ _ _ hk0]; rfl
  have hb0d := hb0.drew
  clear hW1
  go_region_held3 (fun W => W.cell? ⟨w.heap.size, 0, none⟩ = some (.string ⟨u.toArray⟩) ∧ W.cell? ⟨w.heap.size, 1, none⟩ = some (.string ⟨x.toArray⟩)) (first | exact ⟨c0, c1⟩ | exact ⟨d0, d1⟩ | exact ⟨e0, e1⟩ | exact ⟨g0, g1⟩ | exact ⟨k0, k1⟩)
    ((first
      | (go_at_call 26; refine (words_ag ⟨x.toArray⟩ _).mono ?_; rintro e w2 ⟨rfl, b2⟩
         have hk2 := (b2.block _ hsz).trans hk0
         have d0 := heap_cell c0 (hk2.trans hk0.symm)
         have d1 := heap_cell c1 (hk2.trans hk0.symm)
         have hB2 := below_step hb0d b2
         have hs2 := Nat.lt_of_lt_of_le hsz b2.size
         have b2a := (Below.refl w2.heap.size w2).alloc (Nat.le_refl _) (.cells #[.int .i64 1, .int .i64 0, .string ⟨x.toArray⟩, .string ⟨#[]⟩, .string ⟨#[]⟩] 28)
         have hk3 := (b2a.block _ hs2).trans hk2
         have e0 := heap_cell d0 (hk3.trans hk2.symm)
         have e1 := heap_cell d1 (hk3.trans hk2.symm))
      | (go_at_call 28; refine (HW.out _).mono ?_; rintro e w3 ⟨v3, rfl, hI3, b3⟩
         have hk4 := (b3.block _ (Nat.lt_of_lt_of_le hs2 b2a.size)).trans hk3
         have g0 := heap_cell e0 (hk4.trans hk3.symm)
         have g1 := heap_cell e1 (hk4.trans hk3.symm)
         have hB3 := below_step (below_step hB2 b2a) b3)
      | (go_at_call 25; refine (put_keep B0 P s av tv v3 st _ w3 hP0 (H.out.below hB3) hI3 hn).mono ?_; rintro e w4 ⟨rfl, s4, b4, kp⟩
         have hk5 := kp _ _ _ hk4 (by decide) (by omega)
         have k0 := heap_cell g0 hk5
         have k1 := heap_cell g1 hk5
         have hB4 := (hB3.mono hs0).trans b4)))
  go_wp2_with fail
  go_ret
  exact ⟨rfl, s4, hB4⟩

end Go.Proofs.YtahljcbmckldhaaGreatDoor

/-
  inline.parser: one item more, one bracket more: what the memory then holds.
-/
namespace Go.Proofs.YtahljcbmckldhaaGreatDoor
open Go.RowKit
set_option maxRecDepth 100000
set_option linter.unusedVariables false
set_option linter.unusedSimpArgs false

theorem st_item {w w5 : World} {B0 P : Nat} {s : ByteArray} {av tv : Value} {iao : Option Addr} {ic : Nat} {oao : Option Addr} {oc : Nat} {its : List ItemV} {st : PSt} (h : StV w B0 P s av tv iao ic oao oc its st) (hP0 : B0 ≤ P) (c : UInt8) (n : Nat) (op cl : Bool) (v' : Value)
    (hown : w5.ownsRow B0 95 5 v' (st.items.length + 1) (its.flatMap itemCells ++ [.int .u8 (c.toNat : Int), .int .i64 (n : Int), .bool op, .bool cl, .slice none 0 0]))
    (hg : (w.alloc (.cells #[.int .u8 (c.toNat : Int), .int .i64 (n : Int), .bool op, .bool cl, .slice none 0 0] 95)).grownBy w5 (Value.slice iao st.items.length ic).ownBlock) :
    ParAt w5 P s av tv (.slice iao st.items.length ic) (.slice oao st.opens.length oc) ∧ StAt (w5.setCell ⟨P, 3, none⟩ v') B0 P s av tv { st with items := st.items ++ [⟨c, n, op, cl, []⟩] } ∧ Below B0 w (w5.setCell ⟨P, 3, none⟩ v') ∧ KeptBut 95 P w (w5.setCell ⟨P, 3, none⟩ v') := by
  have hBs := st_size hP0 h.st
  have hb : Below w.heap.size w (w.alloc (.cells #[.int .u8 (c.toNat : Int), .int .i64 (n : Int), .bool op, .bool cl, .slice none 0 0] 95)) := (Below.refl _ w).alloc (Nat.le_refl _) _
  have h1 := h.below hb
  have hO := h1.it.1
  have hP5 := par_grown h1.par hO (by decide) hg
  have hN5 : ∀ x ∈ its, InlsAt w5 x.2 x.1.l := fun x hx => (h1.it.2 x hx).keptI hO hg
  have hV5 : OpsAt w5 B0 (.slice oao st.opens.length oc) st.opens := World.ownsRow.kept h1.op hg (own_apart h1.op hO (by decide))
  have hB5 : Below B0 w w5 := (hb.mono hBs).grown hg (by have := hb.size; omega) (fun j hj => (hO.lt j hj).1)
  obtain ⟨vao, vc, hvv, _⟩ := own_slice hown
  subst hvv
  refine ⟨hP5, ⟨_, _, its ++ [(⟨c, n, op, cl, []⟩, .slice none 0 0)], par_set3 hP5 _, ⟨?_, ?_⟩, ?_, own_setCell (a := ⟨P, 3, none⟩) hV5 hP5 (by decide) _⟩, hB5.setCell (p := ⟨P, 3, none⟩) hP0 _, ?_⟩
  · refine own_setCell (a := ⟨P, 3, none⟩) ?_ hP5 (by decide) _
    rw [List.length_append, List.flatMap_append, h.len]
    exact hown
  · intro x hx
    rcases List.mem_append.1 hx with hx | hx
    · exact (hN5 x hx).setCell (a := ⟨P, 3, none⟩) hP5 (by decide) _
    · rw [List.mem_singleton.1 hx]; exact InlsAt.nil _
  · rw [itemsV_append, h.itv]; rfl
  · intro k cs T hk hT hP
    have hk1 := (hb.block k (Array.getElem?_eq_some_iff.1 hk).1).trans hk
    rw [Below.heap_setCell _ _ _ _ hP, hg.block k (Array.getElem?_eq_some_iff.1 hk1).1 (own_other hO hk1 (Ne.symm hT)), hk1, hk]

theorem st_opener {w w5 : World} {B0 P : Nat} {s : ByteArray} {av tv : Value} {iao : Option Addr} {ic : Nat} {oao : Option Addr} {oc : Nat} {its : List ItemV} {st : PSt} (h : StV w B0 P s av tv iao ic oao oc its st) (hP0 : B0 ≤ P) (a f : Nat) (im : Bool) (v' : Value)
    (hown : w5.ownsRow B0 101 4 v' (st.opens.length + 1) (st.opens.flatMap opnCells ++ [.int .i64 (a : Int), .int .i64 (f : Int), .bool im, .bool false]))
    (hg : (w.alloc (.cells #[.int .i64 (a : Int), .int .i64 (f : Int), .bool im, .bool false] 101)).grownBy w5 (Value.slice oao st.opens.length oc).ownBlock) :
    ParAt w5 P s av tv (.slice iao st.items.length ic) (.slice oao st.opens.length oc) ∧ StAt (w5.setCell ⟨P, 4, none⟩ v') B0 P s av tv { st with opens := st.opens ++ [⟨a, f, im, false⟩] } ∧ Below B0 w (w5.setCell ⟨P, 4, none⟩ v') ∧ KeptBut 101 P w (w5.setCell ⟨P, 4, none⟩ v') := by
  have hBs := st_size hP0 h.st
  have hb : Below w.heap.size w (w.alloc (.cells #[.int .i64 (a : Int), .int .i64 (f : Int), .bool im, .bool false] 101)) := (Below.refl _ w).alloc (Nat.le_refl _) _
  have h1 := h.below hb
  have hO := h1.op
  have hP5 := par_grown h1.par hO (by decide) hg
  have hN5 : ∀ x ∈ its, InlsAt w5 x.2 x.1.l := fun x hx => World.ownsRow.kept (h1.it.2 x hx) hg (own_apart (h1.it.2 x hx) hO (by decide))
  have hI5 : w5.ownsRow B0 95 5 (.slice iao st.items.length ic) its.length (its.flatMap itemCells) := World.ownsRow.kept h1.it.1 hg (own_apart h1.it.1 hO (by decide))
  have hB5 : Below B0 w w5 := (hb.mono hBs).grown hg (by have := hb.size; omega) (fun j hj => (hO.lt j hj).1)
  obtain ⟨vao, vc, hvv, _⟩ := own_slice hown
  subst hvv
  refine ⟨hP5, ⟨_, _, its, par_set4 hP5 _, ⟨own_setCell (a := ⟨P, 4, none⟩) hI5 hP5 (by decide) _, fun x hx => (hN5 x hx).setCell (a := ⟨P, 4, none⟩) hP5 (by decide) _⟩, h.itv, ?_⟩, hB5.setCell (p := ⟨P, 4, none⟩) hP0 _, ?_⟩
  · refine own_setCell (a := ⟨P, 4, none⟩) ?_ hP5 (by decide) _
    show w5.ownsRow _ _ _ _ (st.opens ++ [(⟨a, f, im, false⟩ : Opn)]).length _
    rw [List.length_append, List.flatMap_append]
    exact hown
  · intro k cs T hk hT hP
    have hk1 := (hb.block k (Array.getElem?_eq_some_iff.1 hk).1).trans hk
    rw [Below.heap_setCell _ _ _ _ hP, hg.block k (Array.getElem?_eq_some_iff.1 hk1).1 (own_other hO hk1 (Ne.symm hT)), hk1, hk]

end Go.Proofs.YtahljcbmckldhaaGreatDoor

/-
  flank: whether a row of signs opens, or closes; the runes around it. repair.Punct.
-/
namespace Go.Proofs.YtahljcbmckldhaaGreatDoor
open Go.RowKit
set_option maxRecDepth 100000
set_option linter.unusedVariables false
set_option linter.unusedSimpArgs false

theorem has_take (r : Int) (l : List Int) (k : Nat) (hk : k < l.length) : (l.take (k + 1)).contains r = ((l.take k).contains r || l[k] == r) := by
  rw [List.take_succ_eq_append_getElem hk, List.contains_append]
  congr 1
  rw [List.contains_cons, List.contains_nil, Bool.or_false]
  exact Bool.beq_comm

set_option maxHeartbeats 1000000 in
theorem index_ints (l : List Int) (r : Int) (b c : Nat) (w : World) (hl : l.length ≤ 1000) (hb : b < w.heap.size) (hs : ∀ i, (h : i < l.length) → w.cell? ⟨b, i, none⟩ = some (.int .i32 l[i])) :
    Calls Tryz.prog 103 #[.slice (some ⟨b, 0, none⟩) l.length c, .int .i32 r] w fun e w' => ∃ n : Int, e = .returned (.int .i64 n) ∧ decide (0 ≤ n) = l.contains r ∧ Below w.heap.size w w' := by
  have HS := Lib.hid hs
  clear hs
  go_enter Tryz.func103, Tryz.ntmps103
  go_wp2_with fail
  go_loopw [8] (fun u8 wr => ∃ k : Nat, k ≤ l.length ∧ u8 = .int .i64 k ∧ Below w.heap.size w wr ∧ (l.take k).contains r = false) (fun u8 _ => l.length - (intOf u8).toNat)
  case atStart => exact ⟨0, Nat.zero_le _, rfl, Below.refl _ _, rfl⟩
  case round =>
    obtain ⟨k, hk, rfl, hB, hno⟩ := hrel
    have HN := Lib.hid hno
    clear hno
    by_cases hlt : k < l.length
    · have h0 := (hB.cell (p := ⟨b, k, none⟩) hb).trans (HS.out k hlt)
      have HT := Lib.hid (has_take r l k hlt)
      obtain ⟨x, hx⟩ : ∃ x, l[k] = x := ⟨_, rfl⟩
      rw [hx] at h0
      have HX := Lib.hid hx
      clear hx
      cases hh : (x == r)
      · have hh2 : (r == x) = false := by rw [Bool.beq_comm]; exact hh
        have HK := Lib.hid (show (l.take (k + 1)).contains r = false by rw [HT.out, HN.out, HX.out, hh]; rfl)
        go_wp2_with fail
        go_roundw
        case rel => exact ⟨k + 1, by omega, by go_num, hB, HK.out⟩
        case measure => simp [intOf]; omega
      · have hh2 : (r == x) = true := by rw [Bool.beq_comm]; exact hh
        have HK := Lib.hid (show l.contains r = true by
          have e1 : (l.take (k + 1)).contains r = true := by rw [HT.out, HX.out, hh]; simp
          rw [List.contains_iff_mem] at e1 ⊢
          exact List.mem_of_mem_take e1)
        go_wp2_with fail
        go_ret
        exact ⟨k, rfl, by rw [HK.out]; simp, hB⟩
    · obtain rfl : k = l.length := by omega
      go_wp2_with fail
      go_ret
      exact ⟨-1, rfl, by have := HN.out; rw [List.take_length] at this; rw [this]; rfl, hB⟩

theorem contains_ints (l : List Int) (r : Int) (b c : Nat) (w : World) (hl : l.length ≤ 1000) (hb : b < w.heap.size) (hs : ∀ i, (h : i < l.length) → w.cell? ⟨b, i, none⟩ = some (.int .i32 l[i])) :
    Calls Tryz.prog 80 #[.slice (some ⟨b, 0, none⟩) l.length c, .int .i32 r] w fun e w' => e = .returned (.bool (l.contains r)) ∧ Below w.heap.size w w' := by
  have HC := Lib.hid (index_ints l r b c w hl hb hs)
  clear hs
  go_enter Tryz.func80, Tryz.ntmps80
  go_wp2_with fail
  refine HC.out.mono ?_
  rintro e w2 ⟨n, rfl, hn, hB⟩
  have HN := Lib.hid hn
  clear hn
  go_wp2_with fail
  go_ret
  exact ⟨ret_bool HN.out, hB⟩

set_option maxHeartbeats 2000000 in
theorem punct_any (r : Int) (w : World) :
    Calls Tryz.prog 55 #[.int .i32 r] w fun e w' => e = .returned (.bool (punctL r)) ∧ Below w.heap.size w w' := by
  obtain ⟨R, hR⟩ : ∃ R, punctL r = R := ⟨_, rfl⟩
  rw [hR]
  unfold punctL at hR
  by_cases hr : 0 ≤ r ∧ r < 128
  · rw [if_pos hr] at hR
    obtain ⟨c, rfl⟩ : ∃ c : UInt8, r = (c.toNat : Int) := ⟨UInt8.ofNat r.toNat, by rw [UInt8.toNat_ofNat']; omega⟩
    have h1 : (c.toNat : Int) < 128 := hr.2
    obtain ⟨b0, b1⟩ := byte_lt c
    have HR := Lib.hid (show asciiP c = R from hR)
    clear hR hr
    go_enter Tryz.func55, Tryz.ntmps55
    go_wp2_with fail
    refine (ascii_any c _).mono ?_
    rintro e w2 ⟨rfl, hb⟩
    rw [HR.out]
    go_wp2_with fail
    go_ret
    exact ⟨rfl, hb⟩
  · rw [if_neg hr] at hR
    have hg : (decide (0 ≤ r) && decide (r < 128)) = false := by
      rw [Bool.eq_false_iff]; intro h; simp at h; exact hr h
    have hcell : ∀ i, (h : i < punctOne.length) → (w.alloc (.cells #[.int .i32 161, .int .i32 167, .int .i32 171, .int .i32 182, .int .i32 183, .int .i32 187, .int .i32 191, .int .i32 8364] 21)).cell? ⟨w.heap.size, i, none⟩ = some (.int .i32 punctOne[i]) := by
      intro i h
      have : i = 0 ∨ i = 1 ∨ i = 2 ∨ i = 3 ∨ i = 4 ∨ i = 5 ∨ i = 6 ∨ i = 7 := by simp [punctOne] at h; omega
      rcases this with rfl | rfl | rfl | rfl | rfl | rfl | rfl | rfl <;> simp [punctOne]
    have hc := contains_ints punctOne r w.heap.size 8 _ (by decide) (by simp) hcell
    have hB1 := (Below.refl w.heap.size w).alloc (Nat.le_refl _) (.cells #[.int .i32 161, .int .i32 167, .int .i32 171, .int .i32 182, .int .i32 183, .int .i32 187, .int .i32 191, .int .i32 8364] 21)
    obtain ⟨q, hq⟩ : ∃ q, punctOne.contains r = q := ⟨_, rfl⟩
    rw [hq] at hc hR
    have HC := Lib.hid hc
    have HR := Lib.hid hR
    clear hcell hc hR hq
    by_cases h0 : 0 ≤ r
    · have h1 : ¬ r < 128 := fun h => hr ⟨h0, h⟩
      clear hr hg
      cases q
      · go_enter Tryz.func55, Tryz.ntmps55
        go_wp2_with fail
        refine HC.out.mono ?_
        rintro e w2 ⟨rfl, hb⟩
        have hB2 := hB1.trans (hb.mono hB1.size)
        go_wp2_with fail
        refine (among_any punctSps r w2.heap.size 3 _ (by decide) (by
          refine ⟨by simp, fun i hi => ?_⟩
          have : i = 0 ∨ i = 1 ∨ i = 2 := by simp [punctSps] at hi; omega
          rcases this with rfl | rfl | rfl <;> simp [punctSps])).mono ?_
        rintro e w3 ⟨rfl, hb3⟩
        have hB3 := hB2.alloc hB2.size (.cells #[.int .i32 8208, .int .i32 8231, .int .i32 8240, .int .i32 8259, .int .i32 12289, .int .i32 12305] 64)
        have hB4 := hB3.trans (hb3.mono hB3.size)
        go_wp2_with fail
        go_ret
        exact ⟨by rw [← HR.out]; rfl, hB4⟩
      · go_enter Tryz.func55, Tryz.ntmps55
        go_wp2_with fail
        refine HC.out.mono ?_
        rintro e w2 ⟨rfl, hb⟩
        have hB2 := hB1.trans (hb.mono hB1.size)
        go_wp2_with fail
        go_ret
        exact ⟨by rw [← HR.out]; rfl, hB2⟩
    · clear hr hg
      cases q
      · go_enter Tryz.func55, Tryz.ntmps55
        go_wp2_with fail
        refine HC.out.mono ?_
        rintro e w2 ⟨rfl, hb⟩
        have hB2 := hB1.trans (hb.mono hB1.size)
        go_wp2_with fail
        refine (among_any punctSps r w2.heap.size 3 _ (by decide) (by
          refine ⟨by simp, fun i hi => ?_⟩
          have : i = 0 ∨ i = 1 ∨ i = 2 := by simp [punctSps] at hi; omega
          rcases this with rfl | rfl | rfl <;> simp [punctSps])).mono ?_
        rintro e w3 ⟨rfl, hb3⟩
        have hB3 := hB2.alloc hB2.size (.cells #[.int .i32 8208, .int .i32 8231, .int .i32 8240, .int .i32 8259, .int .i32 12289, .int .i32 12305] 64)
        have hB4 := hB3.trans (hb3.mono hB3.size)
        go_wp2_with fail
        go_ret
        exact ⟨by rw [← HR.out]; rfl, hB4⟩
      · go_enter Tryz.func55, Tryz.ntmps55
        go_wp2_with fail
        refine HC.out.mono ?_
        rintro e w2 ⟨rfl, hb⟩
        have hB2 := hB1.trans (hb.mono hB1.size)
        go_wp2_with fail
        go_ret
        exact ⟨by rw [← HR.out]; rfl, hB2⟩

end Go.Proofs.YtahljcbmckldhaaGreatDoor
