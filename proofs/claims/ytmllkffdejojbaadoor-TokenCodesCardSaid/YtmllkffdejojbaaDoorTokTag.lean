/-
  token.mail, tag, angle.
-/
import Derived.Test.YtmllkffdejojbaaDoorTokAuto
import Derived.LoopN
namespace Go.Proofs.YtmllkffdejojbaaDoor
open Go.RowKit
set_option maxRecDepth 100000
set_option linter.unusedVariables false
set_option linter.unusedSimpArgs false


theorem mail_no (s : List UInt8) (n m : Nat) (hn : amongL (s.drop 1) mailSet = n) (hm : amongL (s.drop (2 + n)) hostSet = m)
    (h : n = 0 ∨ (s.drop (1 + n)).head? ≠ some 64 ∨ m = 0 ∨ (s.drop (2 + n + m)).head? ≠ some 62) : mailL s = none := by
  have hn' : amongL (s.drop 1) (lettersL ++ digitsL ++ [46, 45, 95, 43]) = n := hn
  have hm' : amongL (s.drop (2 + n)) (lettersL ++ digitsL ++ [45, 46]) = m := hm
  unfold mailL
  rw [hn', hm']
  split
  · rfl
  · split
    · split
      · rfl
      · split
        · rename_i a b c d
          exfalso
          rcases h with h | h | h | h
          · exact a h
          · exact h b
          · exact c h
          · exact h d
        · rfl
    · rfl
theorem mail_yes (s : List UInt8) (n m : Nat) (hn : amongL (s.drop 1) mailSet = n) (hm : amongL (s.drop (2 + n)) hostSet = m) (h1 : n ≠ 0) (h2 : (s.drop (1 + n)).head? = some 64) (h3 : m ≠ 0) (h4 : (s.drop (2 + n + m)).head? = some 62) :
    mailL s = some (.auto (mailto ++ (s.take (2 + n + m)).drop 1) ((s.take (2 + n + m)).drop 1), 2 + n + m + 1) := by
  have hn' : amongL (s.drop 1) (lettersL ++ digitsL ++ [46, 45, 95, 43]) = n := hn
  have hm' : amongL (s.drop (2 + n)) (lettersL ++ digitsL ++ [45, 46]) = m := hm
  unfold mailL
  rw [hn', hm', if_neg h1, if_pos h2, if_neg h3, if_pos h4]

set_option maxHeartbeats 8000000 in
theorem mail_tok (s : ByteArray) (w : World) (h0 : 1 ≤ s.size) (hs : s.size ≤ 1000000000) :
    Calls Tryd.prog 107 #[.string s] w fun e w' => e = .returned (.tuple #[tokVal (mailL s.data.toList), .int .i64 (tokLen (mailL s.data.toList))]) ∧ Below w.heap.size w w' := by
  have hc1 := fun W => among_mail s 1 W hs
  have hl1 := among_le (s.data.toList.drop 1) mailSet
  rw [List.length_drop, ← Lib.size_eq] at hl1
  obtain ⟨n, hn⟩ : ∃ n, amongL (s.data.toList.drop 1) mailSet = n := ⟨_, rfl⟩
  have hc2 := fun W => among_host s (2 + n) W hs
  have hl2 := among_le (s.data.toList.drop (2 + n)) hostSet
  rw [List.length_drop, ← Lib.size_eq] at hl2
  obtain ⟨m, hm⟩ : ∃ m, amongL (s.data.toList.drop (2 + n)) hostSet = m := ⟨_, rfl⟩
  have hno := mail_no s.data.toList n m hn hm
  have hyes := mail_yes s.data.toList n m hn hm
  rw [hn] at hc1 hl1
  rw [hm] at hc2 hl2
  have HC1 := Lib.hid hc1
  have HC2 := Lib.hid hc2
  clear hc1 hc2 hn hm
  by_cases t0 : n = 0
  · have HN := Lib.hid (hno (Or.inl t0))
    have t0' : ((n : Int) == 0) = true := by rw [beq_iff_eq]; omega
    clear hno hyes
    go_enter Tryd.func107, Tryd.ntmps107
    go_wp2_with fail
    refine (HC1.out _).mono ?_
    rintro e w2 ⟨rfl, b2⟩
    go_wp2_with fail
    go_ret2
    exact ⟨ret_nil HN.out, b2⟩
  · have t0' : ((n : Int) == 0) = false := by rw [beq_eq_false_iff_ne]; omega
    have hp := fun W => pre_at 64 (s.extract (1 + n) s.size) W
    rw [tail_list] at hp
    by_cases t1 : (s.data.toList.drop (1 + n)).head? = some 64
    · have hlt1 := head_lt t1
      rw [← Lib.size_eq] at hlt1
      rw [decide_eq_true t1] at hp
      have HP := Lib.hid hp
      clear hp
      by_cases t2 : m = 0
      · have HN := Lib.hid (hno (Or.inr (Or.inr (Or.inl t2))))
        have t2' : ((m : Int) == 0) = true := by rw [beq_iff_eq]; omega
        clear hno hyes t1
        go_enter Tryd.func107, Tryd.ntmps107
        go_wp2_with fail
        refine (HC1.out _).mono ?_
        rintro e w2 ⟨rfl, b2⟩
        go_wp2_with fail
        refine (HP.out _).mono ?_
        rintro e w' ⟨rfl, hw'⟩
        obtain rfl := hw'.symm
        go_wp2_with fail
        refine (HC2.out _).mono ?_
        rintro e w3 ⟨rfl, b3⟩
        have B3 := below_step b2 b3
        go_wp2_with fail
        go_ret2
        exact ⟨ret_nil HN.out, B3⟩
      · have t2' : ((m : Int) == 0) = false := by rw [beq_eq_false_iff_ne]; omega
        have hq := fun W => pre_at 62 (s.extract (2 + n + m) s.size) W
        rw [tail_list] at hq
        by_cases t3 : (s.data.toList.drop (2 + n + m)).head? = some 62
        · have hlt2 := head_lt t3
          rw [← Lib.size_eq] at hlt2
          rw [decide_eq_true t3] at hq
          have HQ := Lib.hid hq
          have HY := Lib.hid (hyes t0 t1 t2 t3)
          have e1 : (s.extract 1 (2 + n + m)).data.toList = (s.data.toList.take (2 + n + m)).drop 1 := by rw [Lib.extract_data, List.drop_take]
          have HE1 := Lib.hid e1
          have hez : (s.extract 1 (2 + n + m)).size ≤ 1000000000 := by rw [Lib.size_eq, e1, List.length_drop, List.length_take, ← Lib.size_eq]; omega
          obtain ⟨X, hX⟩ : ∃ X, s.extract 1 (2 + n + m) = X := ⟨_, rfl⟩
          rw [hX] at hez HE1
          clear hno hyes t1 t3 hq e1
          go_enter Tryd.func107, Tryd.ntmps107
          go_wp2_with fail
          refine (HC1.out _).mono ?_
          rintro e w2 ⟨rfl, b2⟩
          go_wp2_with fail
          refine (HP.out _).mono ?_
          rintro e w' ⟨rfl, hw'⟩
          obtain rfl := hw'.symm
          go_wp2_with fail
          refine (HC2.out _).mono ?_
          rintro e w3 ⟨rfl, b3⟩
          have B3 := below_step b2 b3
          go_wp2_with fail
          refine (HQ.out _).mono ?_
          rintro e w' ⟨rfl, hw'⟩
          obtain rfl := hw'.symm
          go_wp2_with fail
          go_quiet (fail)
          go_wp2_with fail
          go_ret2
          exact ⟨ret_auto HY.out (by rw [app_list, HE1.out]; rfl) HE1.out (by omega), B3.trans ((below_drewN _ _).mono B3.size)⟩
        · rw [decide_eq_false t3] at hq
          have HQ := Lib.hid hq
          have HN := Lib.hid (hno (Or.inr (Or.inr (Or.inr t3))))
          clear hno hyes t1 t3 hq
          go_enter Tryd.func107, Tryd.ntmps107
          go_wp2_with fail
          refine (HC1.out _).mono ?_
          rintro e w2 ⟨rfl, b2⟩
          go_wp2_with fail
          refine (HP.out _).mono ?_
          rintro e w' ⟨rfl, hw'⟩
          obtain rfl := hw'.symm
          go_wp2_with fail
          refine (HC2.out _).mono ?_
          rintro e w3 ⟨rfl, b3⟩
          have B3 := below_step b2 b3
          go_wp2_with fail
          refine (HQ.out _).mono ?_
          rintro e w' ⟨rfl, hw'⟩
          obtain rfl := hw'.symm
          go_wp2_with fail
          go_ret2
          exact ⟨ret_nil HN.out, B3⟩
    · have HN := Lib.hid (hno (Or.inr (Or.inl t1)))
      rw [decide_eq_false t1] at hp
      have HP := Lib.hid hp
      clear hp hno hyes t1
      go_enter Tryd.func107, Tryd.ntmps107
      go_wp2_with fail
      refine (HC1.out _).mono ?_
      rintro e w2 ⟨rfl, b2⟩
      go_wp2_with fail
      refine (HP.out _).mono ?_
      rintro e w' ⟨rfl, hw'⟩
      obtain rfl := hw'.symm
      go_wp2_with fail
      go_ret2
      exact ⟨ret_nil HN.out, b2⟩

/-! ### tag -/
theorem tag_signs (c : UInt8) (w : World) :
    Calls Tryd.prog 48 #[.string ⟨#[32, 10, 47]⟩, .int .i32 (c.toNat : Int)] w fun e w' => e = .returned (.bool (decide (c = 32 ∨ c = 10 ∨ c = 47))) ∧ Below w.heap.size w w' := by
  have := containsRune_nat ⟨#[32, 10, 47]⟩ c.toNat w (by unfold AllAscii; decide) (by decide) (by have := c.toNat_lt; omega)
  rw [show (ByteArray.mk #[32, 10, 47]).data.toList = [32, 10, 47] from rfl] at this
  have e : ([32, 10, 47] : List UInt8).any (fun b => b.toNat == c.toNat) = decide (c = 32 ∨ c = 10 ∨ c = 47) := allB (p := fun c => ([32, 10, 47] : List UInt8).any (fun b => b.toNat == c.toNat) = decide (c = 32 ∨ c = 10 ∨ c = 47)) (by unfold AllB; decide +kernel) c
  rw [e] at this
  exact this

theorem tag_no (s : List UInt8) (a k : Nat) (hk : amongL (s.drop a) nameSet = k) (h : amongL (s.drop a) lettersL = 0 ∨ s.drop (a + k) = [] ∨ (∃ c r, s.drop (a + k) = c :: r ∧ (c ≠ 62 ∧ c ≠ 32 ∧ c ≠ 10 ∧ c ≠ 47)) ∨ tagEnd (s.drop (a + k)) (a + k) = none) : tagAt s a = none := by
  have hk' : amongL (s.drop a) (lettersL ++ digitsL ++ [45]) = k := hk
  unfold tagAt
  rw [hk']
  split
  · rfl
  · rename_i q
    split
    · rfl
    · rename_i c r hcr
      split
      · rfl
      · rename_i hq
        rcases h with h | h | ⟨c', r', h, h2⟩ | h
        · exact absurd h q
        · rw [h] at hcr; cases hcr
        · rw [h] at hcr
          injection hcr with e1 e2
          subst e1
          exact absurd h2 hq
        · rw [hcr] at h
          rw [h]
theorem tag_yes (s : List UInt8) (a k i : Nat) (hk : amongL (s.drop a) nameSet = k) (h0 : amongL (s.drop a) lettersL ≠ 0) (c : UInt8) (r : List UInt8) (hc : s.drop (a + k) = c :: r) (h1 : ¬ (c ≠ 62 ∧ c ≠ 32 ∧ c ≠ 10 ∧ c ≠ 47))
    (hi : tagEnd (s.drop (a + k)) (a + k) = some i) : tagAt s a = some (.tag (s.take (i + 1)), i + 1) := by
  have hk' : amongL (s.drop a) (lettersL ++ digitsL ++ [45]) = k := hk
  unfold tagAt
  rw [hk', if_neg h0]
  rw [hc] at hi ⊢
  simp only
  rw [if_neg h1, hi]

set_option maxHeartbeats 16000000 in
theorem tag_two (s : ByteArray) (w : World) (h0 : 1 ≤ s.size) (hs : s.size ≤ 1000000000) (hsl : (s.data.toList.drop 1).head? = some 47) :
    Calls Tryd.prog 108 #[.string s] w fun e w' => e = .returned (.tuple #[tokVal (tagL s.data.toList), .int .i64 (tokLen (tagL s.data.toList))]) ∧ Below w.heap.size w w' := by
  have hp := fun W => pre_at 47 (s.extract 1 s.size) W
  rw [tail_list, decide_eq_true hsl] at hp
  have hTA : tagL s.data.toList = tagAt s.data.toList 2 := by unfold tagL; rw [if_pos hsl]
  have hlt := head_lt hsl
  rw [← Lib.size_eq] at hlt
  have HP := Lib.hid hp
  clear hp hsl
  have hc1 := fun W => among_letters s 2 W hs
  have hc2 := fun W => among_name s 2 W hs
  have hl1 := among_le (s.data.toList.drop 2) lettersL
  rw [List.length_drop, ← Lib.size_eq] at hl1
  have hl2 := among_le (s.data.toList.drop 2) nameSet
  rw [List.length_drop, ← Lib.size_eq] at hl2
  have hno := tag_no s.data.toList 2
  have hyes := tag_yes s.data.toList 2
  obtain ⟨n, hn⟩ : ∃ n, amongL (s.data.toList.drop 2) lettersL = n := ⟨_, rfl⟩
  obtain ⟨k, hk⟩ : ∃ k, amongL (s.data.toList.drop 2) nameSet = k := ⟨_, rfl⟩
  have hno := hno k hk
  have hyes := fun i => hyes k i hk
  rw [hn] at hc1 hno hl1 hyes
  rw [hk] at hc2 hl2
  have HC1 := Lib.hid hc1
  have HC2 := Lib.hid hc2
  clear hc1 hc2 hn hk
  by_cases t0 : n = 0
  · have HN := Lib.hid (hTA.trans (hno (Or.inl t0)))
    have t0' : ((n : Int) == 0) = true := by rw [beq_iff_eq]; omega
    clear hno hyes hTA
    go_enter Tryd.func108, Tryd.ntmps108
    go_wp2_with fail
    refine (HP.out _).mono ?_
    rintro e w' ⟨rfl, hw'⟩
    obtain rfl := hw'.symm
    go_wp2_with fail
    refine (HC1.out _).mono ?_
    rintro e w2 ⟨rfl, b2⟩
    go_wp2_with fail
    go_ret2
    exact ⟨ret_nil HN.out, b2⟩
  · have t0' : ((n : Int) == 0) = false := by rw [beq_eq_false_iff_ne]; omega
    by_cases t1 : 2 + k < s.size
    · have t1' : (2 : Int) + (k : Int) < (s.size : Int) := by omega
      have hd := drop_at s (2 + k) t1
      obtain ⟨c, hc⟩ : ∃ c, s[2 + k] = c := ⟨_, rfl⟩
      rw [hc] at hd
      have hsg := fun W => tag_signs c W
      have hcb := byte_lt c
      obtain ⟨hcb0, hcb1⟩ := hcb
      by_cases q1 : c = 62
      · subst q1
        have hq0 : ¬ ((62 : UInt8) ≠ 62 ∧ (62 : UInt8) ≠ 32 ∧ (62 : UInt8) ≠ 10 ∧ (62 : UInt8) ≠ 47) := by decide
        have hyes := fun i => hyes i t0 62 _ hd hq0
        obtain ⟨R, hR⟩ : ∃ R, tagEnd (s.data.toList.drop (2 + k)) (2 + k) = R := ⟨_, rfl⟩
        have hnone : R = none → tagL s.data.toList = none := fun h => hTA.trans (hno (Or.inr (Or.inr (Or.inr (hR.trans h)))))
        have hsome : ∀ i, R = some i → tagL s.data.toList = some (.tag (s.data.toList.take (i + 1)), i + 1) := fun i h => hTA.trans (hyes i (hR.trans h))
        have HNO := Lib.hid hnone
        have HYE := Lib.hid hsome
        have HR := Lib.hid hR
        clear hno hyes hTA hR hnone hsome hd
        go_enter Tryd.func108, Tryd.ntmps108
        go_wp2_with fail
        refine (HP.out _).mono ?_
        rintro e w' ⟨rfl, hw'⟩
        obtain rfl := hw'.symm
        go_wp2_with fail
        refine (HC1.out _).mono ?_
        rintro e w2 ⟨rfl, b2⟩
        go_wp2_with fail
        refine (HC2.out _).mono ?_
        rintro e w3 ⟨rfl, b3⟩
        have B4 := below_step b2 b3
        go_wp2_with fail
        go_loop [5] (fun u5 => ∃ i : Nat, u5 = .int .i64 i ∧ i ≤ s.size ∧ tagEnd (s.data.toList.drop i) i = R) (fun u5 => s.size - (intOf u5).toNat)
        case atStart => exact ⟨2 + k, by go_num, by omega, HR.out⟩
        case round =>
          obtain ⟨i, rfl, hi, hri⟩ := hrel
          clear HR
          by_cases hit : i < s.size
          · rw [drop_at s i hit, tagEnd] at hri
            obtain ⟨d, hdd⟩ : ∃ d, s[i] = d := ⟨_, rfl⟩
            rw [hdd] at hri
            by_cases k1 : d = 62
            · subst k1
              rw [if_pos rfl] at hri
              have HRI := Lib.hid (HYE.out i hri.symm)
              clear hri
              have hi1' : (i : Int) + 1 ≤ (s.size : Int) := by omega
              go_wp2_with fail
              go_ret2
              exact ⟨ret_tag HRI.out (by rw [Lib.extract_data]; simp) (by omega), B4⟩
            · have k1' : ((d.toNat : Int) == 62) = false := by
                rw [beq_eq_false_iff_ne]; intro e
                exact k1 (byte_eq (n := 62) (by omega))
              rw [if_neg k1] at hri
              by_cases k2 : d = 60 ∨ d = 0
              · rw [if_pos k2] at hri
                have HRI := Lib.hid (HNO.out hri.symm)
                clear hri
                rcases k2 with rfl | rfl
                all_goals
                  go_wp2_with fail
                  go_ret2
                  exact ⟨ret_nil HRI.out, B4⟩
              · rw [if_neg k2] at hri
                have HRI := Lib.hid hri
                clear hri
                have q2 : ((d.toNat : Int) == 60) = false := by
                  rw [beq_eq_false_iff_ne]; intro e
                  exact k2 (Or.inl (byte_eq (n := 60) (by omega)))
                have q3 : ((d.toNat : Int) == 0) = false := by
                  rw [beq_eq_false_iff_ne]; intro e
                  exact k2 (Or.inr (byte_eq (n := 0) (by omega)))
                go_wp2_with fail
                go_round
                case rel => exact ⟨i + 1, by go_num, by omega, HRI.out⟩
                case measure => simp [intOf]; omega
          · rw [drop_end s i (by omega), tagEnd] at hri
            have HRI := Lib.hid (HNO.out hri.symm)
            clear hri
            go_wp2_with fail
            go_ret2
            exact ⟨ret_nil HRI.out, B4⟩
      · have q1' : ((c.toNat : Int) == 62) = false := by
          rw [beq_eq_false_iff_ne]; intro e
          exact q1 (byte_eq (n := 62) (by omega))
        have q1'' : ((c.toNat : Int) != 62) = true := by rw [bne, q1']; rfl
        by_cases q2 : c = 32 ∨ c = 10 ∨ c = 47
        · have hq0 : ¬ (c ≠ 62 ∧ c ≠ 32 ∧ c ≠ 10 ∧ c ≠ 47) := by
            rintro ⟨_, a, b, d⟩
            rcases q2 with h | h | h
            · exact a h
            · exact b h
            · exact d h
          have hyes := fun i => hyes i t0 c _ hd hq0
          rw [decide_eq_true q2] at hsg
          have HSG := Lib.hid hsg
          clear q2 hsg hq0
          obtain ⟨R, hR⟩ : ∃ R, tagEnd (s.data.toList.drop (2 + k)) (2 + k) = R := ⟨_, rfl⟩
          have hnone : R = none → tagL s.data.toList = none := fun h => hTA.trans (hno (Or.inr (Or.inr (Or.inr (hR.trans h)))))
          have hsome : ∀ i, R = some i → tagL s.data.toList = some (.tag (s.data.toList.take (i + 1)), i + 1) := fun i h => hTA.trans (hyes i (hR.trans h))
          have HNO := Lib.hid hnone
          have HYE := Lib.hid hsome
          have HR := Lib.hid hR
          clear hno hyes hTA hR hnone hsome hd
          go_enter Tryd.func108, Tryd.ntmps108
          go_wp2_with fail
          refine (HP.out _).mono ?_
          rintro e w' ⟨rfl, hw'⟩
          obtain rfl := hw'.symm
          go_wp2_with fail
          refine (HC1.out _).mono ?_
          rintro e w2 ⟨rfl, b2⟩
          go_wp2_with fail
          refine (HC2.out _).mono ?_
          rintro e w3 ⟨rfl, b3⟩
          have B3 := below_step b2 b3
          go_wp2_with fail
          refine (HSG.out _).mono ?_
          rintro e w4 ⟨rfl, b4⟩
          have B4 := below_step B3 b4
          go_wp2_with fail
          go_loop [5] (fun u5 => ∃ i : Nat, u5 = .int .i64 i ∧ i ≤ s.size ∧ tagEnd (s.data.toList.drop i) i = R) (fun u5 => s.size - (intOf u5).toNat)
          case atStart => exact ⟨2 + k, by go_num, by omega, HR.out⟩
          case round =>
            obtain ⟨i, rfl, hi, hri⟩ := hrel
            clear HR
            by_cases hit : i < s.size
            · rw [drop_at s i hit, tagEnd] at hri
              obtain ⟨d, hdd⟩ : ∃ d, s[i] = d := ⟨_, rfl⟩
              rw [hdd] at hri
              by_cases k1 : d = 62
              · subst k1
                rw [if_pos rfl] at hri
                have HRI := Lib.hid (HYE.out i hri.symm)
                clear hri
                have hi1' : (i : Int) + 1 ≤ (s.size : Int) := by omega
                go_wp2_with fail
                go_ret2
                exact ⟨ret_tag HRI.out (by rw [Lib.extract_data]; simp) (by omega), B4⟩
              · have k1' : ((d.toNat : Int) == 62) = false := by
                  rw [beq_eq_false_iff_ne]; intro e
                  exact k1 (byte_eq (n := 62) (by omega))
                rw [if_neg k1] at hri
                by_cases k2 : d = 60 ∨ d = 0
                · rw [if_pos k2] at hri
                  have HRI := Lib.hid (HNO.out hri.symm)
                  clear hri
                  rcases k2 with rfl | rfl
                  all_goals
                    go_wp2_with fail
                    go_ret2
                    exact ⟨ret_nil HRI.out, B4⟩
                · rw [if_neg k2] at hri
                  have HRI := Lib.hid hri
                  clear hri
                  have q2 : ((d.toNat : Int) == 60) = false := by
                    rw [beq_eq_false_iff_ne]; intro e
                    exact k2 (Or.inl (byte_eq (n := 60) (by omega)))
                  have q3 : ((d.toNat : Int) == 0) = false := by
                    rw [beq_eq_false_iff_ne]; intro e
                    exact k2 (Or.inr (byte_eq (n := 0) (by omega)))
                  go_wp2_with fail
                  go_round
                  case rel => exact ⟨i + 1, by go_num, by omega, HRI.out⟩
                  case measure => simp [intOf]; omega
            · rw [drop_end s i (by omega), tagEnd] at hri
              have HRI := Lib.hid (HNO.out hri.symm)
              clear hri
              go_wp2_with fail
              go_ret2
              exact ⟨ret_nil HRI.out, B4⟩
        · have HN := Lib.hid (hTA.trans (hno (Or.inr (Or.inr (Or.inl ⟨c, _, hd, q1, fun h => q2 (Or.inl h), fun h => q2 (Or.inr (Or.inl h)), fun h => q2 (Or.inr (Or.inr h))⟩)))))
          rw [decide_eq_false q2] at hsg
          have HSG := Lib.hid hsg
          clear hno hyes hTA q2 hsg hd
          go_enter Tryd.func108, Tryd.ntmps108
          go_wp2_with fail
          refine (HP.out _).mono ?_
          rintro e w' ⟨rfl, hw'⟩
          obtain rfl := hw'.symm
          go_wp2_with fail
          refine (HC1.out _).mono ?_
          rintro e w2 ⟨rfl, b2⟩
          go_wp2_with fail
          refine (HC2.out _).mono ?_
          rintro e w3 ⟨rfl, b3⟩
          have B3 := below_step b2 b3
          go_wp2_with fail
          refine (HSG.out _).mono ?_
          rintro e w4 ⟨rfl, b4⟩
          have B4 := below_step B3 b4
          go_wp2_with fail
          go_ret2
          exact ⟨ret_nil HN.out, B4⟩
    · have HN := Lib.hid (hTA.trans (hno (Or.inr (Or.inl (drop_end s _ (by omega))))))
      have t1' : ¬ (2 : Int) + (k : Int) < (s.size : Int) := by omega
      clear hno hyes hTA
      go_enter Tryd.func108, Tryd.ntmps108
      go_wp2_with fail
      refine (HP.out _).mono ?_
      rintro e w' ⟨rfl, hw'⟩
      obtain rfl := hw'.symm
      go_wp2_with fail
      refine (HC1.out _).mono ?_
      rintro e w2 ⟨rfl, b2⟩
      go_wp2_with fail
      refine (HC2.out _).mono ?_
      rintro e w3 ⟨rfl, b3⟩
      have B3 := below_step b2 b3
      go_wp2_with fail
      refine wp_loop_rounds 1 ?_
      rw [rounds_succ]
      go_wp2_with fail
      go_ret2
      exact ⟨ret_nil HN.out, B3⟩

set_option maxHeartbeats 16000000 in
theorem tag_one (s : ByteArray) (w : World) (h0 : 1 ≤ s.size) (hs : s.size ≤ 1000000000) (hsl : (s.data.toList.drop 1).head? ≠ some 47) :
    Calls Tryd.prog 108 #[.string s] w fun e w' => e = .returned (.tuple #[tokVal (tagL s.data.toList), .int .i64 (tokLen (tagL s.data.toList))]) ∧ Below w.heap.size w w' := by
  have hp := fun W => pre_at 47 (s.extract 1 s.size) W
  rw [tail_list, decide_eq_false hsl] at hp
  have hTA : tagL s.data.toList = tagAt s.data.toList 1 := by unfold tagL; rw [if_neg hsl]
  have HP := Lib.hid hp
  clear hp hsl
  have hc1 := fun W => among_letters s 1 W hs
  have hc2 := fun W => among_name s 1 W hs
  have hl1 := among_le (s.data.toList.drop 1) lettersL
  rw [List.length_drop, ← Lib.size_eq] at hl1
  have hl2 := among_le (s.data.toList.drop 1) nameSet
  rw [List.length_drop, ← Lib.size_eq] at hl2
  have hno := tag_no s.data.toList 1
  have hyes := tag_yes s.data.toList 1
  obtain ⟨n, hn⟩ : ∃ n, amongL (s.data.toList.drop 1) lettersL = n := ⟨_, rfl⟩
  obtain ⟨k, hk⟩ : ∃ k, amongL (s.data.toList.drop 1) nameSet = k := ⟨_, rfl⟩
  have hno := hno k hk
  have hyes := fun i => hyes k i hk
  rw [hn] at hc1 hno hl1 hyes
  rw [hk] at hc2 hl2
  have HC1 := Lib.hid hc1
  have HC2 := Lib.hid hc2
  clear hc1 hc2 hn hk
  by_cases t0 : n = 0
  · have HN := Lib.hid (hTA.trans (hno (Or.inl t0)))
    have t0' : ((n : Int) == 0) = true := by rw [beq_iff_eq]; omega
    clear hno hyes hTA
    go_enter Tryd.func108, Tryd.ntmps108
    go_wp2_with fail
    refine (HP.out _).mono ?_
    rintro e w' ⟨rfl, hw'⟩
    obtain rfl := hw'.symm
    go_wp2_with fail
    refine (HC1.out _).mono ?_
    rintro e w2 ⟨rfl, b2⟩
    go_wp2_with fail
    go_ret2
    exact ⟨ret_nil HN.out, b2⟩
  · have t0' : ((n : Int) == 0) = false := by rw [beq_eq_false_iff_ne]; omega
    by_cases t1 : 1 + k < s.size
    · have t1' : (1 : Int) + (k : Int) < (s.size : Int) := by omega
      have hd := drop_at s (1 + k) t1
      obtain ⟨c, hc⟩ : ∃ c, s[1 + k] = c := ⟨_, rfl⟩
      rw [hc] at hd
      have hsg := fun W => tag_signs c W
      have hcb := byte_lt c
      obtain ⟨hcb0, hcb1⟩ := hcb
      by_cases q1 : c = 62
      · subst q1
        have hq0 : ¬ ((62 : UInt8) ≠ 62 ∧ (62 : UInt8) ≠ 32 ∧ (62 : UInt8) ≠ 10 ∧ (62 : UInt8) ≠ 47) := by decide
        have hyes := fun i => hyes i t0 62 _ hd hq0
        obtain ⟨R, hR⟩ : ∃ R, tagEnd (s.data.toList.drop (1 + k)) (1 + k) = R := ⟨_, rfl⟩
        have hnone : R = none → tagL s.data.toList = none := fun h => hTA.trans (hno (Or.inr (Or.inr (Or.inr (hR.trans h)))))
        have hsome : ∀ i, R = some i → tagL s.data.toList = some (.tag (s.data.toList.take (i + 1)), i + 1) := fun i h => hTA.trans (hyes i (hR.trans h))
        have HNO := Lib.hid hnone
        have HYE := Lib.hid hsome
        have HR := Lib.hid hR
        clear hno hyes hTA hR hnone hsome hd
        go_enter Tryd.func108, Tryd.ntmps108
        go_wp2_with fail
        refine (HP.out _).mono ?_
        rintro e w' ⟨rfl, hw'⟩
        obtain rfl := hw'.symm
        go_wp2_with fail
        refine (HC1.out _).mono ?_
        rintro e w2 ⟨rfl, b2⟩
        go_wp2_with fail
        refine (HC2.out _).mono ?_
        rintro e w3 ⟨rfl, b3⟩
        have B4 := below_step b2 b3
        go_wp2_with fail
        go_loop [5] (fun u5 => ∃ i : Nat, u5 = .int .i64 i ∧ i ≤ s.size ∧ tagEnd (s.data.toList.drop i) i = R) (fun u5 => s.size - (intOf u5).toNat)
        case atStart => exact ⟨1 + k, by go_num, by omega, HR.out⟩
        case round =>
          obtain ⟨i, rfl, hi, hri⟩ := hrel
          clear HR
          by_cases hit : i < s.size
          · rw [drop_at s i hit, tagEnd] at hri
            obtain ⟨d, hdd⟩ : ∃ d, s[i] = d := ⟨_, rfl⟩
            rw [hdd] at hri
            by_cases k1 : d = 62
            · subst k1
              rw [if_pos rfl] at hri
              have HRI := Lib.hid (HYE.out i hri.symm)
              clear hri
              have hi1' : (i : Int) + 1 ≤ (s.size : Int) := by omega
              go_wp2_with fail
              go_ret2
              exact ⟨ret_tag HRI.out (by rw [Lib.extract_data]; simp) (by omega), B4⟩
            · have k1' : ((d.toNat : Int) == 62) = false := by
                rw [beq_eq_false_iff_ne]; intro e
                exact k1 (byte_eq (n := 62) (by omega))
              rw [if_neg k1] at hri
              by_cases k2 : d = 60 ∨ d = 0
              · rw [if_pos k2] at hri
                have HRI := Lib.hid (HNO.out hri.symm)
                clear hri
                rcases k2 with rfl | rfl
                all_goals
                  go_wp2_with fail
                  go_ret2
                  exact ⟨ret_nil HRI.out, B4⟩
              · rw [if_neg k2] at hri
                have HRI := Lib.hid hri
                clear hri
                have q2 : ((d.toNat : Int) == 60) = false := by
                  rw [beq_eq_false_iff_ne]; intro e
                  exact k2 (Or.inl (byte_eq (n := 60) (by omega)))
                have q3 : ((d.toNat : Int) == 0) = false := by
                  rw [beq_eq_false_iff_ne]; intro e
                  exact k2 (Or.inr (byte_eq (n := 0) (by omega)))
                go_wp2_with fail
                go_round
                case rel => exact ⟨i + 1, by go_num, by omega, HRI.out⟩
                case measure => simp [intOf]; omega
          · rw [drop_end s i (by omega), tagEnd] at hri
            have HRI := Lib.hid (HNO.out hri.symm)
            clear hri
            go_wp2_with fail
            go_ret2
            exact ⟨ret_nil HRI.out, B4⟩
      · have q1' : ((c.toNat : Int) == 62) = false := by
          rw [beq_eq_false_iff_ne]; intro e
          exact q1 (byte_eq (n := 62) (by omega))
        have q1'' : ((c.toNat : Int) != 62) = true := by rw [bne, q1']; rfl
        by_cases q2 : c = 32 ∨ c = 10 ∨ c = 47
        · have hq0 : ¬ (c ≠ 62 ∧ c ≠ 32 ∧ c ≠ 10 ∧ c ≠ 47) := by
            rintro ⟨_, a, b, d⟩
            rcases q2 with h | h | h
            · exact a h
            · exact b h
            · exact d h
          have hyes := fun i => hyes i t0 c _ hd hq0
          rw [decide_eq_true q2] at hsg
          have HSG := Lib.hid hsg
          clear q2 hsg hq0
          obtain ⟨R, hR⟩ : ∃ R, tagEnd (s.data.toList.drop (1 + k)) (1 + k) = R := ⟨_, rfl⟩
          have hnone : R = none → tagL s.data.toList = none := fun h => hTA.trans (hno (Or.inr (Or.inr (Or.inr (hR.trans h)))))
          have hsome : ∀ i, R = some i → tagL s.data.toList = some (.tag (s.data.toList.take (i + 1)), i + 1) := fun i h => hTA.trans (hyes i (hR.trans h))
          have HNO := Lib.hid hnone
          have HYE := Lib.hid hsome
          have HR := Lib.hid hR
          clear hno hyes hTA hR hnone hsome hd
          go_enter Tryd.func108, Tryd.ntmps108
          go_wp2_with fail
          refine (HP.out _).mono ?_
          rintro e w' ⟨rfl, hw'⟩
          obtain rfl := hw'.symm
          go_wp2_with fail
          refine (HC1.out _).mono ?_
          rintro e w2 ⟨rfl, b2⟩
          go_wp2_with fail
          refine (HC2.out _).mono ?_
          rintro e w3 ⟨rfl, b3⟩
          have B3 := below_step b2 b3
          go_wp2_with fail
          refine (HSG.out _).mono ?_
          rintro e w4 ⟨rfl, b4⟩
          have B4 := below_step B3 b4
          go_wp2_with fail
          go_loop [5] (fun u5 => ∃ i : Nat, u5 = .int .i64 i ∧ i ≤ s.size ∧ tagEnd (s.data.toList.drop i) i = R) (fun u5 => s.size - (intOf u5).toNat)
          case atStart => exact ⟨1 + k, by go_num, by omega, HR.out⟩
          case round =>
            obtain ⟨i, rfl, hi, hri⟩ := hrel
            clear HR
            by_cases hit : i < s.size
            · rw [drop_at s i hit, tagEnd] at hri
              obtain ⟨d, hdd⟩ : ∃ d, s[i] = d := ⟨_, rfl⟩
              rw [hdd] at hri
              by_cases k1 : d = 62
              · subst k1
                rw [if_pos rfl] at hri
                have HRI := Lib.hid (HYE.out i hri.symm)
                clear hri
                have hi1' : (i : Int) + 1 ≤ (s.size : Int) := by omega
                go_wp2_with fail
                go_ret2
                exact ⟨ret_tag HRI.out (by rw [Lib.extract_data]; simp) (by omega), B4⟩
              · have k1' : ((d.toNat : Int) == 62) = false := by
                  rw [beq_eq_false_iff_ne]; intro e
                  exact k1 (byte_eq (n := 62) (by omega))
                rw [if_neg k1] at hri
                by_cases k2 : d = 60 ∨ d = 0
                · rw [if_pos k2] at hri
                  have HRI := Lib.hid (HNO.out hri.symm)
                  clear hri
                  rcases k2 with rfl | rfl
                  all_goals
                    go_wp2_with fail
                    go_ret2
                    exact ⟨ret_nil HRI.out, B4⟩
                · rw [if_neg k2] at hri
                  have HRI := Lib.hid hri
                  clear hri
                  have q2 : ((d.toNat : Int) == 60) = false := by
                    rw [beq_eq_false_iff_ne]; intro e
                    exact k2 (Or.inl (byte_eq (n := 60) (by omega)))
                  have q3 : ((d.toNat : Int) == 0) = false := by
                    rw [beq_eq_false_iff_ne]; intro e
                    exact k2 (Or.inr (byte_eq (n := 0) (by omega)))
                  go_wp2_with fail
                  go_round
                  case rel => exact ⟨i + 1, by go_num, by omega, HRI.out⟩
                  case measure => simp [intOf]; omega
            · rw [drop_end s i (by omega), tagEnd] at hri
              have HRI := Lib.hid (HNO.out hri.symm)
              clear hri
              go_wp2_with fail
              go_ret2
              exact ⟨ret_nil HRI.out, B4⟩
        · have HN := Lib.hid (hTA.trans (hno (Or.inr (Or.inr (Or.inl ⟨c, _, hd, q1, fun h => q2 (Or.inl h), fun h => q2 (Or.inr (Or.inl h)), fun h => q2 (Or.inr (Or.inr h))⟩)))))
          rw [decide_eq_false q2] at hsg
          have HSG := Lib.hid hsg
          clear hno hyes hTA q2 hsg hd
          go_enter Tryd.func108, Tryd.ntmps108
          go_wp2_with fail
          refine (HP.out _).mono ?_
          rintro e w' ⟨rfl, hw'⟩
          obtain rfl := hw'.symm
          go_wp2_with fail
          refine (HC1.out _).mono ?_
          rintro e w2 ⟨rfl, b2⟩
          go_wp2_with fail
          refine (HC2.out _).mono ?_
          rintro e w3 ⟨rfl, b3⟩
          have B3 := below_step b2 b3
          go_wp2_with fail
          refine (HSG.out _).mono ?_
          rintro e w4 ⟨rfl, b4⟩
          have B4 := below_step B3 b4
          go_wp2_with fail
          go_ret2
          exact ⟨ret_nil HN.out, B4⟩
    · have HN := Lib.hid (hTA.trans (hno (Or.inr (Or.inl (drop_end s _ (by omega))))))
      have t1' : ¬ (1 : Int) + (k : Int) < (s.size : Int) := by omega
      clear hno hyes hTA
      go_enter Tryd.func108, Tryd.ntmps108
      go_wp2_with fail
      refine (HP.out _).mono ?_
      rintro e w' ⟨rfl, hw'⟩
      obtain rfl := hw'.symm
      go_wp2_with fail
      refine (HC1.out _).mono ?_
      rintro e w2 ⟨rfl, b2⟩
      go_wp2_with fail
      refine (HC2.out _).mono ?_
      rintro e w3 ⟨rfl, b3⟩
      have B3 := below_step b2 b3
      go_wp2_with fail
      refine wp_loop_rounds 1 ?_
      rw [rounds_succ]
      go_wp2_with fail
      go_ret2
      exact ⟨ret_nil HN.out, B3⟩

theorem tag_tok (s : ByteArray) (w : World) (h0 : 1 ≤ s.size) (hs : s.size ≤ 1000000000) :
    Calls Tryd.prog 108 #[.string s] w fun e w' => e = .returned (.tuple #[tokVal (tagL s.data.toList), .int .i64 (tokLen (tagL s.data.toList))]) ∧ Below w.heap.size w w' := by
  by_cases h : (s.data.toList.drop 1).head? = some 47
  · exact tag_two s w h0 hs h
  · exact tag_one s w h0 hs h

end Go.Proofs.YtmllkffdejojbaaDoor
