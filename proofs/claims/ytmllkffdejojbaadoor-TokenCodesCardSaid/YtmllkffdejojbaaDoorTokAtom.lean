/-
  token.atom: a span's number.
-/
import Derived.Test.YtmllkffdejojbaaDoorTokAmong
namespace Go.Proofs.YtmllkffdejojbaaDoor
open Go.RowKit
set_option maxRecDepth 100000
set_option linter.unusedVariables false
set_option linter.unusedSimpArgs false

theorem pre_at (c : UInt8) (s : ByteArray) (w : World) :
    Calls Tryd.prog 41 #[.string s, .string ⟨#[c]⟩] w fun e w' => e = .returned (.bool (decide (s.data.toList.head? = some c))) ∧ w' = w := by
  have := Tryd.strings_HasPrefix s ⟨#[c]⟩ w
  rw [show (ByteArray.mk #[c]).data.toList = [c] from rfl, pre_one] at this
  exact this

theorem numOf_snoc (l : List UInt8) (c : UInt8) : numOf (l ++ [c]) = numOf l * 10 + (c.toNat - 48) := by
  unfold numOf
  rw [List.foldl_append]
  rfl
theorem numOf_lt : ∀ (l : List UInt8) (v : Nat), (∀ b ∈ l, b.toNat ≤ 57) → l.foldl (fun v c => v * 10 + (c.toNat - 48)) v < (v + 1) * 10 ^ l.length
  | [], v, _ => by simp
  | c :: l, v, h => by
    have hc := h c (List.mem_cons_self ..)
    have ih := numOf_lt l (v * 10 + (c.toNat - 48)) (fun b hb => h b (List.mem_cons_of_mem _ hb))
    rw [List.foldl_cons, List.length_cons, Nat.pow_succ]
    refine Nat.lt_of_lt_of_le ih ?_
    rw [Nat.mul_comm (10 ^ l.length) 10, ← Nat.mul_assoc]
    exact Nat.mul_le_mul_right _ (by omega)

theorem among_cons (c : UInt8) (s set : List UInt8) : amongL (c :: s) set = if set.contains c = true then amongL s set + 1 else 0 := by
  unfold amongL
  rw [List.takeWhile_cons]
  split <;> simp
theorem among_nil (set : List UInt8) : amongL [] set = 0 := rfl
theorem take_among (set : List UInt8) : ∀ (s : List UInt8), ∀ b ∈ s.take (amongL s set), set.contains b = true
  | [], b, hb => by simp at hb
  | c :: s, b, hb => by
    rw [among_cons] at hb
    split at hb
    · rename_i h
      rw [List.take_succ_cons] at hb
      rcases List.mem_cons.1 hb with e | e
      · rw [e]; exact h
      · exact take_among set s b e
    · simp at hb

theorem digit_range : ∀ b : UInt8, digitsL.contains b = true → 48 ≤ b.toNat ∧ b.toNat ≤ 57 := fun b => allB (p := fun b => digitsL.contains b = true → 48 ≤ b.toNat ∧ b.toNat ≤ 57) (by unfold AllB; decide +kernel) b

set_option maxHeartbeats 4000000 in
theorem atom_tok (s : ByteArray) (w : World) (h0 : 1 ≤ s.size) (hs : s.size ≤ 1000000000) :
    Calls Tryd.prog 79 #[.string s] w fun e w' => e = .returned (.tuple #[tokVal (atomL s.data.toList), .int .i64 (tokLen (atomL s.data.toList))]) ∧ Below w.heap.size w w' := by
  have hc := fun W => among_small digitsL (by decide) (by decide) (s.extract 1 s.size) W (by rw [tail_size]; omega)
  rw [tail_list] at hc
  have hle := among_le (s.data.toList.drop 1) digitsL
  rw [List.length_drop, ← Lib.size_eq] at hle
  have hA : atomL s.data.toList = if amongL (s.data.toList.drop 1) digitsL < 1 ∨ 4 < amongL (s.data.toList.drop 1) digitsL then none
      else if (s.data.toList.drop (1 + amongL (s.data.toList.drop 1) digitsL)).head? = some 0 then some (.atom (numOf ((s.data.toList.drop 1).take (amongL (s.data.toList.drop 1) digitsL))), amongL (s.data.toList.drop 1) digitsL + 2) else none := rfl
  have hdig := take_among digitsL (s.data.toList.drop 1)
  obtain ⟨n, hn⟩ : ∃ n, amongL (s.data.toList.drop 1) digitsL = n := ⟨_, rfl⟩
  rw [hn] at hc hle hA hdig
  have HC := Lib.hid hc
  clear hc hn
  rw [show (ByteArray.mk digitsL.toArray) = ByteArray.mk #[48, 49, 50, 51, 52, 53, 54, 55, 56, 57] from rfl] at HC
  by_cases t1 : n < 1
  · have t1' : (n : Int) < 1 := by omega
    rw [if_pos (Or.inl t1)] at hA
    have HA := Lib.hid hA
    clear hA hdig
    go_enter Tryd.func79, Tryd.ntmps79
    go_wp2_with fail
    refine (HC.out _).mono ?_
    rintro e w2 ⟨rfl, b2⟩
    go_wp2_with fail
    go_ret2
    exact ⟨ret_nil HA.out, b2⟩
  · have t1' : ¬ (n : Int) < 1 := by omega
    by_cases t2 : 4 < n
    · have t2' : (4 : Int) < (n : Int) := by omega
      rw [if_pos (Or.inr t2)] at hA
      have HA := Lib.hid hA
      clear hA hdig
      go_enter Tryd.func79, Tryd.ntmps79
      go_wp2_with fail
      refine (HC.out _).mono ?_
      rintro e w2 ⟨rfl, b2⟩
      go_wp2_with fail
      go_ret2
      exact ⟨ret_nil HA.out, b2⟩
    · have t2' : ¬ (4 : Int) < (n : Int) := by omega
      rw [if_neg (by omega)] at hA
      have hp := fun W => pre_at 0 (s.extract (1 + n) s.size) W
      rw [tail_list] at hp
      by_cases t3 : (s.data.toList.drop (1 + n)).head? = some 0
      · rw [decide_eq_true t3] at hp
        rw [if_pos t3] at hA
        obtain ⟨D, hD⟩ : ∃ D : ByteArray, s.extract 1 (1 + n) = D := ⟨_, rfl⟩
        have hDl : D.data.toList = (s.data.toList.drop 1).take n := by rw [← hD, Lib.extract_data]; congr 1; omega
        have hDz : D.size = n := by rw [Lib.size_eq, hDl, List.length_take, List.length_drop, ← Lib.size_eq]; omega
        rw [← hDl] at hA hdig
        have HP := Lib.hid hp
        have HA := Lib.hid hA
        have HDIG := Lib.hid hdig
        clear hA hdig hp hDl t3
        go_enter Tryd.func79, Tryd.ntmps79
        go_wp2_with fail
        refine (HC.out _).mono ?_
        rintro e w2 ⟨rfl, b2⟩
        go_wp2_with fail
        refine (HP.out _).mono ?_
        rintro e w' ⟨rfl, hw'⟩
        obtain rfl := hw'.symm
        go_wp2_with fail
        go_loopw [5] (fun u5 wr => ∃ pos : Nat, pos ≤ n ∧ u5 = .int .i64 (numOf (D.data.toList.take pos)) ∧ wr.heap[w2.heap.size]? = some (.stringIter D pos) ∧ Below w2.heap.size w2 wr) (fun _ wr => D.size - wr.iterPos w2.heap.size)
        case atStart =>
          refine ⟨0, by omega, rfl, ?_, (Below.refl _ w2).alloc (Nat.le_refl _) _⟩
          have := World.iter_heap w2 D 0
          simpa using this
        case round =>
          obtain ⟨pos, hpn, rfl, hit, hbw⟩ := hrel
          have hsz : w2.heap.size < wr.heap.size := (Array.getElem?_eq_some_iff.1 hit).1
          by_cases hp : pos < D.size
          · obtain ⟨c, hc⟩ : ∃ c, D[pos] = c := ⟨_, rfl⟩
            have hcd : 48 ≤ c.toNat ∧ c.toNat ≤ 57 := by
              refine digit_range c (HDIG.out c ?_)
              rw [← hc]
              have := Lib.data_getElem? D pos hp
              exact List.mem_of_getElem? this
            have hnx : ∀ ty, (Instr.next (.pointer (some ⟨w2.heap.size, 0, none⟩)) true ty).run Tryd.prog wr = _ := fun ty => Lib.run_next_any_at wr w2.heap.size D pos ty hit hp
            have hit2 := Lib.iterAt_heap wr w2.heap.size D pos (pos + (Utf8.decode D pos).2) hit
            have hbw2 := Lib.below_iterAt hbw (k := w2.heap.size) (by omega) D (pos + (Utf8.decode D pos).2)
            rw [Go.decode_ascii D pos hp (by rw [hc]; omega), hc] at hnx
            rw [Go.decode_ascii D pos hp (by rw [hc]; omega)] at hit2 hbw2
            simp only at hnx hit2 hbw2
            have hnum : numOf (D.data.toList.take (pos + 1)) = numOf (D.data.toList.take pos) * 10 + (c.toNat - 48) := by rw [take_succ D pos hp, numOf_snoc, hc]
            have hnl : numOf (D.data.toList.take pos) < 10000 := by
              have h1 := numOf_lt (D.data.toList.take pos) 0 (fun b hb => (digit_range b (HDIG.out b (List.mem_of_mem_take hb))).2)
              have h2 : (D.data.toList.take pos).length ≤ 4 := by have := List.length_take_le pos D.data.toList; omega
              have h3 : 10 ^ (D.data.toList.take pos).length ≤ 10 ^ 4 := Nat.pow_le_pow_right (by omega) h2
              unfold numOf
              omega
            obtain ⟨v, hv⟩ : ∃ v, numOf (D.data.toList.take pos) = v := ⟨_, rfl⟩
            rw [hv] at hnum hnl ⊢
            have HNUM := Lib.hid hnum
            have hw1 : IntKind.i32.wrap ((c.toNat : Int) - 48) = (c.toNat : Int) - 48 := IntWalk.i32_in _ (by omega)
            clear hnum hv hc hbw
            go_wp2_with fail
            go_roundw
            case rel => exact ⟨pos + 1, by omega, by rw [HNUM.out]; exact congrArg (Value.int .i64) (by omega), hit2, hbw2⟩
            case measure => simp only [World.iterPos, hit2, hit]; omega
          · have hnx : ∀ ty, (Instr.next (.pointer (some ⟨w2.heap.size, 0, none⟩)) true ty).run Tryd.prog wr = _ := fun ty => Lib.run_next_end_at wr w2.heap.size D pos ty hit hp
            obtain rfl : pos = D.size := by omega
            rw [take_all]
            go_wp2_with fail
            go_ret2
            exact ⟨ret_tok HA.out rfl (by omega), below_step b2 hbw⟩
      · rw [decide_eq_false t3] at hp
        rw [if_neg t3] at hA
        have HP := Lib.hid hp
        have HA := Lib.hid hA
        clear hA hdig hp t3
        go_enter Tryd.func79, Tryd.ntmps79
        go_wp2_with fail
        refine (HC.out _).mono ?_
        rintro e w2 ⟨rfl, b2⟩
        go_wp2_with fail
        refine (HP.out _).mono ?_
        rintro e _ ⟨rfl, rfl⟩
        go_wp2_with fail
        go_ret2
        exact ⟨ret_nil HA.out, b2⟩

end Go.Proofs.YtmllkffdejojbaaDoor
