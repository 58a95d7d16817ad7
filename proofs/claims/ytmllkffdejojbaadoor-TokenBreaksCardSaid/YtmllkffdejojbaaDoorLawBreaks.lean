/-
  TokenBreaks: two blanks and more at the end of a line make a hard break, as a backslash does; fewer a soft one; blanks at the beginning of the next one go: the walk of the law.
-/
import Derived.Test.YtmllkffdejojbaaDoorAlive12
import Derived.Test.YtmllkffdejojbaaDoorTokLaw
namespace Go.Proofs.YtmllkffdejojbaaDoor
open Go.RowKit
set_option maxRecDepth 100000
set_option linter.unusedVariables false
set_option linter.unusedSimpArgs false

theorem rep_snoc' (n : Nat) (x : UInt8) : List.replicate (n + 1) x = List.replicate n x ++ [x] := by
  rw [List.replicate_succ']

/-- The head of the law's text: a letter, and a backslash or none. -/
def brHead (slash : Bool) : List UInt8 := if slash then [97, 92] else [97]
theorem br_text (slash : Bool) (n m : Nat) (hn : slash = true → n = 0) : brHead slash ++ (List.replicate n 32 ++ 10 :: (List.replicate m 32 ++ [98])) = 97 :: breakTail slash n m := by
  unfold brHead breakTail
  cases slash
  · simp
  · rw [hn rfl]; simp

set_option maxHeartbeats 4000000 in
theorem law_breaks (p q : Int) (slash : Bool) (hp : (Lit.int .i64 p).wf = true) (hq : (Lit.int .i64 q).wf = true) (w : World) (hE : Env w) :
    Calls Tryd.prog 17 #[.int .i64 p, .int .i64 q, .bool slash] w fun e w' => e = .returned (.bool true) ∧ Below w.heap.size w w' := by
  by_cases hr : 0 ≤ p ∧ p ≤ 6 ∧ 0 ≤ q ∧ q ≤ 6
  · obtain ⟨h1, h2, h3, h4⟩ := hr
    obtain ⟨a, rfl⟩ : ∃ a : Nat, p = a := ⟨p.toNat, by omega⟩
    obtain ⟨m, rfl⟩ : ∃ b : Nat, q = b := ⟨q.toNat, by omega⟩
    have HE := Lib.hid hE
    clear hE hp hq
    have t1 : ¬ (a : Int) < 0 := by omega
    have t2 : ¬ (6 : Int) < (a : Int) := by omega
    have t3 : ¬ (m : Int) < 0 := by omega
    have t4 : ¬ (6 : Int) < (m : Int) := by omega
    cases slash
    · by_cases ha : 2 ≤ a
      · have ha' : (2 : Int) ≤ (a : Int) := by omega
        have HH := Lib.hid (decide_eq_true ha)
        go_enter Tryd.func17, Tryd.ntmps17
        go_wp2_with fail
        refine (alive12 _ HE.out).mono ?_
        rintro e w1 ⟨rfl, b1⟩
        go_wp2_with fail
        go_loop [7, 8] (fun u7 u8 => ∃ (k : Nat) (S : ByteArray), k ≤ a ∧ u8 = .int .i64 k ∧ u7 = .string S ∧ S.data.toList = brHead false ++ List.replicate k 32 ∧ S.size ≤ 2 + k) (fun _ u8 => a - (intOf u8).toNat)
        case atStart => exact ⟨0, _, by omega, rfl, rfl, by first | rfl | (simp [brHead]; done), by first | decide | (simp; done)⟩
        case round =>
          obtain ⟨k, S, hk, rfl, rfl, hS, hSz⟩ := hrel
          have HS := Lib.hid hS
          clear hS
          by_cases hka : k < a
          · first
              | (exfalso; omega)
              | (go_wp2_with fail
                 go_round
                 case rel =>
                   refine ⟨k + 1, _, by omega, by go_num, rfl, ?_, ?_⟩
                   · rw [app_list, HS.out, rep_snoc' k]; simp
                   · rw [Lib.size_eq, app_list, List.length_append, ← Lib.size_eq]; simp; omega
                 case measure => simp [intOf]; omega)
          · obtain rfl : a = k := by omega
            go_wp2_with fail
            go_loop [7, 9] (fun u7 u9 => ∃ (j : Nat) (Z : ByteArray), j ≤ m ∧ u9 = .int .i64 j ∧ u7 = .string Z ∧ Z.data.toList = brHead false ++ (List.replicate a 32 ++ 10 :: List.replicate j 32) ∧ Z.size ≤ 12 + j) (fun _ u9 => m - (intOf u9).toNat)
            case atStart => exact ⟨0, _, by omega, rfl, rfl, by rw [app_list, HS.out]; simp, by rw [Lib.size_eq, app_list, List.length_append, ← Lib.size_eq]; simp; omega⟩
            case round =>
              obtain ⟨j, Z, hj, rfl, rfl, hZ, hZz⟩ := hrel
              have HZ := Lib.hid hZ
              clear hZ
              by_cases hjb : j < m
              · go_wp2_with fail
                go_round
                case rel =>
                  refine ⟨j + 1, _, by omega, by go_num, rfl, ?_, ?_⟩
                  · rw [app_list, HZ.out, rep_snoc' j]; simp
                  · rw [Lib.size_eq, app_list, List.length_append, ← Lib.size_eq]; simp; omega
                case measure => simp [intOf]; omega
              · obtain rfl : j = m := by omega
                have c1 : ∀ (Y : ByteArray) W, Y.data.toList = brHead false ++ (List.replicate a 32 ++ 10 :: (List.replicate j 32 ++ [98])) → Env W → Calls Tryd.prog 34 #[.string Y] W fun e w' => ∃ g cap, e = .returned (.slice (some ⟨g, 0, none⟩) 3 cap) ∧ g < w'.heap.size ∧ (w'.cell? ⟨g, 1, none⟩ = some (.iface 98 (.agg #[.bool true])) ∧ w'.cell? ⟨g, 2, none⟩ = some (.iface 88 (.string ⟨#[98]⟩))) ∧ Below W.heap.size W w' := fun Y W hY hW => by
                  have hYz : Y.size = (brHead false).length + (a + (1 + (j + 1))) := by rw [Lib.size_eq, hY]; simp; omega
                  have hbl : (brHead false).length ≤ 2 := by decide
                  refine (all_tok Y W hW (by omega)).mono ?_
                  rintro e w' ⟨v, rfl, hown, hb⟩
                  rw [hY, br_text _ _ _ (by intro h; first | rfl | cases h), show Y.size + 1 = (Y.size - 2) + 3 by omega, all_breaks (Y.size - 2) false a j] at hown
                  obtain ⟨g, cap, rfl, hg, hc⟩ := toks_at (w := W) hown (by simp)
                  exact ⟨g, cap, rfl, hg, ⟨hc 1 (.brk true) (by first | rfl | (rw [HH.out]; rfl)), hc 2 (.word [98]) rfl⟩, hb⟩
                have k1 : ∀ W, Calls Tryd.prog 35 #[.iface 98 (.agg #[.bool true])] W fun e w' => e = .returned (.agg #[.int .u8 98, .string ⟨#[]⟩, .string ⟨#[]⟩, .int .i64 (if true then 1 else 0)]) ∧ Below W.heap.size W w' := fun W => tok_tok (.brk true) W
                have k2 : ∀ W, Calls Tryd.prog 35 #[.iface 88 (.string ⟨#[98]⟩)] W fun e w' => e = .returned (.agg #[.int .u8 119, .string ⟨#[98]⟩, .string ⟨#[]⟩, .int .i64 0]) ∧ Below W.heap.size W w' := fun W => tok_tok (.word [98]) W
                simp only [Bool.false_eq_true, if_true, if_false] at k1
                have C1 := Lib.hid c1
                have K1 := Lib.hid k1
                have K2 := Lib.hid k2
                have g1 := tok_field1
                clear c1 k1 k2
                go_wp2_with fail
                refine (C1.out _ _ (by rw [app_list, HZ.out]; simp) (HE.out.below b1)).mono ?_
                rintro e w2 ⟨g, cap, rfl, hg, ⟨d1, d2⟩, b2⟩
                have B2 := below_step b1 b2
                go_wp2_with fail
                refine (K1.out _).mono ?_
                rintro e w3 ⟨rfl, b3⟩
                have d2 := (b3.cell (p := ⟨g, 2, none⟩) hg).trans d2
                have B3 := below_step B2 b3
                clear d1
                go_wp2_with fail
                refine (K2.out _).mono ?_
                rintro e w4 ⟨rfl, b4⟩
                have B4 := below_step B3 b4
                go_wp2_with fail
                go_ret
                exact ⟨ret_bool (by first | rfl | (simp [Lib.toList_data]; done)), B4⟩
      · have ha' : ¬ (2 : Int) ≤ (a : Int) := by omega
        have HH := Lib.hid (decide_eq_false ha)
        go_enter Tryd.func17, Tryd.ntmps17
        go_wp2_with fail
        refine (alive12 _ HE.out).mono ?_
        rintro e w1 ⟨rfl, b1⟩
        go_wp2_with fail
        go_loop [7, 8] (fun u7 u8 => ∃ (k : Nat) (S : ByteArray), k ≤ a ∧ u8 = .int .i64 k ∧ u7 = .string S ∧ S.data.toList = brHead false ++ List.replicate k 32 ∧ S.size ≤ 2 + k) (fun _ u8 => a - (intOf u8).toNat)
        case atStart => exact ⟨0, _, by omega, rfl, rfl, by first | rfl | (simp [brHead]; done), by first | decide | (simp; done)⟩
        case round =>
          obtain ⟨k, S, hk, rfl, rfl, hS, hSz⟩ := hrel
          have HS := Lib.hid hS
          clear hS
          by_cases hka : k < a
          · first
              | (exfalso; omega)
              | (go_wp2_with fail
                 go_round
                 case rel =>
                   refine ⟨k + 1, _, by omega, by go_num, rfl, ?_, ?_⟩
                   · rw [app_list, HS.out, rep_snoc' k]; simp
                   · rw [Lib.size_eq, app_list, List.length_append, ← Lib.size_eq]; simp; omega
                 case measure => simp [intOf]; omega)
          · obtain rfl : a = k := by omega
            go_wp2_with fail
            go_loop [7, 9] (fun u7 u9 => ∃ (j : Nat) (Z : ByteArray), j ≤ m ∧ u9 = .int .i64 j ∧ u7 = .string Z ∧ Z.data.toList = brHead false ++ (List.replicate a 32 ++ 10 :: List.replicate j 32) ∧ Z.size ≤ 12 + j) (fun _ u9 => m - (intOf u9).toNat)
            case atStart => exact ⟨0, _, by omega, rfl, rfl, by rw [app_list, HS.out]; simp, by rw [Lib.size_eq, app_list, List.length_append, ← Lib.size_eq]; simp; omega⟩
            case round =>
              obtain ⟨j, Z, hj, rfl, rfl, hZ, hZz⟩ := hrel
              have HZ := Lib.hid hZ
              clear hZ
              by_cases hjb : j < m
              · go_wp2_with fail
                go_round
                case rel =>
                  refine ⟨j + 1, _, by omega, by go_num, rfl, ?_, ?_⟩
                  · rw [app_list, HZ.out, rep_snoc' j]; simp
                  · rw [Lib.size_eq, app_list, List.length_append, ← Lib.size_eq]; simp; omega
                case measure => simp [intOf]; omega
              · obtain rfl : j = m := by omega
                have c1 : ∀ (Y : ByteArray) W, Y.data.toList = brHead false ++ (List.replicate a 32 ++ 10 :: (List.replicate j 32 ++ [98])) → Env W → Calls Tryd.prog 34 #[.string Y] W fun e w' => ∃ g cap, e = .returned (.slice (some ⟨g, 0, none⟩) 3 cap) ∧ g < w'.heap.size ∧ (w'.cell? ⟨g, 1, none⟩ = some (.iface 98 (.agg #[.bool false])) ∧ w'.cell? ⟨g, 2, none⟩ = some (.iface 88 (.string ⟨#[98]⟩))) ∧ Below W.heap.size W w' := fun Y W hY hW => by
                  have hYz : Y.size = (brHead false).length + (a + (1 + (j + 1))) := by rw [Lib.size_eq, hY]; simp; omega
                  have hbl : (brHead false).length ≤ 2 := by decide
                  refine (all_tok Y W hW (by omega)).mono ?_
                  rintro e w' ⟨v, rfl, hown, hb⟩
                  rw [hY, br_text _ _ _ (by intro h; first | rfl | cases h), show Y.size + 1 = (Y.size - 2) + 3 by omega, all_breaks (Y.size - 2) false a j] at hown
                  obtain ⟨g, cap, rfl, hg, hc⟩ := toks_at (w := W) hown (by simp)
                  exact ⟨g, cap, rfl, hg, ⟨hc 1 (.brk false) (by first | rfl | (rw [HH.out]; rfl)), hc 2 (.word [98]) rfl⟩, hb⟩
                have k1 : ∀ W, Calls Tryd.prog 35 #[.iface 98 (.agg #[.bool false])] W fun e w' => e = .returned (.agg #[.int .u8 98, .string ⟨#[]⟩, .string ⟨#[]⟩, .int .i64 (if false then 1 else 0)]) ∧ Below W.heap.size W w' := fun W => tok_tok (.brk false) W
                have k2 : ∀ W, Calls Tryd.prog 35 #[.iface 88 (.string ⟨#[98]⟩)] W fun e w' => e = .returned (.agg #[.int .u8 119, .string ⟨#[98]⟩, .string ⟨#[]⟩, .int .i64 0]) ∧ Below W.heap.size W w' := fun W => tok_tok (.word [98]) W
                simp only [Bool.false_eq_true, if_true, if_false] at k1
                have C1 := Lib.hid c1
                have K1 := Lib.hid k1
                have K2 := Lib.hid k2
                have g1 := tok_field1
                clear c1 k1 k2
                go_wp2_with fail
                refine (C1.out _ _ (by rw [app_list, HZ.out]; simp) (HE.out.below b1)).mono ?_
                rintro e w2 ⟨g, cap, rfl, hg, ⟨d1, d2⟩, b2⟩
                have B2 := below_step b1 b2
                go_wp2_with fail
                refine (K1.out _).mono ?_
                rintro e w3 ⟨rfl, b3⟩
                have d2 := (b3.cell (p := ⟨g, 2, none⟩) hg).trans d2
                have B3 := below_step B2 b3
                clear d1
                go_wp2_with fail
                refine (K2.out _).mono ?_
                rintro e w4 ⟨rfl, b4⟩
                have B4 := below_step B3 b4
                go_wp2_with fail
                go_ret
                exact ⟨ret_bool (by first | rfl | (simp [Lib.toList_data]; done)), B4⟩
    · have HH := Lib.hid (rfl : true = true)
      go_enter Tryd.func17, Tryd.ntmps17
      go_wp2_with fail
      refine (alive12 _ HE.out).mono ?_
      rintro e w1 ⟨rfl, b1⟩
      go_wp2_with fail
      go_loop [7, 8] (fun u7 u8 => ∃ (k : Nat) (S : ByteArray), k ≤ 0 ∧ u8 = .int .i64 k ∧ u7 = .string S ∧ S.data.toList = brHead true ++ List.replicate k 32 ∧ S.size ≤ 2 + k) (fun _ u8 => 0 - (intOf u8).toNat)
      case atStart => exact ⟨0, _, by omega, rfl, rfl, by first | rfl | (simp [brHead]; done), by first | decide | (simp; done)⟩
      case round =>
        obtain ⟨k, S, hk, rfl, rfl, hS, hSz⟩ := hrel
        have HS := Lib.hid hS
        clear hS
        by_cases hka : k < 0
        · first
            | (exfalso; omega)
            | (go_wp2_with fail
               go_round
               case rel =>
                 refine ⟨k + 1, _, by omega, by go_num, rfl, ?_, ?_⟩
                 · rw [app_list, HS.out, rep_snoc' k]; simp
                 · rw [Lib.size_eq, app_list, List.length_append, ← Lib.size_eq]; simp; omega
               case measure => simp [intOf]; omega)
        · obtain rfl : 0 = k := by omega
          go_wp2_with fail
          go_loop [7, 9] (fun u7 u9 => ∃ (j : Nat) (Z : ByteArray), j ≤ m ∧ u9 = .int .i64 j ∧ u7 = .string Z ∧ Z.data.toList = brHead true ++ (List.replicate 0 32 ++ 10 :: List.replicate j 32) ∧ Z.size ≤ 12 + j) (fun _ u9 => m - (intOf u9).toNat)
          case atStart => exact ⟨0, _, by omega, rfl, rfl, by rw [app_list, HS.out]; simp, by rw [Lib.size_eq, app_list, List.length_append, ← Lib.size_eq]; simp; omega⟩
          case round =>
            obtain ⟨j, Z, hj, rfl, rfl, hZ, hZz⟩ := hrel
            have HZ := Lib.hid hZ
            clear hZ
            by_cases hjb : j < m
            · go_wp2_with fail
              go_round
              case rel =>
                refine ⟨j + 1, _, by omega, by go_num, rfl, ?_, ?_⟩
                · rw [app_list, HZ.out, rep_snoc' j]; simp
                · rw [Lib.size_eq, app_list, List.length_append, ← Lib.size_eq]; simp; omega
              case measure => simp [intOf]; omega
            · obtain rfl : j = m := by omega
              have c1 : ∀ (Y : ByteArray) W, Y.data.toList = brHead true ++ (List.replicate 0 32 ++ 10 :: (List.replicate j 32 ++ [98])) → Env W → Calls Tryd.prog 34 #[.string Y] W fun e w' => ∃ g cap, e = .returned (.slice (some ⟨g, 0, none⟩) 3 cap) ∧ g < w'.heap.size ∧ (w'.cell? ⟨g, 1, none⟩ = some (.iface 98 (.agg #[.bool true])) ∧ w'.cell? ⟨g, 2, none⟩ = some (.iface 88 (.string ⟨#[98]⟩))) ∧ Below W.heap.size W w' := fun Y W hY hW => by
                have hYz : Y.size = (brHead true).length + (0 + (1 + (j + 1))) := by rw [Lib.size_eq, hY]; simp; omega
                have hbl : (brHead true).length ≤ 2 := by decide
                refine (all_tok Y W hW (by omega)).mono ?_
                rintro e w' ⟨v, rfl, hown, hb⟩
                rw [hY, br_text _ _ _ (by intro h; first | rfl | cases h), show Y.size + 1 = (Y.size - 2) + 3 by omega, all_breaks (Y.size - 2) true 0 j] at hown
                obtain ⟨g, cap, rfl, hg, hc⟩ := toks_at (w := W) hown (by simp)
                exact ⟨g, cap, rfl, hg, ⟨hc 1 (.brk true) (by first | rfl | (rw [HH.out]; rfl)), hc 2 (.word [98]) rfl⟩, hb⟩
              have k1 : ∀ W, Calls Tryd.prog 35 #[.iface 98 (.agg #[.bool true])] W fun e w' => e = .returned (.agg #[.int .u8 98, .string ⟨#[]⟩, .string ⟨#[]⟩, .int .i64 (if true then 1 else 0)]) ∧ Below W.heap.size W w' := fun W => tok_tok (.brk true) W
              have k2 : ∀ W, Calls Tryd.prog 35 #[.iface 88 (.string ⟨#[98]⟩)] W fun e w' => e = .returned (.agg #[.int .u8 119, .string ⟨#[98]⟩, .string ⟨#[]⟩, .int .i64 0]) ∧ Below W.heap.size W w' := fun W => tok_tok (.word [98]) W
              simp only [Bool.false_eq_true, if_true, if_false] at k1
              have C1 := Lib.hid c1
              have K1 := Lib.hid k1
              have K2 := Lib.hid k2
              have g1 := tok_field1
              clear c1 k1 k2
              go_wp2_with fail
              refine (C1.out _ _ (by rw [app_list, HZ.out]; simp) (HE.out.below b1)).mono ?_
              rintro e w2 ⟨g, cap, rfl, hg, ⟨d1, d2⟩, b2⟩
              have B2 := below_step b1 b2
              go_wp2_with fail
              refine (K1.out _).mono ?_
              rintro e w3 ⟨rfl, b3⟩
              have d2 := (b3.cell (p := ⟨g, 2, none⟩) hg).trans d2
              have B3 := below_step B2 b3
              clear d1
              go_wp2_with fail
              refine (K2.out _).mono ?_
              rintro e w4 ⟨rfl, b4⟩
              have B4 := below_step B3 b4
              go_wp2_with fail
              go_ret
              exact ⟨ret_bool (by first | rfl | (simp [Lib.toList_data]; done)), B4⟩
  · have hcs : p < 0 ∨ (¬ p < 0 ∧ 6 < p) ∨ (¬ p < 0 ∧ ¬ 6 < p ∧ q < 0) ∨ (¬ p < 0 ∧ ¬ 6 < p ∧ ¬ q < 0 ∧ 6 < q) := by omega
    clear hr
    rcases hcs with t1 | ⟨t1, t2⟩ | ⟨t1, t2, t3⟩ | ⟨t1, t2, t3, t4⟩
    · go_enter Tryd.func17, Tryd.ntmps17
      go_wp2_with fail
      refine (alive12 _ hE).mono ?_
      rintro e w1 ⟨rfl, b1⟩
      go_wp2_with fail
      go_ret
      exact ⟨rfl, b1⟩
    · go_enter Tryd.func17, Tryd.ntmps17
      go_wp2_with fail
      refine (alive12 _ hE).mono ?_
      rintro e w1 ⟨rfl, b1⟩
      go_wp2_with fail
      go_ret
      exact ⟨rfl, b1⟩
    · go_enter Tryd.func17, Tryd.ntmps17
      go_wp2_with fail
      refine (alive12 _ hE).mono ?_
      rintro e w1 ⟨rfl, b1⟩
      go_wp2_with fail
      go_ret
      exact ⟨rfl, b1⟩
    · go_enter Tryd.func17, Tryd.ntmps17
      go_wp2_with fail
      refine (alive12 _ hE).mono ?_
      rintro e w1 ⟨rfl, b1⟩
      go_wp2_with fail
      go_ret
      exact ⟨rfl, b1⟩

end Go.Proofs.YtmllkffdejojbaaDoor
