/-
  TokenRuns: rows of stars, and of underscores, are one token each; two kinds are two: the walk of the law.
-/
import Derived.Test.YtmllkffdejojbaaDoorAlive12
import Derived.Test.YtmllkffdejojbaaDoorTokLaw
namespace Go.Proofs.YtmllkffdejojbaaDoor
open Go.RowKit
set_option maxRecDepth 100000
set_option linter.unusedVariables false
set_option linter.unusedSimpArgs false

theorem rep_snoc (n : Nat) (x : UInt8) : List.replicate (n + 1) x = List.replicate n x ++ [x] := by
  rw [List.replicate_succ']

set_option maxHeartbeats 4000000 in
theorem law_runs (p q : Int) (under : Bool) (hp : (Lit.int .i64 p).wf = true) (hq : (Lit.int .i64 q).wf = true) (w : World) (hE : Env w) :
    Calls Tryd.prog 16 #[.int .i64 p, .int .i64 q, .bool under] w fun e w' => e = .returned (.bool true) ∧ Below w.heap.size w w' := by
  by_cases hr : 1 ≤ p ∧ 1 ≤ q ∧ p ≤ 20 ∧ q ≤ 20
  · obtain ⟨h1, h2, h3, h4⟩ := hr
    obtain ⟨a, rfl⟩ : ∃ a : Nat, p = a := ⟨p.toNat, by omega⟩
    obtain ⟨b, rfl⟩ : ∃ b : Nat, q = b := ⟨q.toNat, by omega⟩
    have HE := Lib.hid hE
    clear hE hp hq
    have t1 : ¬ (a : Int) < 1 := by omega
    have t2 : ¬ (b : Int) < 1 := by omega
    have t3 : ¬ (20 : Int) < (a : Int) := by omega
    have t4 : ¬ (20 : Int) < (b : Int) := by omega
    cases under
    · go_enter Tryd.func16, Tryd.ntmps16
      go_wp2_with fail
      refine (alive12 _ HE.out).mono ?_
      rintro e w1 ⟨rfl, b1⟩
      go_wp2_with fail
      go_loop [9, 10] (fun u9 u10 => ∃ (k : Nat) (S : ByteArray), k ≤ a ∧ u10 = .int .i64 k ∧ u9 = .string S ∧ S.data.toList = List.replicate k 42 ∧ S.size = k) (fun _ u10 => a - (intOf u10).toNat)
      case atStart => exact ⟨0, ⟨#[]⟩, by omega, rfl, rfl, rfl, rfl⟩
      case round =>
        obtain ⟨k, S, hk, rfl, rfl, hS, hSz⟩ := hrel
        have HS := Lib.hid hS
        have hSz2 : S.size ≤ 20 := by omega
        have HSZ := Lib.hid hSz
        clear hS hSz
        by_cases hka : k < a
        · go_wp2_with fail
          go_round
          case rel =>
            refine ⟨k + 1, _, by omega, by go_num, rfl, ?_, ?_⟩
            · rw [app_list, HS.out, rep_snoc]
            · rw [Lib.size_eq, app_list, List.length_append, ← Lib.size_eq, HSZ.out]; rfl
          case measure => simp [intOf]; omega
        · obtain rfl : k = a := by omega
          go_wp2_with fail
          go_loop [9, 11] (fun u9 u11 => ∃ (j : Nat) (Z : ByteArray), j ≤ b ∧ u11 = .int .i64 j ∧ u9 = .string Z ∧ Z.data.toList = List.replicate k 42 ++ List.replicate j 95 ∧ Z.size = k + j) (fun _ u11 => b - (intOf u11).toNat)
          case atStart => exact ⟨0, S, by omega, rfl, rfl, by rw [HS.out]; simp, HSZ.out⟩
          case round =>
            obtain ⟨j, Z, hj, rfl, rfl, hZ, hZz⟩ := hrel
            have HZ := Lib.hid hZ
            have hZz2 : Z.size ≤ 40 := by omega
            have HZZ := Lib.hid hZz
            clear hZ hZz
            by_cases hjb : j < b
            · go_wp2_with fail
              go_round
              case rel =>
                refine ⟨j + 1, _, by omega, by go_num, rfl, ?_, ?_⟩
                · rw [app_list, HZ.out, rep_snoc j]; simp
                · rw [Lib.size_eq, app_list, List.length_append, ← Lib.size_eq, HZZ.out]; rfl
              case measure => simp [intOf]; omega
            · obtain rfl : j = b := by omega
              have c1 : ∀ W, Env W → Calls Tryd.prog 34 #[.string Z] W fun e w' => ∃ g cap, e = .returned (.slice (some ⟨g, 0, none⟩) 2 cap) ∧ g < w'.heap.size ∧ (w'.cell? ⟨g, 0, none⟩ = some (.iface 94 (.agg #[.int .u8 42, .int .i64 k])) ∧ w'.cell? ⟨g, 1, none⟩ = some (.iface 94 (.agg #[.int .u8 95, .int .i64 j]))) ∧ Below W.heap.size W w' := fun W hW => by
                refine (all_tok Z W hW (by omega)).mono ?_
                rintro e w' ⟨v, rfl, hown, hb⟩
                rw [HZ.out, show Z.size + 1 = (Z.size - 1) + 2 by have := HZZ.out; omega, all_runs (Z.size - 1) k j 42 95 (by decide) (by omega) (by omega)] at hown
                obtain ⟨g, cap, rfl, hg, hc⟩ := toks_at (w := W) hown (by simp)
                exact ⟨g, cap, rfl, hg, ⟨hc 0 _ rfl, hc 1 _ rfl⟩, hb⟩
              have k1 : ∀ W, Calls Tryd.prog 35 #[.iface 94 (.agg #[.int .u8 42, .int .i64 k])] W fun e w' => e = .returned (.agg #[.int .u8 114, .string ⟨#[42]⟩, .string ⟨#[]⟩, .int .i64 k]) ∧ Below W.heap.size W w' := fun W => tok_tok (.run 42 k) W
              have k2 : ∀ W, Calls Tryd.prog 35 #[.iface 94 (.agg #[.int .u8 95, .int .i64 j])] W fun e w' => e = .returned (.agg #[.int .u8 114, .string ⟨#[95]⟩, .string ⟨#[]⟩, .int .i64 j]) ∧ Below W.heap.size W w' := fun W => tok_tok (.run 95 j) W
              have C1 := Lib.hid c1
              have K1 := Lib.hid k1
              have K2 := Lib.hid k2
              clear c1 k1 k2
              go_wp2_with fail
              refine (C1.out _ (HE.out.below b1)).mono ?_
              rintro e w2 ⟨g, cap, rfl, hg, ⟨d0, d1⟩, b2⟩
              have B2 := below_step b1 b2
              go_wp2_with fail
              refine (K1.out _).mono ?_
              rintro e w3 ⟨rfl, b3⟩
              have d1 := (b3.cell (p := ⟨g, 1, none⟩) hg).trans d1
              have B3 := below_step B2 b3
              clear d0
              go_wp2_with fail
              refine (K2.out _).mono ?_
              rintro e w4 ⟨rfl, b4⟩
              have B4 := below_step B3 b4
              go_wp2_with fail
              go_ret
              exact ⟨ret_bool (by first | rfl | (simp [Lib.toList_data]; done)), B4⟩
    · go_enter Tryd.func16, Tryd.ntmps16
      go_wp2_with fail
      refine (alive12 _ HE.out).mono ?_
      rintro e w1 ⟨rfl, b1⟩
      go_wp2_with fail
      go_loop [9, 10] (fun u9 u10 => ∃ (k : Nat) (S : ByteArray), k ≤ a ∧ u10 = .int .i64 k ∧ u9 = .string S ∧ S.data.toList = List.replicate k 95 ∧ S.size = k) (fun _ u10 => a - (intOf u10).toNat)
      case atStart => exact ⟨0, ⟨#[]⟩, by omega, rfl, rfl, rfl, rfl⟩
      case round =>
        obtain ⟨k, S, hk, rfl, rfl, hS, hSz⟩ := hrel
        have HS := Lib.hid hS
        have hSz2 : S.size ≤ 20 := by omega
        have HSZ := Lib.hid hSz
        clear hS hSz
        by_cases hka : k < a
        · go_wp2_with fail
          go_round
          case rel =>
            refine ⟨k + 1, _, by omega, by go_num, rfl, ?_, ?_⟩
            · rw [app_list, HS.out, rep_snoc]
            · rw [Lib.size_eq, app_list, List.length_append, ← Lib.size_eq, HSZ.out]; rfl
          case measure => simp [intOf]; omega
        · obtain rfl : k = a := by omega
          go_wp2_with fail
          go_loop [9, 11] (fun u9 u11 => ∃ (j : Nat) (Z : ByteArray), j ≤ b ∧ u11 = .int .i64 j ∧ u9 = .string Z ∧ Z.data.toList = List.replicate k 95 ++ List.replicate j 42 ∧ Z.size = k + j) (fun _ u11 => b - (intOf u11).toNat)
          case atStart => exact ⟨0, S, by omega, rfl, rfl, by rw [HS.out]; simp, HSZ.out⟩
          case round =>
            obtain ⟨j, Z, hj, rfl, rfl, hZ, hZz⟩ := hrel
            have HZ := Lib.hid hZ
            have hZz2 : Z.size ≤ 40 := by omega
            have HZZ := Lib.hid hZz
            clear hZ hZz
            by_cases hjb : j < b
            · go_wp2_with fail
              go_round
              case rel =>
                refine ⟨j + 1, _, by omega, by go_num, rfl, ?_, ?_⟩
                · rw [app_list, HZ.out, rep_snoc j]; simp
                · rw [Lib.size_eq, app_list, List.length_append, ← Lib.size_eq, HZZ.out]; rfl
              case measure => simp [intOf]; omega
            · obtain rfl : j = b := by omega
              have c1 : ∀ W, Env W → Calls Tryd.prog 34 #[.string Z] W fun e w' => ∃ g cap, e = .returned (.slice (some ⟨g, 0, none⟩) 2 cap) ∧ g < w'.heap.size ∧ (w'.cell? ⟨g, 0, none⟩ = some (.iface 94 (.agg #[.int .u8 95, .int .i64 k])) ∧ w'.cell? ⟨g, 1, none⟩ = some (.iface 94 (.agg #[.int .u8 42, .int .i64 j]))) ∧ Below W.heap.size W w' := fun W hW => by
                refine (all_tok Z W hW (by omega)).mono ?_
                rintro e w' ⟨v, rfl, hown, hb⟩
                rw [HZ.out, show Z.size + 1 = (Z.size - 1) + 2 by have := HZZ.out; omega, all_runs (Z.size - 1) k j 95 42 (by decide) (by omega) (by omega)] at hown
                obtain ⟨g, cap, rfl, hg, hc⟩ := toks_at (w := W) hown (by simp)
                exact ⟨g, cap, rfl, hg, ⟨hc 0 _ rfl, hc 1 _ rfl⟩, hb⟩
              have k1 : ∀ W, Calls Tryd.prog 35 #[.iface 94 (.agg #[.int .u8 95, .int .i64 k])] W fun e w' => e = .returned (.agg #[.int .u8 114, .string ⟨#[95]⟩, .string ⟨#[]⟩, .int .i64 k]) ∧ Below W.heap.size W w' := fun W => tok_tok (.run 95 k) W
              have k2 : ∀ W, Calls Tryd.prog 35 #[.iface 94 (.agg #[.int .u8 42, .int .i64 j])] W fun e w' => e = .returned (.agg #[.int .u8 114, .string ⟨#[42]⟩, .string ⟨#[]⟩, .int .i64 j]) ∧ Below W.heap.size W w' := fun W => tok_tok (.run 42 j) W
              have C1 := Lib.hid c1
              have K1 := Lib.hid k1
              have K2 := Lib.hid k2
              clear c1 k1 k2
              go_wp2_with fail
              refine (C1.out _ (HE.out.below b1)).mono ?_
              rintro e w2 ⟨g, cap, rfl, hg, ⟨d0, d1⟩, b2⟩
              have B2 := below_step b1 b2
              go_wp2_with fail
              refine (K1.out _).mono ?_
              rintro e w3 ⟨rfl, b3⟩
              have d1 := (b3.cell (p := ⟨g, 1, none⟩) hg).trans d1
              have B3 := below_step B2 b3
              clear d0
              go_wp2_with fail
              refine (K2.out _).mono ?_
              rintro e w4 ⟨rfl, b4⟩
              have B4 := below_step B3 b4
              go_wp2_with fail
              go_ret
              exact ⟨ret_bool (by first | rfl | (simp [Lib.toList_data]; done)), B4⟩
  · have hcs : p < 1 ∨ (¬ p < 1 ∧ q < 1) ∨ (¬ p < 1 ∧ ¬ q < 1 ∧ 20 < p) ∨ (¬ p < 1 ∧ ¬ q < 1 ∧ ¬ 20 < p ∧ 20 < q) := by omega
    clear hr
    rcases hcs with t1 | ⟨t1, t2⟩ | ⟨t1, t2, t3⟩ | ⟨t1, t2, t3, t4⟩
    · go_enter Tryd.func16, Tryd.ntmps16
      go_wp2_with fail
      refine (alive12 _ hE).mono ?_
      rintro e w1 ⟨rfl, b1⟩
      go_wp2_with fail
      go_ret
      exact ⟨rfl, b1⟩
    · go_enter Tryd.func16, Tryd.ntmps16
      go_wp2_with fail
      refine (alive12 _ hE).mono ?_
      rintro e w1 ⟨rfl, b1⟩
      go_wp2_with fail
      go_ret
      exact ⟨rfl, b1⟩
    · go_enter Tryd.func16, Tryd.ntmps16
      go_wp2_with fail
      refine (alive12 _ hE).mono ?_
      rintro e w1 ⟨rfl, b1⟩
      go_wp2_with fail
      go_ret
      exact ⟨rfl, b1⟩
    · go_enter Tryd.func16, Tryd.ntmps16
      go_wp2_with fail
      refine (alive12 _ hE).mono ?_
      rintro e w1 ⟨rfl, b1⟩
      go_wp2_with fail
      go_ret
      exact ⟨rfl, b1⟩

end Go.Proofs.YtmllkffdejojbaaDoor
