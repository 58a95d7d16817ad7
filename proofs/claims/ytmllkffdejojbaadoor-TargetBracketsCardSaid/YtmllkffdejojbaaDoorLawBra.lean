/-
  TargetBrackets: brackets in a url are balanced; one more ends it: the walk of the law.
-/
import Derived.Test.YtmllkffdejojbaaDoorAlive10
import Derived.Test.YtmllkffdejojbaaDoorTgtLaw2
namespace Go.Proofs.YtmllkffdejojbaaDoor
open Go.RowKit
set_option maxRecDepth 100000
set_option linter.unusedVariables false
set_option linter.unusedSimpArgs false

set_option maxHeartbeats 4000000 in
theorem law_brackets (n m : Int) (hn : (Lit.int .i64 n).wf = true) (hm : (Lit.int .i64 m).wf = true) (w : World) (hE : Env w) :
    Calls Tryd.prog 6 #[.int .i64 n, .int .i64 m] w fun e w' => e = .returned (.bool true) ∧ Below w.heap.size w w' := by
  by_cases hr : 0 ≤ n ∧ n ≤ 10 ∧ 0 ≤ m ∧ m ≤ 10
  · obtain ⟨h1, h2, h3, h4⟩ := hr
    obtain ⟨N, rfl⟩ := Int.eq_ofNat_of_zero_le h1
    obtain ⟨M, rfl⟩ := Int.eq_ofNat_of_zero_le h3
    have hbr := brackets_dest ⟨N, by omega⟩ ⟨M, by omega⟩
    simp only at hbr
    obtain ⟨D, hD⟩ : ∃ D, dest (brackets N M) = D := ⟨_, rfl⟩
    rw [hD] at hbr
    have c1 : ∀ (S : ByteArray) W, S.data.toList = brackets N M → Env W → Calls Tryd.prog 25 #[.string S] W fun e w' => e = .returned (.tuple #[.string ⟨D.1.toArray⟩, .int .i64 D.2.1, .bool D.2.2]) ∧ Below W.heap.size W w' := fun S W hS hW => by
      have := dest_any S W hW (by rw [Lib.size_eq, hS]; unfold brackets; simp; omega)
      rw [hS, hD] at this
      exact this
    have C1 := Lib.hid c1
    have HE := Lib.hid hE
    have HBR := Lib.hid hbr
    clear c1 hE hbr hD hn hm
    go_enter Tryd.func6, Tryd.ntmps6
    go_wp2_with fail
    refine (alive10 _ HE.out).mono ?_
    rintro e w1 ⟨rfl, b1⟩
    go_wp2_with fail
    go_loop [5, 6] (fun u5 u6 => ∃ (k : Nat) (S : ByteArray), k ≤ N ∧ u6 = .int .i64 k ∧ u5 = .string S ∧ S.data.toList = 97 :: List.replicate k 40) (fun _ u6 => N - (intOf u6).toNat)
    case atStart => exact ⟨0, ⟨#[97]⟩, Nat.zero_le _, rfl, rfl, rfl⟩
    case round =>
      obtain ⟨k, S, hk, rfl, rfl, hS⟩ := hrel
      have HS := Lib.hid hS
      clear hS
      by_cases hlt : k < N
      · have hsz : S.size ≤ 20 := by rw [Lib.size_eq, HS.out]; simp; omega
        go_wp2_with fail
        go_round
        case rel => exact ⟨k + 1, _, by omega, by go_num, rfl, by rw [app_list, HS.out, List.replicate_succ']; rfl⟩
        case measure => simp [intOf]; omega
      · obtain rfl : k = N := by omega
        go_wp2_with fail
        go_loop [5, 7] (fun u5 u7 => ∃ (j : Nat) (S : ByteArray), j ≤ M ∧ u7 = .int .i64 j ∧ u5 = .string S ∧ S.data.toList = brackets k j) (fun _ u7 => M - (intOf u7).toNat)
        case atStart => exact ⟨0, S, Nat.zero_le _, rfl, rfl, by rw [HS.out]; unfold brackets; simp⟩
        case round =>
          obtain ⟨j, S', hj, rfl, rfl, hS'⟩ := hrel
          have HS' := Lib.hid hS'
          clear hS'
          by_cases hjt : j < M
          · have hsz : S'.size ≤ 40 := by rw [Lib.size_eq, HS'.out]; unfold brackets; simp; omega
            go_wp2_with fail
            go_round
            case rel => exact ⟨j + 1, _, by omega, by go_num, rfl, by rw [app_list, HS'.out]; unfold brackets; rw [List.replicate_succ']; simp⟩
            case measure => simp [intOf]; omega
          · obtain rfl : j = M := by omega
            by_cases hlt2 : j < k
            · have hf := HBR.out
              rw [if_pos hlt2] at hf
              obtain ⟨f1, f2⟩ := hf
              have F1 := Lib.hid f1
              have F2 := Lib.hid f2
              have hi : (j : Int) < (k : Int) := by omega
              clear f1 f2
              go_wp2_with fail
              refine (C1.out _ _ HS'.out (HE.out.below b1)).mono ?_
              rintro e w2 ⟨rfl, b2⟩
              rw [F1.out, F2.out]
              go_wp2_with fail
              go_ret
              exact ⟨rfl, below_step b1 b2⟩
            · have hf := HBR.out
              rw [if_neg hlt2] at hf
              obtain ⟨f1, f2⟩ := hf
              have F1 := Lib.hid f1
              have F2 := Lib.hid f2
              have hi : ¬ (j : Int) < (k : Int) := by omega
              have hm2 : IntKind.i64.wrap (2 * (k : Int)) = 2 * (k : Int) := wrap_small _ (by omega) (by omega)
              have he2 : (((1 + 2 * k : Nat) : Int) == 1 + 2 * (k : Int)) = true := by simp
              clear f1 f2
              go_wp2_with fail
              refine (C1.out _ _ HS'.out (HE.out.below b1)).mono ?_
              rintro e w2 ⟨rfl, b2⟩
              rw [F1.out, F2.out]
              go_wp2_with fail
              go_ret
              exact ⟨ret_bool (by first | rfl | simp), below_step b1 b2⟩
  · have hc : n < 0 ∨ (¬ n < 0 ∧ 10 < n) ∨ (¬ n < 0 ∧ ¬ 10 < n ∧ m < 0) ∨ (¬ n < 0 ∧ ¬ 10 < n ∧ ¬ m < 0 ∧ 10 < m) := by omega
    clear hr
    rcases hc with t1 | ⟨t1, t2⟩ | ⟨t1, t2, t3⟩ | ⟨t1, t2, t3, t4⟩
    all_goals
      go_enter Tryd.func6, Tryd.ntmps6
      go_wp2_with fail
      refine (alive10 _ hE).mono ?_
      rintro e w1 ⟨rfl, b1⟩
      go_wp2_with fail
      go_ret
      exact ⟨rfl, b1⟩

end Go.Proofs.YtmllkffdejojbaaDoor
