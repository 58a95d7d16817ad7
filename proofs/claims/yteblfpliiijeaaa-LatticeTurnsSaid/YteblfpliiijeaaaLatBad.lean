/-
  LatticeBad: levels that are above one another both ways, and such that have no one above both, are no lattice: the call answers true for every input.
-/
import Derived.Test.YteblfpliiijeaaaLatAlive
namespace Go.Proofs.Yteblfpliiijeaaa
open Go.RowKit

def P2 (a b c d : Int) (i : Nat) : Int × Int := if i = 0 then (a, b) else (c, d)

theorem cells2 (W : World) (a b c d : Int) : ∀ i, i < 2 → (W.alloc (.cells #[.int .i64 a, .int .i64 b, .int .i64 c, .int .i64 d] 43)).cell? ⟨W.heap.size, 0 + i * 2, none⟩ = some (.int .i64 (P2 a b c d i).1) ∧
    (W.alloc (.cells #[.int .i64 a, .int .i64 b, .int .i64 c, .int .i64 d] 43)).cell? ⟨W.heap.size, 0 + i * 2 + 1, none⟩ = some (.int .i64 (P2 a b c d i).2) := by
  intro i hi
  have : i = 0 ∨ i = 1 := by omega
  rcases this with rfl | rfl <;> simp [P2]

theorem bad2_new (n : Nat) (a b : Int) (W : World) (hn2 : 2 ≤ n) (hn : n ≤ 64) (ha : 0 ≤ a) (ha' : a < n) (hb : 0 ≤ b) (hb' : b < n) (hab : a ≠ b) :
    Calls Try.prog 10 #[.int .i64 n, .slice (some ⟨W.heap.size, 0, none⟩) 2 2] (W.alloc (.cells #[.int .i64 a, .int .i64 b, .int .i64 b, .int .i64 a] 43)) fun e w' =>
      e = .returned (.tuple #[.pointer none, .int .i64 1]) ∧ Below W.heap.size W w' := by
  have hin : InRange n 2 (P2 a b b a) := by
    intro i hi
    have : i = 0 ∨ i = 1 := by omega
    rcases this with rfl | rfl <;> simp [P2] <;> omega
  refine (new_none (some ⟨W.heap.size, 0, none⟩) W.heap.size 0 2 2 n (P2 a b b a) _ (by omega) hn (by omega) (cells2 W a b b a) (fun _ => rfl) (fun _ => by simp) hin ?_).mono ?_
  · intro hf
    refine (hf a.toNat b.toNat (by omega) (by omega)).1 ⟨?_, by omega, ?_⟩
    · exact (B_upOf hn hin (by omega)).2 (.of ⟨0, by omega, by simp [P2], by simp [P2]⟩)
    · exact (B_upOf hn hin (by omega)).2 (.of ⟨1, by omega, by simp [P2], by simp [P2]⟩)
  · rintro e w' ⟨rfl, h⟩
    rw [World.size_alloc] at h
    exact ⟨rfl, ((Below.refl _ _).alloc (Nat.le_refl _) _).trans (h.mono (by omega))⟩

theorem bad0_new (n : Nat) (W : World) (hn2 : 2 ≤ n) (hn : n ≤ 64) : Calls Try.prog 10 #[.int .i64 n, .slice none 0 0] W fun e w' =>
    e = .returned (.tuple #[.pointer none, .int .i64 1]) ∧ Below W.heap.size W w' :=
  new_none none 0 0 0 0 n P0 W (by omega) hn (by omega) (fun i hi => absurd hi (by omega)) (fun h => absurd h (by omega)) (fun h => absurd h (by omega)) (in_P0 n) (none_P0 hn2 hn)

theorem bad1_new (n : Nat) (a : Int) (W : World) (hn2 : 2 ≤ n) (hn : n ≤ 64) :
    Calls Try.prog 10 #[.int .i64 n, .slice (some ⟨W.heap.size, 0, none⟩) 1 1] (W.alloc (.cells #[.int .i64 a, .int .i64 n] 43)) fun e w' =>
      e = .returned (.tuple #[.pointer none, .int .i64 6]) ∧ Below W.heap.size W w' := by
  refine (new_pair W.heap.size 0 1 1 n (fun _ => (a, n)) _ (by omega) hn (by omega) ?_ (by simp) ⟨0, by omega, by simp⟩).mono ?_
  · intro i hi
    obtain rfl : i = 0 := by omega
    simp
  · rintro e w' ⟨rfl, h⟩
    rw [World.size_alloc] at h
    exact ⟨rfl, ((Below.refl _ _).alloc (Nat.le_refl _) _).trans (h.mono (by omega))⟩

set_option maxHeartbeats 2000000 in
theorem bad_guard (n a b : Int) (w : World) (hg : n < 2 ∨ 20 < n ∨ a < 0 ∨ b < 0 ∨ n ≤ a ∨ n ≤ b ∨ a = b) :
    Calls Try.prog 7 #[.int .i64 n, .int .i64 a, .int .i64 b] w fun e w' => e = .returned (.bool true) ∧ Below w.heap.size w w' := by
  by_cases c1 : n < 2
  · go_enter Try.func7, Try.ntmps7
    go_wp2_with (go_at_call 9; refine (alive_any _).mono ?_; rintro e w' ⟨rfl, hbel⟩)
    go_ret
    exact ⟨rfl, by assumption⟩
  by_cases c2 : 20 < n
  · go_enter Try.func7, Try.ntmps7
    go_wp2_with (go_at_call 9; refine (alive_any _).mono ?_; rintro e w' ⟨rfl, hbel⟩)
    go_ret
    exact ⟨rfl, by assumption⟩
  by_cases c3 : a < 0
  · go_enter Try.func7, Try.ntmps7
    go_wp2_with (go_at_call 9; refine (alive_any _).mono ?_; rintro e w' ⟨rfl, hbel⟩)
    go_ret
    exact ⟨rfl, by assumption⟩
  by_cases c4 : b < 0
  · go_enter Try.func7, Try.ntmps7
    go_wp2_with (go_at_call 9; refine (alive_any _).mono ?_; rintro e w' ⟨rfl, hbel⟩)
    go_ret
    exact ⟨rfl, by assumption⟩
  by_cases c5 : n ≤ a
  · go_enter Try.func7, Try.ntmps7
    go_wp2_with (go_at_call 9; refine (alive_any _).mono ?_; rintro e w' ⟨rfl, hbel⟩)
    go_ret
    exact ⟨rfl, by assumption⟩
  by_cases c6 : n ≤ b
  · go_enter Try.func7, Try.ntmps7
    go_wp2_with (go_at_call 9; refine (alive_any _).mono ?_; rintro e w' ⟨rfl, hbel⟩)
    go_ret
    exact ⟨rfl, by assumption⟩
  obtain rfl : a = b := by omega
  go_enter Try.func7, Try.ntmps7
  go_wp2_with (go_at_call 9; refine (alive_any _).mono ?_; rintro e w' ⟨rfl, hbel⟩)
  go_ret
  exact ⟨rfl, by assumption⟩

set_option maxHeartbeats 2000000 in
theorem bad_any (n a b : Int) (w : World) (_w0 : (Lit.int .i64 n).wf = true) (_w1 : (Lit.int .i64 a).wf = true) (_w2 : (Lit.int .i64 b).wf = true) :
    Calls Try.prog 7 #[.int .i64 n, .int .i64 a, .int .i64 b] w fun e w' => e = .returned (.bool true) ∧ Below w.heap.size w w' := by
  by_cases hg : n < 2 ∨ 20 < n ∨ a < 0 ∨ b < 0 ∨ n ≤ a ∨ n ≤ b ∨ a = b
  · exact bad_guard n a b w hg
  obtain ⟨N, rfl⟩ := Int.eq_ofNat_of_zero_le (show 0 ≤ n by omega)
  have g1 : 2 ≤ N := by omega
  have g2 : N ≤ 20 := by omega
  have g3 : 0 ≤ a := by omega
  have g4 : a < N := by omega
  have g5 : 0 ≤ b := by omega
  have g6 : b < N := by omega
  have g7 : a ≠ b := by omega
  have g8 : (a == b) = false := by simp [g7]
  have H7 := Lib.hid g7
  clear hg g7
  go_enter Try.func7, Try.ntmps7
  go_wp2_with fail
  refine (alive_any _).mono ?_
  rintro e w1 ⟨rfl, hb1⟩
  go_wp2_with fail
  refine (bad2_new N a b w1 g1 (by omega) g3 g4 g5 g6 H7.out).mono ?_
  rintro e w2 ⟨rfl, hb2⟩
  go_wp2_with fail
  refine (bad0_new N w2 g1 (by omega)).mono ?_
  rintro e w3 ⟨rfl, hb3⟩
  go_wp2_with fail
  refine (bad1_new N a w3 g1 (by omega)).mono ?_
  rintro e w4 ⟨rfl, hb4⟩
  go_wp2
  go_ret
  exact ⟨rfl, ((hb1.trans (hb2.mono hb1.size)).trans (hb3.mono (by have := hb1.size; have := hb2.size; omega))).trans (hb4.mono (by have := hb1.size; have := hb2.size; have := hb3.size; omega))⟩

end Go.Proofs.Yteblfpliiijeaaa
