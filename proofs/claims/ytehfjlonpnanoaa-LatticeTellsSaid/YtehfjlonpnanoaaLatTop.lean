/-
  lattice.New where an argument may not be; the readers and Top, Bottom over a lattice that New has made.
-/
import Derived.Test.YtehfjlonpnanoaaLatNew
import Derived.Test.YtehfjlonpnanoaaLatRead
namespace Go.Proofs.Ytehfjlonpnanoaa
open Go.RowKit

def ArgPost (W0 : World) (e : Ending) (w' : World) : Prop := e = .returned (.tuple #[.pointer none, .int .i64 6]) ∧ Below W0.heap.size W0 w'

set_option maxRecDepth 100000 in
theorem new_argn (n : Int) (v : Value) (W0 : World) (hn : n < 1 ∨ 64 < n) : Calls Try.prog 5 #[.int .i64 n, v] W0 (ArgPost W0) := by
  rcases hn with h | h
  · go_enter Try.func5, Try.ntmps5
    go_wp2
    go_ret2
    exact ⟨rfl, Below.refl _ _⟩
  · have h' : ¬ n < 1 := by omega
    go_enter Try.func5, Try.ntmps5
    go_wp2
    go_ret2
    exact ⟨rfl, Below.refl _ _⟩

set_option maxRecDepth 100000 in
set_option maxHeartbeats 1000000 in
theorem new_pair (bp off m cp n : Nat) (P : Nat → Int × Int) (W0 : World) (hn0 : 0 < n) (hn : n ≤ 64) (hm : m ≤ 1000)
    (hP : ∀ i, i < m → W0.cell? ⟨bp, off + i * 2, none⟩ = some (.int .i64 (P i).1) ∧ W0.cell? ⟨bp, off + i * 2 + 1, none⟩ = some (.int .i64 (P i).2))
    (hbp : bp < W0.heap.size) (hin : ∃ i, i < m ∧ ¬ (0 ≤ (P i).1 ∧ (P i).1 < n ∧ 0 ≤ (P i).2 ∧ (P i).2 < n)) :
    Calls Try.prog 5 #[.int .i64 n, .slice (some ⟨bp, off, none⟩) m cp] W0 (ArgPost W0) := by
  have hn1 : (1 : Int) ≤ n := by omega
  have hn2 : (n : Int) ≤ 64 := by omega
  have HI := Lib.hid hin
  clear hin
  go_enter Try.func5, Try.ntmps5
  go_wp2
  go_loopw [25] (fun u25 wr => ∃ k : Nat, k ≤ m ∧ u25 = .int .i64 k ∧ Below W0.heap.size W0 wr ∧ ∀ i, i < k → (0 ≤ (P i).1 ∧ (P i).1 < n ∧ 0 ≤ (P i).2 ∧ (P i).2 < n)) (fun u25 _ => m - (intOf u25).toNat)
  case atStart => exact ⟨0, Nat.zero_le _, rfl, Below.refl _ _, fun i hi => absurd hi (by omega)⟩
  case round =>
    obtain ⟨k, hk, rfl, hB, hall⟩ := hrel
    have HL := Lib.hid hall
    clear hall
    by_cases hlt : k < m
    · obtain ⟨h0, h1⟩ := hP k hlt
      have h0' := (hB.cell (p := ⟨bp, off + k * 2, none⟩) hbp).trans h0
      have h1' := (hB.cell (p := ⟨bp, off + k * 2 + 1, none⟩) hbp).trans h1
      clear h0 h1 hP
      by_cases hgood : 0 ≤ (P k).1 ∧ (P k).1 < n ∧ 0 ≤ (P k).2 ∧ (P k).2 < n
      · obtain ⟨i0, i1, i2, i3⟩ := hgood
        go_wp2
        all_goals
          go_roundw
          case rel => exact ⟨k + 1, by omega, by go_num, hB.alloc hB.size _, fun i hi => by
            by_cases e : i = k
            · subst e; exact ⟨i0, i1, i2, i3⟩
            · exact HL.out i (by omega)⟩
          case measure => simp [intOf]; omega
      · by_cases c1 : (P k).1 < 0
        · go_wp2
          all_goals
            go_ret2
            exact ⟨rfl, hB.alloc hB.size _⟩
        · by_cases c2 : (P k).2 < 0
          · go_wp2
            all_goals
              go_ret2
              exact ⟨rfl, hB.alloc hB.size _⟩
          · by_cases c3 : (P k).1 < n
            · have c4 : ¬ (P k).2 < n := by omega
              go_wp2
              all_goals
                go_ret2
                exact ⟨rfl, hB.alloc hB.size _⟩
            · go_wp2
              all_goals
                go_ret2
                exact ⟨rfl, hB.alloc hB.size _⟩
    · exfalso
      obtain ⟨i, hi, hb⟩ := HI.out
      exact hb (HL.out i (by omega))

theorem latAt_below {B : Nat} {w w' : World} {b n : Nat} {U D : List Nat} (h : LatAt B w b n U D) (hb : Below w.heap.size w w') : LatAt B w' b n U D := by
  obtain ⟨bu, u1, u2, u3⟩ := h.up
  obtain ⟨vj, j1, j2⟩ := h.join
  obtain ⟨vm, m1, m2⟩ := h.meet
  exact ⟨Nat.lt_of_lt_of_le h.lt hb.size, h.ge, ⟨bu, (hb.cell (p := ⟨b, 0, none⟩) h.lt).trans u1, Nat.lt_of_lt_of_le u2 hb.size, fun i hi => (hb.cell (p := ⟨bu, i, none⟩) u2).trans (u3 i hi)⟩,
    ⟨vj, (hb.cell (p := ⟨b, 2, none⟩) h.lt).trans j1, j2.below hb⟩, ⟨vm, (hb.cell (p := ⟨b, 3, none⟩) h.lt).trans m1, m2.below hb⟩, h.small⟩

section
variable {B : Nat} {w : World} {b n : Nat} {U D : List Nat}

theorem at_leq (hL : LatAt B w b n U D) (hn : n ≤ 64) (a c : Int) (h0 : 0 ≤ a) (h1 : a < n) (h2 : 0 ≤ c) (h3 : c < n) :
    Calls Try.prog 8 #[.pointer (some ⟨b, 0, none⟩), .int .i64 a, .int .i64 c] w fun e w' => e = .returned (.bool ((U.getD a.toNat 0).testBit c.toNat)) ∧ w = w' := by
  obtain ⟨bu, u1, u2, u3⟩ := hL.up
  exact lat_leq_in b bu n n a c _ w (by omega) (getD_lt_w64 hL.small _) u1 h0 h1 h2 h3 (u3 _ (by omega))

theorem at_leq_out (hL : LatAt B w b n U D) (hn : n ≤ 64) (a c : Int) (h0 : ¬ (0 ≤ a ∧ a < n ∧ 0 ≤ c ∧ c < n)) :
    Calls Try.prog 8 #[.pointer (some ⟨b, 0, none⟩), .int .i64 a, .int .i64 c] w fun e w' => e = .returned (.bool false) ∧ w = w' := by
  obtain ⟨bu, u1, u2, u3⟩ := hL.up
  exact lat_leq_out b bu n n a c w (by omega) u1 h0

theorem at_join (hL : LatAt B w b n U D) (hn : n ≤ 64) (a c : Int) (h0 : 0 ≤ a) (h1 : a < n) (h2 : 0 ≤ c) (h3 : c < n) :
    Calls Try.prog 9 #[.pointer (some ⟨b, 0, none⟩), .int .i64 a, .int .i64 c] w fun e w' => e = .returned (.int .i64 (joinF n U a.toNat c.toNat)) ∧ w = w' := by
  obtain ⟨bu, u1, u2, u3⟩ := hL.up
  obtain ⟨vj, j1, bo, cc, rfl, j3, _, j4⟩ := hL.join
  obtain ⟨br, cr, k1, k2, _, k3⟩ := j4 a.toNat (by omega)
  exact lat_join_in b bu n n bo cc br cr a c _ w (by omega) u1 j1 h0 h1 h2 h3 k1 (k3 _ (by omega))

theorem at_join_out (hL : LatAt B w b n U D) (hn : n ≤ 64) (a c : Int) (h0 : ¬ (0 ≤ a ∧ a < n ∧ 0 ≤ c ∧ c < n)) :
    Calls Try.prog 9 #[.pointer (some ⟨b, 0, none⟩), .int .i64 a, .int .i64 c] w fun e w' => e = .returned (.int .i64 (-1)) ∧ w = w' := by
  obtain ⟨bu, u1, u2, u3⟩ := hL.up
  exact lat_join_out b bu n n a c w (by omega) u1 h0

theorem at_meet (hL : LatAt B w b n U D) (hn : n ≤ 64) (a c : Int) (h0 : 0 ≤ a) (h1 : a < n) (h2 : 0 ≤ c) (h3 : c < n) :
    Calls Try.prog 10 #[.pointer (some ⟨b, 0, none⟩), .int .i64 a, .int .i64 c] w fun e w' => e = .returned (.int .i64 (joinF n D a.toNat c.toNat)) ∧ w = w' := by
  obtain ⟨bu, u1, u2, u3⟩ := hL.up
  obtain ⟨vj, j1, bo, cc, rfl, j3, _, j4⟩ := hL.meet
  obtain ⟨br, cr, k1, k2, _, k3⟩ := j4 a.toNat (by omega)
  exact lat_meet_in b bu n n bo cc br cr a c _ w (by omega) u1 j1 h0 h1 h2 h3 k1 (k3 _ (by omega))

theorem at_meet_out (hL : LatAt B w b n U D) (hn : n ≤ 64) (a c : Int) (h0 : ¬ (0 ≤ a ∧ a < n ∧ 0 ≤ c ∧ c < n)) :
    Calls Try.prog 10 #[.pointer (some ⟨b, 0, none⟩), .int .i64 a, .int .i64 c] w fun e w' => e = .returned (.int .i64 (-1)) ∧ w = w' := by
  obtain ⟨bu, u1, u2, u3⟩ := hL.up
  exact lat_meet_out b bu n n a c w (by omega) u1 h0

/-- The join of the first k levels. -/
def foldF (F : Nat → Nat → Int) : Nat → Int
  | 0 => 0
  | k + 1 => F (foldF F k).toNat k

theorem foldF_bd {F : Nat → Nat → Int} (hF : ∀ x y, x < n → y < n → 0 ≤ F x y ∧ F x y < n) (hn : 0 < n) (k : Nat) (hk : k ≤ n) : 0 ≤ foldF F k ∧ foldF F k < n := by
  induction k with
  | zero => simp [foldF]; omega
  | succ k ih => have := ih (by omega); exact hF _ _ (by omega) (by omega)

theorem joinF_bd (n : Nat) (U : List Nat) (x y : Nat) : joinF n U x y < n := (foundTo_bd _ _ _).2

theorem at_top (hL : LatAt B w b n U D) (hn0 : 0 < n) (hn : n ≤ 64) (hF : ∀ x y, x < n → y < n → 0 ≤ joinF n U x y) :
    Calls Try.prog 11 #[.pointer (some ⟨b, 0, none⟩)] w fun e w' => e = .returned (.int .i64 (foldF (joinF n U) n)) ∧ w = w' := by
  obtain ⟨bu, u1, u2, u3⟩ := hL.up
  have HF := Lib.hid (fun x y hx hy => ⟨hF x y hx hy, joinF_bd n U x y⟩ : ∀ x y, x < n → y < n → 0 ≤ joinF n U x y ∧ joinF n U x y < n)
  clear hF u3
  go_enter Try.func11, Try.ntmps11
  go_wp2_with (go_at_call 7; refine (lat_len b bu n n _ (by omega) u1).mono ?_; rintro e w' ⟨rfl, rfl⟩)
  all_goals
    go_loop [3, 11] (fun u3 u11 => ∃ k : Nat, k ≤ n ∧ u11 = .int .i64 k ∧ u3 = .int .i64 (foldF (joinF n U) k)) (fun _ u11 => n - (intOf u11).toNat)
    case atStart => exact ⟨0, Nat.zero_le _, rfl, by first | rfl | (simp [foldF]; omega)⟩
    case round =>
      obtain ⟨k, hk, rfl, rfl⟩ := hrel
      have hb := foldF_bd HF.out hn0 k hk
      obtain ⟨hb0, hb1⟩ := hb
      by_cases hlt : k < n
      · have hk0 : (0 : Int) ≤ k := by omega
        have hk1 : (k : Int) < n := by omega
        go_wp2_with (go_at_call 9; refine (at_join hL hn (foldF (joinF n U) k) k hb0 hb1 hk0 hk1).mono ?_; rintro e w' ⟨rfl, rfl⟩)
        go_round
        case rel => exact ⟨k + 1, by omega, by go_num, by simp [foldF]⟩
        case measure => simp [intOf]; omega
      · obtain rfl : n = k := by omega
        go_wp2
        go_ret
        exact ⟨rfl, rfl⟩

theorem top_nil (w : World) :
    Calls Try.prog 11 #[.pointer none] w fun e w' => e = .returned (.int .i64 (-1)) ∧ w = w' := by
  go_enter Try.func11, Try.ntmps11
  go_wp2_with (go_at_call 7; refine (lat_len_nil _).mono ?_; rintro e w' ⟨rfl, rfl⟩)
  refine wp_loop_rounds 1 ?_; rw [rounds_succ]
  go_wp2
  go_ret
  exact ⟨rfl, rfl⟩

theorem at_bottom (hL : LatAt B w b n U D) (hn0 : 0 < n) (hn : n ≤ 64) (hF : ∀ x y, x < n → y < n → 0 ≤ joinF n D x y) :
    Calls Try.prog 12 #[.pointer (some ⟨b, 0, none⟩)] w fun e w' => e = .returned (.int .i64 (foldF (joinF n D) n)) ∧ w = w' := by
  obtain ⟨bu, u1, u2, u3⟩ := hL.up
  have HF := Lib.hid (fun x y hx hy => ⟨hF x y hx hy, joinF_bd n D x y⟩ : ∀ x y, x < n → y < n → 0 ≤ joinF n D x y ∧ joinF n D x y < n)
  clear hF u3
  go_enter Try.func12, Try.ntmps12
  go_wp2_with (go_at_call 7; refine (lat_len b bu n n _ (by omega) u1).mono ?_; rintro e w' ⟨rfl, rfl⟩)
  all_goals
    go_loop [3, 11] (fun u3 u11 => ∃ k : Nat, k ≤ n ∧ u11 = .int .i64 k ∧ u3 = .int .i64 (foldF (joinF n D) k)) (fun _ u11 => n - (intOf u11).toNat)
    case atStart => exact ⟨0, Nat.zero_le _, rfl, by first | rfl | (simp [foldF]; omega)⟩
    case round =>
      obtain ⟨k, hk, rfl, rfl⟩ := hrel
      have hb := foldF_bd HF.out hn0 k hk
      obtain ⟨hb0, hb1⟩ := hb
      by_cases hlt : k < n
      · have hk0 : (0 : Int) ≤ k := by omega
        have hk1 : (k : Int) < n := by omega
        go_wp2_with (go_at_call 10; refine (at_meet hL hn (foldF (joinF n D) k) k hb0 hb1 hk0 hk1).mono ?_; rintro e w' ⟨rfl, rfl⟩)
        go_round
        case rel => exact ⟨k + 1, by omega, by go_num, by simp [foldF]⟩
        case measure => simp [intOf]; omega
      · obtain rfl : n = k := by omega
        go_wp2
        go_ret
        exact ⟨rfl, rfl⟩

theorem bottom_nil (w : World) :
    Calls Try.prog 12 #[.pointer none] w fun e w' => e = .returned (.int .i64 (-1)) ∧ w = w' := by
  go_enter Try.func12, Try.ntmps12
  go_wp2_with (go_at_call 7; refine (lat_len_nil _).mono ?_; rintro e w' ⟨rfl, rfl⟩)
  refine wp_loop_rounds 1 ?_; rw [rounds_succ]
  go_wp2
  go_ret
  exact ⟨rfl, rfl⟩

end
end Go.Proofs.Ytehfjlonpnanoaa
