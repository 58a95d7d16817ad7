/-
  The readers of a lattice in memory (in, Len, Leq, Join, Meet): each answers what the numbers in its rows say; memory stays as it is.
-/
import Derived.Test.YtehfjlonpnanoaaRows
import Derived.Test.YtehfjlonpnanoaaLatBits
import Derived.WalkKit
import Derived.Outline
import Derived.Deep.QuietTactic
import Derived.BigQuiet
namespace Go.Proofs.Ytehfjlonpnanoaa
open Go.RowKit

theorem lat_in (b bu n cu : Nat) (a : Int) (w : World) (hn : (n : Int) ≤ 64)
    (hc : w.cell? ⟨b, 0, none⟩ = some (.slice (some ⟨bu, 0, none⟩) n cu)) :
    Calls Try.prog 16 #[.pointer (some ⟨b, 0, none⟩), .int .i64 a] w fun e w' => e = .returned (.bool (decide (0 ≤ a ∧ a < n))) ∧ w = w' := by
  by_cases h0 : 0 ≤ a
  · by_cases h1 : a < n
    · go_enter Try.func16, Try.ntmps16
      go_wp2
      go_ret
      exact ⟨ret_bool (by simp; omega), rfl⟩
    · go_enter Try.func16, Try.ntmps16
      go_wp2
      go_ret
      exact ⟨ret_bool (by simp; omega), rfl⟩
  · go_enter Try.func16, Try.ntmps16
    go_wp2
    go_ret
    exact ⟨ret_bool (by simp; omega), rfl⟩

theorem lat_in_yes (b bu n cu : Nat) (a : Int) (w : World) (hn : (n : Int) ≤ 64) (h0 : 0 ≤ a) (h1 : a < n)
    (hc : w.cell? ⟨b, 0, none⟩ = some (.slice (some ⟨bu, 0, none⟩) n cu)) :
    Calls Try.prog 16 #[.pointer (some ⟨b, 0, none⟩), .int .i64 a] w fun e w' => e = .returned (.bool true) ∧ w = w' :=
  (lat_in b bu n cu a w hn hc).mono fun e w' h => by rw [show decide (0 ≤ a ∧ a < n) = true from by simp; omega] at h; exact h

theorem lat_in_no (b bu n cu : Nat) (a : Int) (w : World) (hn : (n : Int) ≤ 64) (h0 : ¬ (0 ≤ a ∧ a < n))
    (hc : w.cell? ⟨b, 0, none⟩ = some (.slice (some ⟨bu, 0, none⟩) n cu)) :
    Calls Try.prog 16 #[.pointer (some ⟨b, 0, none⟩), .int .i64 a] w fun e w' => e = .returned (.bool false) ∧ w = w' :=
  (lat_in b bu n cu a w hn hc).mono fun e w' h => by rw [show decide (0 ≤ a ∧ a < n) = false from by simp; omega] at h; exact h

theorem lat_in_nil (a : Int) (w : World) :
    Calls Try.prog 16 #[.pointer none, .int .i64 a] w fun e w' => e = .returned (.bool false) ∧ w = w' := by
  go_enter Try.func16, Try.ntmps16
  go_wp2
  go_ret
  exact ⟨rfl, rfl⟩

theorem lat_len (b bu n cu : Nat) (w : World) (hn : (n : Int) ≤ 64)
    (hc : w.cell? ⟨b, 0, none⟩ = some (.slice (some ⟨bu, 0, none⟩) n cu)) :
    Calls Try.prog 7 #[.pointer (some ⟨b, 0, none⟩)] w fun e w' => e = .returned (.int .i64 n) ∧ w = w' := by
  go_enter Try.func7, Try.ntmps7
  go_wp2
  go_ret
  exact ⟨rfl, rfl⟩

theorem lat_len_nil (w : World) :
    Calls Try.prog 7 #[.pointer none] w fun e w' => e = .returned (.int .i64 0) ∧ w = w' := by
  go_enter Try.func7, Try.ntmps7
  go_wp2
  go_ret
  exact ⟨rfl, rfl⟩

theorem lat_leq_in (b bu n cu : Nat) (a c : Int) (u : Nat) (w : World) (hn : (n : Int) ≤ 64) (hu64 : u < W64)
    (hc : w.cell? ⟨b, 0, none⟩ = some (.slice (some ⟨bu, 0, none⟩) n cu))
    (h0 : 0 ≤ a) (h1 : a < n) (h2 : 0 ≤ c) (h3 : c < n) (hu : w.cell? ⟨bu, a.toNat, none⟩ = some (.int .u64 u)) :
    Calls Try.prog 8 #[.pointer (some ⟨b, 0, none⟩), .int .i64 a, .int .i64 c] w fun e w' => e = .returned (.bool (u.testBit c.toNat)) ∧ w = w' := by
  go_enter Try.func8, Try.ntmps8
  go_wp2_with (go_at_call 16; refine (lat_in_yes b bu n cu _ _ hn (by assumption) (by assumption) hc).mono ?_; rintro e w' ⟨rfl, rfl⟩)
  go_ret
  exact ⟨ret_bool (leq_bit _ _ hu64), rfl⟩

theorem lat_leq_out (b bu n cu : Nat) (a c : Int) (w : World) (hn : (n : Int) ≤ 64)
    (hc : w.cell? ⟨b, 0, none⟩ = some (.slice (some ⟨bu, 0, none⟩) n cu))
    (h0 : ¬ (0 ≤ a ∧ a < n ∧ 0 ≤ c ∧ c < n)) :
    Calls Try.prog 8 #[.pointer (some ⟨b, 0, none⟩), .int .i64 a, .int .i64 c] w fun e w' => e = .returned (.bool false) ∧ w = w' := by
  by_cases h : 0 ≤ a ∧ a < n
  · go_enter Try.func8, Try.ntmps8
    go_wp2_with fail
    refine (lat_in_yes b bu n cu _ _ hn h.1 h.2 hc).mono ?_; rintro e w' ⟨rfl, rfl⟩
    go_wp2_with fail
    refine (lat_in_no b bu n cu _ _ hn (by omega) hc).mono ?_; rintro e w' ⟨rfl, rfl⟩
    go_wp2
    go_ret
    exact ⟨rfl, rfl⟩
  · go_enter Try.func8, Try.ntmps8
    go_wp2_with fail
    refine (lat_in_no b bu n cu _ _ hn h hc).mono ?_; rintro e w' ⟨rfl, rfl⟩
    go_wp2
    go_ret
    exact ⟨rfl, rfl⟩

theorem lat_leq_nil (a c : Int) (w : World) :
    Calls Try.prog 8 #[.pointer none, .int .i64 a, .int .i64 c] w fun e w' => e = .returned (.bool false) ∧ w = w' := by
  go_enter Try.func8, Try.ntmps8
  go_wp2_with fail
  refine (lat_in_nil _ _).mono ?_; rintro e w' ⟨rfl, rfl⟩
  go_wp2
  go_ret
  exact ⟨rfl, rfl⟩

theorem lat_join_in (b bu n cu bj cj br cr : Nat) (a c : Int) (v : Int) (w : World) (hn : (n : Int) ≤ 64)
    (hc : w.cell? ⟨b, 0, none⟩ = some (.slice (some ⟨bu, 0, none⟩) n cu))
    (hj : w.cell? ⟨b, 2, none⟩ = some (.slice (some ⟨bj, 0, none⟩) n cj))
    (h0 : 0 ≤ a) (h1 : a < n) (h2 : 0 ≤ c) (h3 : c < n)
    (hr : w.cell? ⟨bj, a.toNat, none⟩ = some (.slice (some ⟨br, 0, none⟩) n cr))
    (hv : w.cell? ⟨br, c.toNat, none⟩ = some (.int .i64 v)) :
    Calls Try.prog 9 #[.pointer (some ⟨b, 0, none⟩), .int .i64 a, .int .i64 c] w fun e w' => e = .returned (.int .i64 v) ∧ w = w' := by
  go_enter Try.func9, Try.ntmps9
  go_wp2_with (go_at_call 16; refine (lat_in_yes b bu n cu _ _ hn (by assumption) (by assumption) hc).mono ?_; rintro e w' ⟨rfl, rfl⟩)
  go_ret
  exact ⟨rfl, rfl⟩

theorem lat_join_out (b bu n cu : Nat) (a c : Int) (w : World) (hn : (n : Int) ≤ 64)
    (hc : w.cell? ⟨b, 0, none⟩ = some (.slice (some ⟨bu, 0, none⟩) n cu))
    (h0 : ¬ (0 ≤ a ∧ a < n ∧ 0 ≤ c ∧ c < n)) :
    Calls Try.prog 9 #[.pointer (some ⟨b, 0, none⟩), .int .i64 a, .int .i64 c] w fun e w' => e = .returned (.int .i64 (-1)) ∧ w = w' := by
  by_cases h : 0 ≤ a ∧ a < n
  · go_enter Try.func9, Try.ntmps9
    go_wp2_with fail
    refine (lat_in_yes b bu n cu _ _ hn h.1 h.2 hc).mono ?_; rintro e w' ⟨rfl, rfl⟩
    go_wp2_with fail
    refine (lat_in_no b bu n cu _ _ hn (by omega) hc).mono ?_; rintro e w' ⟨rfl, rfl⟩
    go_wp2
    go_ret
    exact ⟨rfl, rfl⟩
  · go_enter Try.func9, Try.ntmps9
    go_wp2_with fail
    refine (lat_in_no b bu n cu _ _ hn h hc).mono ?_; rintro e w' ⟨rfl, rfl⟩
    go_wp2
    go_ret
    exact ⟨rfl, rfl⟩

theorem lat_join_nil (a c : Int) (w : World) :
    Calls Try.prog 9 #[.pointer none, .int .i64 a, .int .i64 c] w fun e w' => e = .returned (.int .i64 (-1)) ∧ w = w' := by
  go_enter Try.func9, Try.ntmps9
  go_wp2_with fail
  refine (lat_in_nil _ _).mono ?_; rintro e w' ⟨rfl, rfl⟩
  go_wp2
  go_ret
  exact ⟨rfl, rfl⟩

theorem lat_meet_in (b bu n cu bj cj br cr : Nat) (a c : Int) (v : Int) (w : World) (hn : (n : Int) ≤ 64)
    (hc : w.cell? ⟨b, 0, none⟩ = some (.slice (some ⟨bu, 0, none⟩) n cu))
    (hj : w.cell? ⟨b, 3, none⟩ = some (.slice (some ⟨bj, 0, none⟩) n cj))
    (h0 : 0 ≤ a) (h1 : a < n) (h2 : 0 ≤ c) (h3 : c < n)
    (hr : w.cell? ⟨bj, a.toNat, none⟩ = some (.slice (some ⟨br, 0, none⟩) n cr))
    (hv : w.cell? ⟨br, c.toNat, none⟩ = some (.int .i64 v)) :
    Calls Try.prog 10 #[.pointer (some ⟨b, 0, none⟩), .int .i64 a, .int .i64 c] w fun e w' => e = .returned (.int .i64 v) ∧ w = w' := by
  go_enter Try.func10, Try.ntmps10
  go_wp2_with (go_at_call 16; refine (lat_in_yes b bu n cu _ _ hn (by assumption) (by assumption) hc).mono ?_; rintro e w' ⟨rfl, rfl⟩)
  go_ret
  exact ⟨rfl, rfl⟩

theorem lat_meet_out (b bu n cu : Nat) (a c : Int) (w : World) (hn : (n : Int) ≤ 64)
    (hc : w.cell? ⟨b, 0, none⟩ = some (.slice (some ⟨bu, 0, none⟩) n cu))
    (h0 : ¬ (0 ≤ a ∧ a < n ∧ 0 ≤ c ∧ c < n)) :
    Calls Try.prog 10 #[.pointer (some ⟨b, 0, none⟩), .int .i64 a, .int .i64 c] w fun e w' => e = .returned (.int .i64 (-1)) ∧ w = w' := by
  by_cases h : 0 ≤ a ∧ a < n
  · go_enter Try.func10, Try.ntmps10
    go_wp2_with fail
    refine (lat_in_yes b bu n cu _ _ hn h.1 h.2 hc).mono ?_; rintro e w' ⟨rfl, rfl⟩
    go_wp2_with fail
    refine (lat_in_no b bu n cu _ _ hn (by omega) hc).mono ?_; rintro e w' ⟨rfl, rfl⟩
    go_wp2
    go_ret
    exact ⟨rfl, rfl⟩
  · go_enter Try.func10, Try.ntmps10
    go_wp2_with fail
    refine (lat_in_no b bu n cu _ _ hn h hc).mono ?_; rintro e w' ⟨rfl, rfl⟩
    go_wp2
    go_ret
    exact ⟨rfl, rfl⟩

theorem lat_meet_nil (a c : Int) (w : World) :
    Calls Try.prog 10 #[.pointer none, .int .i64 a, .int .i64 c] w fun e w' => e = .returned (.int .i64 (-1)) ∧ w = w' := by
  go_enter Try.func10, Try.ntmps10
  go_wp2_with fail
  refine (lat_in_nil _ _).mono ?_; rintro e w' ⟨rfl, rfl⟩
  go_wp2
  go_ret
  exact ⟨rfl, rfl⟩

end Go.Proofs.Ytehfjlonpnanoaa
