/-
  LatticeChains: levels one above the other are a lattice in which each two are comparable: the call answers true for every input.
-/
import Derived.Test.YteblfpliiijeaaaLatPairs
import Derived.Deep.DeepCutAuto
namespace Go.Proofs.Yteblfpliiijeaaa
open Go.RowKit

def PC (i : Nat) : Int × Int := (i, i + 1)

theorem PC_in (n : Nat) : InRange n (n - 1) PC := by
  intro i hi; simp only [PC]; omega

theorem PC_le {n x y : Nat} (hx : x < n) : Le (n - 1) PC x y ↔ x ≤ y ∧ y < n := by
  constructor
  · intro h
    refine ⟨?_, Le_lt (PC_in n) hx h⟩
    induction h with
    | refl => exact Nat.le_refl _
    | step _ r ih => obtain ⟨i, hi, a, b⟩ := r; simp only [PC] at a b; omega
  · rintro ⟨h, hy⟩
    induction y with
    | zero => obtain rfl : x = 0 := by omega
              exact .refl _
    | succ y ih =>
      by_cases e : x = y + 1
      · subst e; exact .refl _
      · exact .step (ih (by omega) (by omega)) ⟨y, by omega, by simp [PC], by simp only [PC]; omega⟩

theorem PC_anti (n : Nat) : ∀ x y, x < n → y < n → Le (n - 1) PC x y → Le (n - 1) PC y x → x = y := fun x y hx hy h k => by
  have a := (PC_le hx).1 h
  have b := (PC_le hy).1 k
  omega

section
variable {n : Nat} (hn : n ≤ 64)
include hn

theorem PC_join {a b : Nat} (ha : a < n) (hb : b < n) : joinF n (upOf n (n - 1) PC) a b = (max a b : Nat) :=
  (Says.up hn (PC_in n) (PC_anti n)).join ha hb (show max a b < n by omega) ((PC_le ha).2 ⟨by omega, by omega⟩) ((PC_le hb).2 ⟨by omega, by omega⟩) fun y hy h k => by
    have := (PC_le ha).1 h
    have := (PC_le hb).1 k
    exact (PC_le (show max a b < n by omega)).2 ⟨by omega, hy⟩

theorem PC_meet {a b : Nat} (ha : a < n) (hb : b < n) : joinF n (downOf n (n - 1) PC) a b = (min a b : Nat) :=
  (Says.down hn (PC_in n) (PC_anti n)).join ha hb (show min a b < n by omega) ((PC_le (by omega)).2 ⟨by omega, by omega⟩) ((PC_le (by omega)).2 ⟨by omega, by omega⟩) fun y hy h k => by
    have := (PC_le hy).1 h
    have := (PC_le hy).1 k
    exact (PC_le hy).2 ⟨by omega, by omega⟩

theorem PC_leq {a b : Nat} (ha : a < n) (hb : b < n) : ((upOf n (n - 1) PC).getD a 0).testBit b = decide (a ≤ b) := by
  have h := B_upOf (P := PC) hn (PC_in n) (y := b) ha
  rw [PC_le ha] at h
  unfold B at h
  rw [Bool.eq_iff_iff, h]
  simp [hb]

theorem PC_fine : Fine n (upOf n (n - 1) PC) (downOf n (n - 1) PC) := fun x y hx hy => by
  refine ⟨?_, by rw [PC_join hn hx hy]; omega, by rw [PC_meet hn hx hy]; omega⟩
  rintro ⟨h1, h2, h3⟩
  rw [PC_leq hn hx hy] at h1
  rw [PC_leq hn hy hx] at h3
  simp at h1 h3
  omega

theorem PC_top (h0 : 0 < n) : foldF (joinF n (upOf n (n - 1) PC)) n = (n : Int) - 1 := by
  have : ∀ k, k < n → foldF (joinF n (upOf n (n - 1) PC)) (k + 1) = k := by
    intro k hk
    induction k with
    | zero => simp only [foldF]; rw [show Int.toNat 0 = 0 from rfl, PC_join hn hk hk]; simp
    | succ k ih =>
      rw [foldF, ih (by omega), Int.toNat_natCast, PC_join hn (by omega) hk]
      congr 1; omega
  obtain ⟨k, rfl⟩ : ∃ k, n = k + 1 := ⟨n - 1, by omega⟩
  rw [this k (by omega)]; omega

theorem PC_bot : foldF (joinF n (downOf n (n - 1) PC)) n = 0 := by
  have : ∀ k, k ≤ n → foldF (joinF n (downOf n (n - 1) PC)) k = 0 := by
    intro k hk
    induction k with
    | zero => rfl
    | succ k ih => rw [foldF, ih (by omega), show Int.toNat 0 = 0 from rfl, PC_meet hn (by omega) hk]; simp
  exact this n (Nat.le_refl _)
end

set_option maxHeartbeats 2000000 in
theorem chain_guard (n a b : Int) (w : World) (hg : n < 1 ∨ 64 < n ∨ a < 0 ∨ b < 0 ∨ n ≤ a ∨ n ≤ b) :
    Calls Try.prog 5 #[.int .i64 n, .int .i64 a, .int .i64 b] w fun e w' => e = .returned (.bool true) ∧ Below w.heap.size w w' := by
  by_cases c1 : n < 1
  · go_enter Try.func5, Try.ntmps5
    go_wp2_with (go_at_call 9; refine (alive_any _).mono ?_; rintro e w' ⟨rfl, hbel⟩)
    go_ret
    exact ⟨rfl, by assumption⟩
  by_cases c2 : 64 < n
  · go_enter Try.func5, Try.ntmps5
    go_wp2_with (go_at_call 9; refine (alive_any _).mono ?_; rintro e w' ⟨rfl, hbel⟩)
    go_ret
    exact ⟨rfl, by assumption⟩
  by_cases c3 : a < 0
  · go_enter Try.func5, Try.ntmps5
    go_wp2_with (go_at_call 9; refine (alive_any _).mono ?_; rintro e w' ⟨rfl, hbel⟩)
    go_ret
    exact ⟨rfl, by assumption⟩
  by_cases c4 : b < 0
  · go_enter Try.func5, Try.ntmps5
    go_wp2_with (go_at_call 9; refine (alive_any _).mono ?_; rintro e w' ⟨rfl, hbel⟩)
    go_ret
    exact ⟨rfl, by assumption⟩
  by_cases c5 : n ≤ a
  · go_enter Try.func5, Try.ntmps5
    go_wp2_with (go_at_call 9; refine (alive_any _).mono ?_; rintro e w' ⟨rfl, hbel⟩)
    go_ret
    exact ⟨rfl, by assumption⟩
  have c6 : n ≤ b := by omega
  go_enter Try.func5, Try.ntmps5
  go_wp2_with (go_at_call 9; refine (alive_any _).mono ?_; rintro e w' ⟨rfl, hbel⟩)
  go_ret
  exact ⟨rfl, by assumption⟩

set_option maxRecDepth 100000 in
set_option maxHeartbeats 2000000 in
theorem chain_any (n a b : Int) (w : World) (_w0 : (Lit.int .i64 n).wf = true) (_w1 : (Lit.int .i64 a).wf = true) (_w2 : (Lit.int .i64 b).wf = true) :
    Calls Try.prog 5 #[.int .i64 n, .int .i64 a, .int .i64 b] w fun e w' => e = .returned (.bool true) ∧ Below w.heap.size w w' := by
  by_cases hg : n < 1 ∨ 64 < n ∨ a < 0 ∨ b < 0 ∨ n ≤ a ∨ n ≤ b
  · exact chain_guard n a b w hg
  obtain ⟨N, rfl⟩ := Int.eq_ofNat_of_zero_le (show 0 ≤ n by omega)
  obtain ⟨x, rfl⟩ := Int.eq_ofNat_of_zero_le (show 0 ≤ a by omega)
  obtain ⟨y, rfl⟩ := Int.eq_ofNat_of_zero_le (show 0 ≤ b by omega)
  have g1 : 1 ≤ N := by omega
  have g2 : N ≤ 64 := by omega
  have g4 : x < N := by omega
  have g6 : y < N := by omega
  have g4' : (x : Int) < N := by omega
  have g6' : (y : Int) < N := by omega
  have gx : (0 : Int) ≤ x := by omega
  have gy : (0 : Int) ≤ y := by omega
  clear hg _w0 _w1 _w2
  obtain ⟨i0, hi, hz0, hz1, hz2⟩ := info_parts Try.infoPair
  go_enter Try.func5, Try.ntmps5
  go_upto_region 1 with (fail)
  go_cut [38] (fun u38 wc => u38 = .bool false ∧ Below w.heap.size w wc)
  case first =>
    go_wp2_with fail
    refine (alive_any _).mono ?_
    rintro e w1 ⟨rfl, hb1⟩
    go_wp2
    go_meet
    case rel => exact ⟨congrArg Value.bool (by simp; omega), hb1⟩
  case rest =>
  obtain ⟨rfl, hb1⟩ := hcut
  go_wp2
  go_loopw [7, 8] (fun v u8 wr => ∃ k : Nat, k + 1 ≤ N ∧ u8 = .int .i64 k ∧ wr.ownsRow w.heap.size 43 2 v k (cellsOf PC k) ∧ Below w.heap.size w wr) (fun _ u8 _ => N - (intOf u8).toNat)
  case atStart => exact ⟨0, by omega, rfl, World.ownsRow_nil _ _ _ _, hb1⟩
  case round =>
    obtain ⟨k, hk, rfl, hown, hB⟩ := hrel
    clear hb1
    by_cases hlt : k + 1 < N
    · go_wp2_with (first
        | (at_builtin; refine wpList_append_own _ rfl _ _ 22 rfl w.heap.size 43 i0 (.agg #[.int .i64 0, .int .i64 0]) 2 16 Try.underlying22 hi hz0 hz1 hz2 rfl (by decide) _ _ _ rfl (hown.alloc _) ⟨wr.heap.size, 0, none⟩ 1 1 [.int .i64 k, .int .i64 (k + 1)] rfl rfl ?c1 ?c2 ?c3 ?c4 ?c5 ?_))
      case c1 => first | exact two_new wr _ _ _ _ rfl | exact two_new_add wr _ _ _ _ rfl
      case c2 => first | rfl | exact ⟨rfl, rfl⟩ | (intro u hu; simp at hu; rcases hu with rfl | rfl <;> rfl)
      case c3 => unfold maxLen; omega
      case c4 => omega
      case c5 => have := hB.size; simp; omega
      intro v' w2 hown' hgrow _
      have hB' := (hB.alloc hB.size (.cells #[.int .i64 k, .int .i64 (k + 1)] 43)).grown hgrow (by have := hB.size; simp; omega) (fun j hj => (hown.lt j hj).1)
      clear hgrow hown hB
      go_wp2
      go_roundw
      case rel =>
        first | exact ⟨k + 1, by omega, by go_num, hown', hB'⟩ | ((repeat apply Exists.intro); refine ⟨?_, rfl⟩; exact ⟨k + 1, by omega, by go_num, hown', hB'⟩)
      case measure => simp [intOf]; omega
    · obtain rfl : k = N - 1 := by omega
      obtain ⟨ao, g, cap, rfl, q1, q2, q3⟩ := own_pairs hown
      clear hown
      have hcall := new_fine ao g 0 (N - 1) cap N PC wr (by omega) g2 (by omega) q3 q1 q2 (PC_in N) (PC_fine g2)
      have HC := Lib.hid hcall
      have Q1 := Lib.hid q1
      have Q2 := Lib.hid q2
      clear hcall q1 q2 q3
      go_wp2_with fail
      refine HC.out.mono ?_
      rintro e w2 ⟨b, rfl, hb2, hl⟩
      have hbb := hB.trans (hb2.mono hB.size)
      clear HC hb2
      have HL := PC_leq g2 g4 g6
      have HJ := PC_join g2 g4 g6
      have HM := PC_meet g2 g4 g6
      have HL' := Lib.hid HL
      have HJ' := Lib.hid HJ
      have HM' := Lib.hid HM
      clear HL HJ HM
      rcases Nat.lt_trichotomy x y with hxy | hxy | hxy
      · have e1 : (x : Int) < y := by omega
        have e2 : (x : Int) ≤ y := by omega
        have e3 : ¬ (y : Int) < x := by omega
        go_wp2_with fail
        refine (at_leq hl g2 x y gx g4' gy g6').mono ?_
        rintro e w3 ⟨rfl, rfl⟩
        rw [Int.toNat_natCast, Int.toNat_natCast, HL'.out, show decide (x ≤ y) = true from decide_eq_true (by omega)]
        go_wp2_with fail
        refine (at_join hl g2 x y gx g4' gy g6').mono ?_
        rintro e w3 ⟨rfl, rfl⟩
        rw [Int.toNat_natCast, Int.toNat_natCast, HJ'.out, show max x y = y by omega]
        go_wp2_with fail
        refine (at_meet hl g2 x y gx g4' gy g6').mono ?_
        rintro e w3 ⟨rfl, rfl⟩
        rw [Int.toNat_natCast, Int.toNat_natCast, HM'.out, show min x y = x by omega]
        go_wp2_with fail
        refine (at_top hl (by omega) g2 (fun x y hx hy => (PC_fine g2 x y hx hy).2.1)).mono ?_
        rintro e w3 ⟨rfl, rfl⟩
        rw [PC_top g2 (by omega)]
        go_wp2_with fail
        refine (at_bottom hl (by omega) g2 (fun x y hx hy => (PC_fine g2 x y hx hy).2.2)).mono ?_
        rintro e w3 ⟨rfl, rfl⟩
        rw [PC_bot g2]
        go_wp2
        go_ret
        exact ⟨ret_bool (by first | rfl | (simp; done) | (simp; omega)), hbb⟩
      · have e2 : (x : Int) ≤ x := by omega
        have e3 : ¬ (x : Int) < x := by omega
        subst hxy
        go_wp2_with fail
        refine (at_leq hl g2 x x gx g4' gx g4').mono ?_
        rintro e w3 ⟨rfl, rfl⟩
        rw [Int.toNat_natCast, HL'.out, show decide (x ≤ x) = true from decide_eq_true (by omega)]
        go_wp2_with fail
        refine (at_join hl g2 x x gx g4' gx g4').mono ?_
        rintro e w3 ⟨rfl, rfl⟩
        rw [Int.toNat_natCast, HJ'.out, show max x x = x by omega]
        go_wp2_with fail
        refine (at_meet hl g2 x x gx g4' gx g4').mono ?_
        rintro e w3 ⟨rfl, rfl⟩
        rw [Int.toNat_natCast, HM'.out, show min x x = x by omega]
        go_wp2_with fail
        refine (at_top hl (by omega) g2 (fun x y hx hy => (PC_fine g2 x y hx hy).2.1)).mono ?_
        rintro e w3 ⟨rfl, rfl⟩
        rw [PC_top g2 (by omega)]
        go_wp2_with fail
        refine (at_bottom hl (by omega) g2 (fun x y hx hy => (PC_fine g2 x y hx hy).2.2)).mono ?_
        rintro e w3 ⟨rfl, rfl⟩
        rw [PC_bot g2]
        go_wp2
        go_ret
        exact ⟨ret_bool (by first | rfl | (simp; done) | (simp; omega)), hbb⟩
      · have e1 : ¬ (x : Int) < y := by omega
        have e2 : ¬ (x : Int) ≤ y := by omega
        have e3 : (y : Int) < x := by omega
        go_wp2_with fail
        refine (at_leq hl g2 x y gx g4' gy g6').mono ?_
        rintro e w3 ⟨rfl, rfl⟩
        rw [Int.toNat_natCast, Int.toNat_natCast, HL'.out, show decide (x ≤ y) = false from decide_eq_false (by omega)]
        go_wp2_with fail
        refine (at_join hl g2 x y gx g4' gy g6').mono ?_
        rintro e w3 ⟨rfl, rfl⟩
        rw [Int.toNat_natCast, Int.toNat_natCast, HJ'.out, show max x y = x by omega]
        go_wp2_with fail
        refine (at_meet hl g2 x y gx g4' gy g6').mono ?_
        rintro e w3 ⟨rfl, rfl⟩
        rw [Int.toNat_natCast, Int.toNat_natCast, HM'.out, show min x y = y by omega]
        go_wp2_with fail
        refine (at_top hl (by omega) g2 (fun x y hx hy => (PC_fine g2 x y hx hy).2.1)).mono ?_
        rintro e w3 ⟨rfl, rfl⟩
        rw [PC_top g2 (by omega)]
        go_wp2_with fail
        refine (at_bottom hl (by omega) g2 (fun x y hx hy => (PC_fine g2 x y hx hy).2.2)).mono ?_
        rintro e w3 ⟨rfl, rfl⟩
        rw [PC_bot g2]
        go_wp2
        go_ret
        exact ⟨ret_bool (by first | rfl | (simp; done) | (simp; omega)), hbb⟩

end Go.Proofs.Yteblfpliiijeaaa
