/-
  LatticeTells: the walk.
-/
import Derived.Test.YtehfjlonpnanoaaOrders
import Derived.Test.YtehfjlonpnanoaaLatTurns
import Derived.Deep.QuietTactic
import Derived.BigQuiet
namespace Go.Proofs.Ytehfjlonpnanoaa
open Go.RowKit
set_option maxRecDepth 100000
set_option linter.unusedVariables false
set_option linter.unusedSimpArgs false

theorem orders_argn (n : Int) (v : Value) (W0 : World) (hn : n < 1) : Calls Try.prog 6 #[.int .i64 n, v] W0 (ArgPost W0) := by
  go_enter Try.func6, Try.ntmps6
  go_wp2
  go_ret2
  exact ⟨rfl, Below.refl _ _⟩

theorem OrdRead.below {w w' : World} {p n : Nat} {R : Nat → Nat → Bool} (h : OrdRead w p n R) (hb : Below w.heap.size w w') : OrdRead w' p n R := by
  have kp : ∀ {a : Addr} {v : Value}, w.cell? a = some v → w'.cell? a = some v := fun {a v} hc => (hb.cell (World.block_lt_of_cell? _ _ hc)).trans hc
  refine ⟨h.ref.below hb, ?_, ?_⟩
  · obtain ⟨bo, c, h1, h2⟩ := h.join
    refine ⟨bo, c, kp h1, fun a ha => ?_⟩
    obtain ⟨br, cr, h3, h4⟩ := h2 a ha
    exact ⟨br, cr, kp h3, fun b hb' => kp (h4 b hb')⟩
  · obtain ⟨bo, c, h1, h2⟩ := h.meet
    refine ⟨bo, c, kp h1, fun a ha => ?_⟩
    obtain ⟨br, cr, h3, h4⟩ := h2 a ha
    exact ⟨br, cr, kp h3, fun b hb' => kp (h4 b hb')⟩

theorem below_drewT {B : Nat} {a w : World} (h : Below B a w) (k : Nat) : Below B a (w.drewN k) := ⟨h.os, h.tape, h.output, h.size, h.block⟩

theorem CI.run {w : World} {f : Nat} {args : Array Value} {r : Int} (h : CI w f args r) : Calls Try.prog f args w fun e w' => e = .returned (.int .i64 r) ∧ w = w' := h
theorem CB.run {w : World} {f : Nat} {args : Array Value} {r : Bool} (h : CB w f args r) : Calls Try.prog f args w fun e w' => e = .returned (.bool r) ∧ w = w' := h
/-- A reader's contract behind draws. -/
def QB (w : World) (f : Nat) (args : Array Value) (r : Value) : Prop := ∀ nq, Calls Try.prog f args (w.drewN nq) fun e w' => e = .returned r ∧ w' = w.drewN nq
theorem QB.ofI {w : World} {f : Nat} {args : Array Value} {r r' : Int} (h : ∀ nq, Calls Try.prog f args (w.drewN nq) fun e w' => e = .returned (.int .i64 r) ∧ w.drewN nq = w') (e : r = r') : QB w f args (.int .i64 r') := by
  subst e; exact fun nq => (h nq).mono fun _ _ ⟨a, b⟩ => ⟨a, b.symm⟩
theorem QB.ofB {w : World} {f : Nat} {args : Array Value} {r r' : Bool} (h : ∀ nq, Calls Try.prog f args (w.drewN nq) fun e w' => e = .returned (.bool r) ∧ w.drewN nq = w') (e : r = r') : QB w f args (.bool r') := by
  subst e; exact fun nq => (h nq).mono fun _ _ ⟨a, b⟩ => ⟨a, b.symm⟩



set_option maxHeartbeats 4000000 in
theorem tells_guard (n a b : Int) (ao : Option Addr) (m cp : Nat) (w : World) (hm : (m : Int) ≤ 9223372036854775807) (hg : (12 < n ∧ n ≠ 64) ∨ 60 < m) :
    Calls Try.prog 3 #[.int .i64 n, .slice ao m cp, .int .i64 a, .int .i64 b] w fun e w' => e = .returned (.bool true) ∧ Below w.heap.size w w' := by
  by_cases c1 : 12 < n
  · by_cases c2 : n = 64
    · subst c2
      have c3 : 60 < (m : Int) := by omega
      clear hg c1
      go_enter Try.func3, Try.ntmps3
      go_wp2_with (go_at_call 4; refine (alive_any _).mono ?_; rintro e w' ⟨rfl, hbel⟩)
      go_ret
      exact ⟨rfl, by assumption⟩
    · have c4 : (n != 64) = true := by simpa using c2
      clear hg
      go_enter Try.func3, Try.ntmps3
      go_wp2_with (go_at_call 4; refine (alive_any _).mono ?_; rintro e w' ⟨rfl, hbel⟩)
      go_ret
      exact ⟨rfl, by assumption⟩
  · have c3 : 60 < (m : Int) := by omega
    clear hg
    go_enter Try.func3, Try.ntmps3
    go_wp2_with (go_at_call 4; refine (alive_any _).mono ?_; rintro e w' ⟨rfl, hbel⟩)
    go_ret
    exact ⟨rfl, by assumption⟩


set_option maxHeartbeats 4000000 in
theorem tells_none (n a b : Int) (ao : Option Addr) (m cp : Nat) (w : World) (hg1 : n ≤ 12 ∨ n = 64) (hg2 : (m : Int) ≤ 60) (x : Int)
    (hN : ∀ wc, Below w.heap.size w wc → Calls Try.prog 5 #[.int .i64 n, .slice ao m cp] wc fun e w' => e = .returned (.tuple #[.pointer none, .int .i64 x]) ∧ Below wc.heap.size wc w')
    (hO : ∀ wc, Below w.heap.size w wc → Calls Try.prog 6 #[.int .i64 n, .slice ao m cp] wc fun e w' => e = .returned (.tuple #[.pointer none, .int .i64 x]) ∧ Below wc.heap.size wc w') :
    Calls Try.prog 3 #[.int .i64 n, .slice ao m cp, .int .i64 a, .int .i64 b] w fun e w' => e = .returned (.bool true) ∧ Below w.heap.size w w' := by
  have HN := Lib.hid hN
  have HO := Lib.hid hO
  clear hN hO
  go_enter Try.func3, Try.ntmps3
  go_upto_region 1 with (fail)
  go_cut [31] (fun u31 wc => u31 = .bool false ∧ Below w.heap.size w wc)
  case first =>
    by_cases c1 : 12 < n
    · obtain rfl : n = 64 := by omega
      go_wp2_with fail
      refine (alive_any _).mono ?_
      rintro e w1 ⟨rfl, hb1⟩
      go_wp2
      go_meet
      case rel => exact ⟨congrArg Value.bool (by simp; omega), hb1⟩
    · go_wp2_with fail
      refine (alive_any _).mono ?_
      rintro e w1 ⟨rfl, hb1⟩
      go_wp2
      go_meet
      case rel => exact ⟨congrArg Value.bool (by simp; omega), hb1⟩
  case rest =>
    obtain ⟨rfl, hb1⟩ := hcut
    go_wp2_with fail
    refine (HN.out _ hb1).mono ?_
    rintro e w2 ⟨rfl, hb2⟩
    have hb3 := hb1.trans (hb2.mono hb1.size)
    clear hb1 hb2
    go_wp2_with fail
    refine (HO.out _ hb3).mono ?_
    rintro e w4 ⟨rfl, hb4⟩
    have hb5 := hb3.trans (hb4.mono hb3.size)
    clear hb3 hb4
    have HB := Lib.hid hb5
    clear hb5
    go_wp2_with (first
      | (go_at_call 7; refine (lat_len_nil _).mono ?_; rintro e w' ⟨rfl, rfl⟩)
      | (go_at_call 8; refine (lat_leq_nil _ _ _).mono ?_; rintro e w' ⟨rfl, rfl⟩)
      | (go_at_call 9; refine (lat_join_nil _ _ _).mono ?_; rintro e w' ⟨rfl, rfl⟩)
      | (go_at_call 10; refine (lat_meet_nil _ _ _).mono ?_; rintro e w' ⟨rfl, rfl⟩)
      | (go_at_call 11; refine (top_nil _).mono ?_; rintro e w' ⟨rfl, rfl⟩)
      | (go_at_call 12; refine (bottom_nil _).mono ?_; rintro e w' ⟨rfl, rfl⟩))
    go_ret
    exact ⟨rfl, HB.out⟩

set_option maxHeartbeats 8000000 in
theorem tells_fine (N : Nat) (a b : Int) (ao : Option Addr) (m cp : Nat) (P : Nat → Int × Int) (w : World) (h0 : 0 < N) (hg1 : (N : Int) ≤ 12 ∨ (N : Int) = 64) (hg2 : (m : Int) ≤ 60) (hp : IsPairs w ao m P)
    (hin : InRange N m P) (hf : Fine N (upOf N m P) (downOf N m P)) :
    Calls Try.prog 3 #[.int .i64 N, .slice ao m cp, .int .i64 a, .int .i64 b] w fun e w' => e = .returned (.bool true) ∧ Below w.heap.size w w' := by
  obtain ⟨n, hn⟩ : ∃ n : Int, (N : Int) = n := ⟨_, rfl⟩
  have hn64 : N ≤ 64 := by omega
  have HP := Lib.hid (And.intro hp (And.intro hin hf))
  rw [hn] at hg1 ⊢
  clear hp hin hf
  go_enter Try.func3, Try.ntmps3
  go_upto_region 1 with (fail)
  go_cut [31] (fun u31 wc => u31 = .bool false ∧ Below w.heap.size w wc)
  case first =>
    by_cases c1 : 12 < n
    · obtain rfl : n = 64 := by omega
      go_wp2_with fail
      refine (alive_any _).mono ?_
      rintro e w1 ⟨rfl, hb1⟩
      go_wp2
      go_meet
      case rel => exact ⟨congrArg Value.bool (by simp; omega), hb1⟩
    · go_wp2_with fail
      refine (alive_any _).mono ?_
      rintro e w1 ⟨rfl, hb1⟩
      go_wp2
      go_meet
      case rel => exact ⟨congrArg Value.bool (by simp; omega), hb1⟩
  case rest =>
    subst hn
    obtain ⟨rfl, hb1⟩ := hcut
    go_wp2_with fail
    refine (new_p_fine h0 hn64 (by omega) (pairs_below hb1 HP.out.1) HP.out.2.1 HP.out.2.2).mono ?_
    rintro e w2 ⟨q, rfl, hb2, hl⟩
    have hb3 := hb1.trans (hb2.mono hb1.size)
    have HL := Lib.hid hl
    clear hb1 hb2 hl
    go_wp2_with fail
    refine (orders_any N P ao m cp w2 h0 hn64 (by omega) (pairs_below hb3 HP.out.1)).mono ?_
    rintro e w4 ⟨hb4, hpost⟩
    rcases hpost with ⟨h, _⟩ | ⟨_, h, _⟩ | ⟨_, _, p, rfl, hr⟩
    · exact absurd HP.out.2.1 h
    · exact absurd ((good_fine hn64 HP.out.2.1).2 HP.out.2.2) h
    have hb5 := hb3.trans (hb4.mono hb3.size)
    have HB := Lib.hid hb5
    have HS := Lib.hid (same_of hn64 HP.out.2.1 HP.out.2.2)
    have HI := Lib.hid (And.intro (fun x y hx hy => (HP.out.2.2 x y hx hy).2.1 : ∀ x y, x < N → y < N → 0 ≤ joinF N (upOf N m P) x y) (fun x y hx hy => (HP.out.2.2 x y hx hy).2.2 : ∀ x y, x < N → y < N → 0 ≤ joinF N (downOf N m P) x y))
    have HL4 := Lib.hid (latAt_below HL.out hb4)
    have HR4 := Lib.hid hr
    clear hb3 hb4 hb5 hr HL
    obtain ⟨W, hW⟩ : ∃ W, w4 = W := ⟨_, rfl⟩
    subst hW
    go_wp2_with fail
    go_loopw [14] (fun u14 w5 => ∃ x : Nat, x ≤ N ∧ u14 = .int .i64 x ∧ Below w4.heap.size w4 w5) (fun u14 _ => N - (intOf u14).toNat)
    case atStart => exact ⟨0, Nat.zero_le _, rfl, Below.refl _ _⟩
    case round =>
      rename World => W5
      obtain ⟨x, hxN, rfl, hB5⟩ := hrel
      by_cases hxn : x < N
      · go_wp2_with fail
        go_loopw [15] (fun u15 w6 => ∃ y : Nat, y ≤ N ∧ u15 = .int .i64 y ∧ Below w4.heap.size w4 w6) (fun u15 _ => N - (intOf u15).toNat)
        case atStart => exact ⟨0, Nat.zero_le _, rfl, hB5⟩
        case round =>
          rename World => W6
          obtain ⟨y, hyN, rfl, hB6⟩ := hrel
          by_cases hyn : y < N
          · have hl6 := latAt_below HL4.out hB6
            have hr6 := HR4.out.below hB6
            have qL : QB W6 8 #[.pointer (some ⟨q, 0, none⟩), .int .i64 x, .int .i64 y] (.bool (relClo m P N x y)) := QB.ofB (fun nq => at_leq (latAt_below hl6 (below_drewT (Below.refl _ _) nq)) hn64 x y (by omega) (by omega) (by omega) (by omega)) (HS.out.leq x y hxn hyn)
            have qJ : QB W6 9 #[.pointer (some ⟨q, 0, none⟩), .int .i64 x, .int .i64 y] (.int .i64 (leastF (relClo m P N) N x y true)) := QB.ofI (fun nq => at_join (latAt_below hl6 (below_drewT (Below.refl _ _) nq)) hn64 x y (by omega) (by omega) (by omega) (by omega)) (HS.out.join x y hxn hyn)
            have qM : QB W6 10 #[.pointer (some ⟨q, 0, none⟩), .int .i64 x, .int .i64 y] (.int .i64 (leastF (relClo m P N) N x y false)) := QB.ofI (fun nq => at_meet (latAt_below hl6 (below_drewT (Below.refl _ _) nq)) hn64 x y (by omega) (by omega) (by omega) (by omega)) (HS.out.meet x y hxn hyn)
            obtain ⟨b1, k1, e1, f1⟩ := hr6.ref.rows
            obtain ⟨b2, k2, e2, f2⟩ := hr6.join
            obtain ⟨b3, k3, e3, f3⟩ := hr6.meet
            obtain ⟨r1, l1, g1, i1⟩ := f1 x hxn
            obtain ⟨r2, l2, g2, i2⟩ := f2 x hxn
            obtain ⟨r3, l3, g3, i3⟩ := f3 x hxn
            have j1 := i1 y hyn
            have j2 := i2 y hyn
            have j3 := i3 y hyn
            clear hl6 hr6 f1 f2 f3 i1 i2 i3
            generalize relClo m P N x y = L at *
            generalize leastF (relClo m P N) N x y true = J at *
            generalize leastF (relClo m P N) N x y false = M at *
            have eL : (L == L) = true := by simp
            have eJ : (J == J) = true := by simp
            have eM : (M == M) = true := by simp
            have QL := Lib.hid qL
            have QJ := Lib.hid qJ
            have QM := Lib.hid qM
            clear qL qJ qM
            go_wp2_with fail
            go_quiet ((first
              | (go_at_call 8; exact Calls.quiet_of_same (QL.out _))
              | (go_at_call 9; exact Calls.quiet_of_same (QJ.out _))
              | (go_at_call 10; exact Calls.quiet_of_same (QM.out _))))
            go_wp2_with fail
            go_roundw
            case rel => exact ⟨y + 1, by omega, by go_num, below_drewT hB6 _⟩
            case measure => simp [intOf]; omega
          · obtain rfl : y = N := by omega
            go_wp2_with fail
            go_roundw
            case rel => exact ⟨x + 1, by omega, by go_num, hB6⟩
            case measure => simp [intOf]; omega
      · obtain rfl : x = N := by omega
        have hBw := HB.out.trans (hB5.mono HB.out.size)
        have HBW := Lib.hid hBw
        clear hBw
        go_upto_region 18 with (fail)
        go_cut [16] (fun u16 w7 => u16 = .bool (decide (0 ≤ a ∧ 0 ≤ b ∧ a < x ∧ b < x)) ∧ w7 = W5)
        case first =>
          by_cases c1 : 0 ≤ a
          · by_cases c2 : 0 ≤ b
            · by_cases c3 : a < x
              · by_cases c4 : b < x
                · go_wp2
                  go_meet
                  case rel => exact ⟨congrArg Value.bool (by simp; omega), rfl⟩
                · go_wp2
                  go_meet
                  case rel => exact ⟨congrArg Value.bool (by simp; omega), rfl⟩
              · go_wp2
                go_meet
                case rel => exact ⟨congrArg Value.bool (by simp; omega), rfl⟩
            · go_wp2
              go_meet
              case rel => exact ⟨congrArg Value.bool (by simp; omega), rfl⟩
          · go_wp2
            go_meet
            case rel => exact ⟨congrArg Value.bool (by simp; omega), rfl⟩
        case rest =>
          obtain ⟨rfl, rfl⟩ := hcut
          rename World => W7
          have hl5 := latAt_below HL4.out hB5
          have hr5 := (HR4.out.below hB5).ref
          have tT := CI.of (at_top hl5 h0 hn64 HI.out.1) (HS.out.top h0)
          have tB := CI.of (at_bottom hl5 h0 hn64 HI.out.2) (HS.out.bot h0)
          have eT : CI W7 13 #[.pointer (some ⟨p, 0, none⟩), .bool true] (edgeF (relClo m P x) x true) := edge_any p x _ true W7 hn64 hr5
          have eB : CI W7 13 #[.pointer (some ⟨p, 0, none⟩), .bool false] (edgeF (relClo m P x) x false) := edge_any p x _ false W7 hn64 hr5
          have tN : CI W7 7 #[.pointer (some ⟨q, 0, none⟩)] x := by
            obtain ⟨bu, u1, u2, u3⟩ := hl5.up
            exact lat_len q bu x x _ (by omega) u1
          have eX : ((x : Int) == (x : Int)) = true := by simp
          by_cases hinn : 0 ≤ a ∧ 0 ≤ b ∧ a < x ∧ b < x
          · rw [decide_eq_true hinn]
            clear hl5 hr5
            generalize edgeF (relClo m P x) x true = ET at *
            generalize edgeF (relClo m P x) x false = EB at *
            have eL : (ET == ET) = true := by simp
            have eJ : (EB == EB) = true := by simp
            have TT := Lib.hid tT
            have TB := Lib.hid tB
            have UT := Lib.hid eT
            have UB := Lib.hid eB
            have TN := Lib.hid tN
            clear tT tB eT eB tN
            go_wp2_with (first
              | (go_at_call 7; refine (CI.run TN.out).mono ?_; rintro e w' ⟨rfl, rfl⟩)
              | (go_at_call 11; refine (CI.run TT.out).mono ?_; rintro e w' ⟨rfl, rfl⟩)
              | (go_at_call 12; refine (CI.run TB.out).mono ?_; rintro e w' ⟨rfl, rfl⟩)
              | (go_at_call 13; (first | with_reducible refine (CI.run UT.out).mono ?_ | with_reducible refine (CI.run UB.out).mono ?_); rintro e w' ⟨rfl, rfl⟩))
            go_ret
            exact ⟨ret_bool (by first | rfl | (simp; done)), HBW.out⟩
          · rw [decide_eq_false hinn]
            have hout : ¬ (0 ≤ a ∧ a < x ∧ 0 ≤ b ∧ b < x) := fun h => hinn ⟨h.1, h.2.2.1, h.2.1, h.2.2.2⟩
            have OL := Lib.hid (CB.of (at_leq_out hl5 hn64 a b hout) rfl)
            have OJ := Lib.hid (CI.of (at_join_out hl5 hn64 a b hout) rfl)
            have OM := Lib.hid (CI.of (at_meet_out hl5 hn64 a b hout) rfl)
            clear hl5 hr5 hinn hout
            generalize edgeF (relClo m P x) x true = ET at *
            generalize edgeF (relClo m P x) x false = EB at *
            have eL : (ET == ET) = true := by simp
            have eJ : (EB == EB) = true := by simp
            have TT := Lib.hid tT
            have TB := Lib.hid tB
            have UT := Lib.hid eT
            have UB := Lib.hid eB
            have TN := Lib.hid tN
            clear tT tB eT eB tN
            go_wp2_with (first
              | (go_at_call 7; refine (CI.run TN.out).mono ?_; rintro e w' ⟨rfl, rfl⟩)
              | (go_at_call 11; refine (CI.run TT.out).mono ?_; rintro e w' ⟨rfl, rfl⟩)
              | (go_at_call 12; refine (CI.run TB.out).mono ?_; rintro e w' ⟨rfl, rfl⟩)
              | (go_at_call 8; refine (CB.run OL.out).mono ?_; rintro e w' ⟨rfl, rfl⟩)
              | (go_at_call 9; refine (CI.run OJ.out).mono ?_; rintro e w' ⟨rfl, rfl⟩)
              | (go_at_call 10; refine (CI.run OM.out).mono ?_; rintro e w' ⟨rfl, rfl⟩)
              | (go_at_call 13; (first | with_reducible refine (CI.run UT.out).mono ?_ | with_reducible refine (CI.run UB.out).mono ?_); rintro e w' ⟨rfl, rfl⟩))
            go_ret
            exact ⟨ret_bool (by first | rfl | (simp; done)), HBW.out⟩

theorem tells_any (n : Int) (ao : Option Addr) (m cp : Nat) (a b : Int) (w : World) (_w0 : (Lit.int .i64 n).wf = true) (P : Nat → Int × Int) (hp : IsPairs w ao m P) (hm0 : (m : Int) ≤ 9223372036854775807 ∧ m ≤ cp ∧ (ao = none → m = 0 ∧ cp = 0))
    (_w1 : (Lit.int .i64 a).wf = true) (_w2 : (Lit.int .i64 b).wf = true) :
    Calls Try.prog 3 #[.int .i64 n, .slice ao m cp, .int .i64 a, .int .i64 b] w fun e w' => e = .returned (.bool true) ∧ Below w.heap.size w w' := by
  by_cases hg : (12 < n ∧ n ≠ 64) ∨ 60 < m
  · exact tells_guard n a b ao m cp w hm0.1 (by omega)
  by_cases hn : n < 1
  · exact tells_none n a b ao m cp w (by omega) (by omega) 6 (fun wc _ => new_argn n _ wc (.inl hn)) (fun wc _ => orders_argn n _ wc hn)
  obtain ⟨N, rfl⟩ := Int.eq_ofNat_of_zero_le (show 0 ≤ n by omega)
  by_cases hin : InRange N m P
  · by_cases hf : Fine N (upOf N m P) (downOf N m P)
    · exact tells_fine N a b ao m cp P w (by omega) (by omega) (by omega) hp hin hf
    · refine tells_none N a b ao m cp w (by omega) (by omega) 1 (fun wc hb => new_p_none (by omega) (by omega) (by omega) (pairs_below hb hp) hin hf) (fun wc hb => (orders_any N P ao m cp wc (by omega) (by omega) (by omega) (pairs_below hb hp)).mono ?_)
      rintro e w' ⟨h1, h2⟩
      rcases h2 with ⟨h, _⟩ | ⟨_, h, rfl⟩ | ⟨_, h, _⟩
      · exact absurd hin h
      · exact ⟨rfl, h1⟩
      · exact absurd ((good_fine (by omega) hin).1 h) hf
  · refine tells_none N a b ao m cp w (by omega) (by omega) 6 (fun wc hb => new_p_arg (by omega) (by omega) (by omega) (pairs_below hb hp) hin) (fun wc hb => (orders_any N P ao m cp wc (by omega) (by omega) (by omega) (pairs_below hb hp)).mono ?_)
    rintro e w' ⟨h1, h2⟩
    rcases h2 with ⟨_, rfl⟩ | ⟨h, _⟩ | ⟨h, _⟩
    · exact ⟨rfl, h1⟩
    · exact absurd h hin
    · exact absurd h hin

end Go.Proofs.Ytehfjlonpnanoaa
