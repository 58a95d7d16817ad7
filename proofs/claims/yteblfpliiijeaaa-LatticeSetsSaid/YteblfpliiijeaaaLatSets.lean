/-
  LatticeSets: sets of three things, one in another one, are a lattice, joins unions, meets what is in both: the call answers true for every input.
-/
import Derived.Test.YteblfpliiijeaaaLatPairs
import Derived.Deep.DeepCutAuto
namespace Go.Proofs.Yteblfpliiijeaaa
open Go.RowKit

def LS : List (Int × Int) := [(0, 1), (0, 2), (0, 4), (1, 3), (1, 5), (2, 3), (2, 6), (3, 7), (4, 5), (4, 6), (5, 7), (6, 7)]
def PS (i : Nat) : Int × Int := LS.getD i (0, 0)
/-- How many pairs are told before the pair of s and k. -/
def cntS (s k : Nat) : Nat := (((List.range 8).flatMap fun s' => (List.range 3).map fun k' => (s', k')).filter fun p => (p.1 < s || (p.1 == s && p.2 < k)) && !p.1.testBit p.2).length

def TabS : Prop := ∀ s : Fin 8, ∀ k : Fin 3, (bits BinOp.and IntKind.i64 ((s.val : Int) / 2 ^ k.val) 1 == 0) = (!s.val.testBit k.val) ∧
  cntS s.val (k.val + 1) = cntS s.val k.val + (if s.val.testBit k.val then 0 else 1) ∧ cntS s.val 3 = cntS (s.val + 1) 0 ∧ cntS s.val k.val ≤ 12 ∧
  (s.val.testBit k.val = false → PS (cntS s.val k.val) = ((s.val : Int), bits BinOp.or IntKind.i64 (s.val : Int) (wrap64 (2 ^ k.val))))
theorem tabS : TabS := by unfold TabS; decide +kernel

def TabJ : Prop := ∀ a : Fin 8, ∀ b : Fin 8, joinF 8 (upOf 8 12 PS) a.val b.val = bits BinOp.or IntKind.i64 (a.val : Int) (b.val : Int) ∧ joinF 8 (downOf 8 12 PS) a.val b.val = bits BinOp.and IntKind.i64 (a.val : Int) (b.val : Int) ∧
  ((upOf 8 12 PS).getD a.val 0).testBit b.val = (bits BinOp.and IntKind.i64 (a.val : Int) (b.val : Int) == (a.val : Int))
theorem tabJ : TabJ := by unfold TabJ; decide +kernel

theorem PS_in : InRange 8 12 PS := by
  intro i hi
  have h : ∀ j : Fin 12, 0 ≤ (PS j.val).1 ∧ (PS j.val).1 < 8 ∧ 0 ≤ (PS j.val).2 ∧ (PS j.val).2 < 8 := by decide +kernel
  exact h ⟨i, hi⟩

theorem PS_fine : Fine 8 (upOf 8 12 PS) (downOf 8 12 PS) := fine_of _ _ _ (by decide +kernel)

set_option maxHeartbeats 2000000 in
theorem sets_guard (a b : Int) (w : World) (hg : a < 0 ∨ b < 0 ∨ 7 < a ∨ 7 < b) :
    Calls Try.prog 6 #[.int .i64 a, .int .i64 b] w fun e w' => e = .returned (.bool true) ∧ Below w.heap.size w w' := by
  by_cases c1 : a < 0
  · go_enter Try.func6, Try.ntmps6
    go_wp2_with (go_at_call 9; refine (alive_any _).mono ?_; rintro e w' ⟨rfl, hbel⟩)
    go_ret
    exact ⟨rfl, by assumption⟩
  by_cases c2 : b < 0
  · go_enter Try.func6, Try.ntmps6
    go_wp2_with (go_at_call 9; refine (alive_any _).mono ?_; rintro e w' ⟨rfl, hbel⟩)
    go_ret
    exact ⟨rfl, by assumption⟩
  by_cases c3 : 7 < a
  · go_enter Try.func6, Try.ntmps6
    go_wp2_with (go_at_call 9; refine (alive_any _).mono ?_; rintro e w' ⟨rfl, hbel⟩)
    go_ret
    exact ⟨rfl, by assumption⟩
  have c4 : 7 < b := by omega
  go_enter Try.func6, Try.ntmps6
  go_wp2_with (go_at_call 9; refine (alive_any _).mono ?_; rintro e w' ⟨rfl, hbel⟩)
  go_ret
  exact ⟨rfl, by assumption⟩

set_option maxRecDepth 100000 in
set_option maxHeartbeats 2000000 in
theorem sets_any (a b : Int) (w : World) (_w0 : (Lit.int .i64 a).wf = true) (_w1 : (Lit.int .i64 b).wf = true) :
    Calls Try.prog 6 #[.int .i64 a, .int .i64 b] w fun e w' => e = .returned (.bool true) ∧ Below w.heap.size w w' := by
  by_cases hg : a < 0 ∨ b < 0 ∨ 7 < a ∨ 7 < b
  · exact sets_guard a b w hg
  obtain ⟨x, rfl⟩ := Int.eq_ofNat_of_zero_le (show 0 ≤ a by omega)
  obtain ⟨y, rfl⟩ := Int.eq_ofNat_of_zero_le (show 0 ≤ b by omega)
  have g1 : x < 8 := by omega
  have g2 : y < 8 := by omega
  have gx : (0 : Int) ≤ x := by omega
  have gy : (0 : Int) ≤ y := by omega
  have gx7 : (x : Int) ≤ 7 := by omega
  have gy7 : (y : Int) ≤ 7 := by omega
  clear hg _w0 _w1
  obtain ⟨i0, hi, hz0, hz1, hz2⟩ := info_parts Try.infoPair
  go_enter Try.func6, Try.ntmps6
  go_upto_region 1 with (fail)
  go_cut [27] (fun u27 wc => u27 = .bool false ∧ Below w.heap.size w wc)
  case first =>
    go_wp2_with fail
    refine (alive_any _).mono ?_
    rintro e w1 ⟨rfl, hb1⟩
    go_wp2
    go_meet
    case rel => exact ⟨congrArg Value.bool (by simp; omega), hb1⟩
  case rest =>
  obtain ⟨rfl, hb1⟩ := hcut
  go_wp2
  go_loopw [5, 6] (fun v u6 wr => ∃ s : Nat, s ≤ 8 ∧ u6 = .int .i64 s ∧ wr.ownsRow w.heap.size 43 2 v (cntS s 0) (cellsOf PS (cntS s 0)) ∧ Below w.heap.size w wr) (fun _ u6 _ => 8 - (intOf u6).toNat)
  case atStart => exact ⟨0, by omega, rfl, World.ownsRow_nil _ _ _ _, hb1⟩
  case round =>
    obtain ⟨s, hs, rfl, hown, hB⟩ := hrel
    clear hb1
    by_cases hlt : s < 8
    · have hlt' : decide ((s : Int) < 8) = true := decide_eq_true (by omega)
      go_wp2
      clear hlt'
      obtain ⟨wo, rfl⟩ : ∃ wo : World, wo = wr := ⟨_, rfl⟩
      go_loopw [5, 7] (fun v u7 wr => ∃ k : Nat, k ≤ 3 ∧ u7 = .int .i64 k ∧ wr.ownsRow w.heap.size 43 2 v (cntS s k) (cellsOf PS (cntS s k)) ∧ Below w.heap.size w wr) (fun _ u7 _ => 3 - (intOf u7).toNat)
      case atStart => exact ⟨0, by omega, rfl, hown, hB⟩
      case round =>
        clear hown hB
        obtain ⟨k, hk, rfl, hown, hB⟩ := hrel
        by_cases hlk : k < 3
        · obtain ⟨t1, t2, t3, t4, t5⟩ := tabS ⟨s, hlt⟩ ⟨k, hlk⟩
          simp only at t1 t2 t3 t4 t5
          by_cases hbit : s.testBit k = true
          · rw [hbit] at t1 t2
            have T1 : (bits BinOp.and IntKind.i64 ((s : Int) / 2 ^ k) 1 == 0) = false := t1
            have T2 := Lib.hid t2
            clear t1 t2 t3 t4 t5 hbit
            go_wp2
            go_roundw
            case rel =>
              have e := T2.out
              simp only [if_true, Nat.add_zero] at e
              first | exact ⟨k + 1, by omega, by go_num, by rw [e]; exact hown, hB⟩ | ((repeat apply Exists.intro); refine ⟨?_, rfl⟩; exact ⟨k + 1, by omega, by go_num, by rw [e]; exact hown, hB⟩)
            case measure => simp [intOf]; omega
          · have hbit' : s.testBit k = false := by simpa using hbit
            have t6 := t5 hbit'
            rw [hbit'] at t1 t2
            have T1 : (bits BinOp.and IntKind.i64 ((s : Int) / 2 ^ k) 1 == 0) = true := t1
            obtain ⟨z, hz⟩ : ∃ z, z = bits BinOp.or IntKind.i64 (s : Int) (wrap64 (2 ^ k)) := ⟨_, rfl⟩
            have T2 := Lib.hid t2
            rw [← hz] at t6
            have T6 := Lib.hid t6
            have hz' := hz.symm
            clear t1 t2 t3 t5 t6 hbit hbit' hz
            go_wp2_with (first
              | (at_builtin; refine wpList_append_own _ rfl _ _ 22 rfl w.heap.size 43 i0 (.agg #[.int .i64 0, .int .i64 0]) 2 16 Try.underlying22 hi hz0 hz1 hz2 rfl (by decide) _ _ _ rfl (hown.alloc _) ⟨wr.heap.size, 0, none⟩ 1 1 [.int .i64 s, .int .i64 z] rfl rfl ?c1 ?c2 ?c3 ?c4 ?c5 ?_))
            case c1 => first | exact two_new wr _ _ _ _ rfl | exact two_new_add wr _ _ _ _ rfl
            case c2 => first | rfl | exact ⟨rfl, rfl⟩ | (intro u hu; simp at hu; rcases hu with rfl | rfl <;> rfl)
            case c3 => unfold maxLen; omega
            case c4 => omega
            case c5 => have := hB.size; simp; omega
            intro v' w2 hown' hgrow _
            have hB' := (hB.alloc hB.size (.cells #[.int .i64 s, .int .i64 z] 43)).grown hgrow (by have := hB.size; simp; omega) (fun j hj => (hown.lt j hj).1)
            clear hgrow hown hB
            go_wp2
            go_roundw
            case rel =>
              have e := T2.out
              simp only [Bool.false_eq_true, if_false] at e
              have hown2 : w2.ownsRow w.heap.size 43 2 v' (cntS s (k + 1)) (cellsOf PS (cntS s (k + 1))) := by
                rw [e]
                unfold cellsOf
                rw [T6.out]
                exact hown'
              first | exact ⟨k + 1, by omega, by go_num, hown2, hB'⟩ | ((repeat apply Exists.intro); refine ⟨?_, rfl⟩; exact ⟨k + 1, by omega, by go_num, hown2, hB'⟩)
            case measure => simp [intOf]; omega
        · obtain rfl : k = 3 := by omega
          have e := (tabS ⟨s, hlt⟩ ⟨0, by omega⟩).2.2.1
          simp only at e
          have E := Lib.hid e
          clear e
          go_wp2
          go_roundw
          case rel =>
            rw [E.out] at hown
            first | exact ⟨s + 1, by omega, by go_num, hown, hB⟩ | ((repeat apply Exists.intro); refine ⟨?_, rfl⟩; exact ⟨s + 1, by omega, by go_num, hown, hB⟩)
          case measure => simp [intOf]; omega
    · obtain rfl : s = 8 := by omega
      rw [show cntS 8 0 = 12 from by decide +kernel] at hown
      obtain ⟨ao, g, cap, rfl, q1, q2, q3⟩ := own_pairs hown
      clear hown
      have hcall := new_fine ao g 0 12 cap 8 PS wr (by omega) (by omega) (by omega) q3 q1 q2 PS_in PS_fine
      have HC := Lib.hid hcall
      clear hcall q1 q2 q3
      go_wp2_with fail
      refine HC.out.mono ?_
      rintro e w2 ⟨b, rfl, hb2, hl⟩
      have hbb := hB.trans (hb2.mono hB.size)
      clear HC hb2
      obtain ⟨J1, J2, J3⟩ := tabJ ⟨x, g1⟩ ⟨y, g2⟩
      simp only at J1 J2 J3
      have H1 := Lib.hid J1
      have H2 := Lib.hid J2
      have H3 := Lib.hid J3
      clear J1 J2 J3
      have gx8 : (x : Int) < (8 : Nat) := by omega
      have gy8 : (y : Int) < (8 : Nat) := by omega
      go_wp2_with fail
      refine (at_join hl (by omega) x y gx gx8 gy gy8).mono ?_
      rintro e w3 ⟨rfl, rfl⟩
      rw [Int.toNat_natCast, Int.toNat_natCast, H1.out]
      go_wp2_with fail
      refine (at_meet hl (by omega) x y gx gx8 gy gy8).mono ?_
      rintro e w3 ⟨rfl, rfl⟩
      rw [Int.toNat_natCast, Int.toNat_natCast, H2.out]
      go_wp2_with fail
      refine (at_leq hl (by omega) x y gx gx8 gy gy8).mono ?_
      rintro e w3 ⟨rfl, rfl⟩
      rw [Int.toNat_natCast, Int.toNat_natCast, H3.out]
      go_wp2
      go_ret
      exact ⟨ret_bool (by first | rfl | (simp; done) | (simp; omega)), hbb⟩

end Go.Proofs.Yteblfpliiijeaaa
