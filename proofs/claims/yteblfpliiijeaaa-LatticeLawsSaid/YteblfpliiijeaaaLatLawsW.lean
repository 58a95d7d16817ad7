/-
  LatticeLaws: the walk.
-/
import Derived.Test.YteblfpliiijeaaaLatLaws
import Derived.Deep.DeepCutAuto
namespace Go.Proofs.Yteblfpliiijeaaa
open Go.RowKit

theorem CI.go {w : World} {f : Nat} {args : Array Value} {r : Int} (h : CI w f args r) : Calls Try.prog f args w fun e w' => e = .returned (.int .i64 r) ∧ w = w' := h
theorem CB.go {w : World} {f : Nat} {args : Array Value} {r : Bool} (h : CB w f args r) : Calls Try.prog f args w fun e w' => e = .returned (.bool r) ∧ w = w' := h

set_option maxRecDepth 100000 in
set_option maxHeartbeats 2000000 in
theorem laws_guard (n a b c : Int) (ao : Option Addr) (m cp : Nat) (w : World) (hm : (m : Int) ≤ 9223372036854775807) (hg : 12 < n ∨ n < 1 ∨ 60 < m) :
    Calls Try.prog 4 #[.int .i64 n, .slice ao m cp, .int .i64 a, .int .i64 b, .int .i64 c] w fun e w' => e = .returned (.bool true) ∧ Below w.heap.size w w' := by
  by_cases c1 : 12 < n
  · go_enter Try.func4, Try.ntmps4
    go_wp2_with (go_at_call 9; refine (alive_any _).mono ?_; rintro e w' ⟨rfl, hbel⟩)
    go_ret
    exact ⟨rfl, by assumption⟩
  by_cases c2 : n < 1
  · go_enter Try.func4, Try.ntmps4
    go_wp2_with (go_at_call 9; refine (alive_any _).mono ?_; rintro e w' ⟨rfl, hbel⟩)
    go_ret
    exact ⟨rfl, by assumption⟩
  have c3 : 60 < (m : Int) := by omega
  go_enter Try.func4, Try.ntmps4
  go_wp2_with (go_at_call 9; refine (alive_any _).mono ?_; rintro e w' ⟨rfl, hbel⟩)
  go_ret
  exact ⟨rfl, by assumption⟩

theorem mod_fact (a : Int) (n : Nat) (h0 : 0 < n) (hn : n ≤ 12) : ∃ (r : Int) (x : Nat), a.tmod n = r ∧ -12 < r ∧ r < 12 ∧ (r + n).tmod n = x ∧ x < n := by
  have hp : (0 : Int) < n := by omega
  have h1 := Int.tmod_lt_of_pos a hp
  have h2 := Int.lt_tmod_of_pos a hp
  refine ⟨a.tmod n, ((a.tmod n + n).tmod n).toNat, rfl, by omega, by omega, ?_, ?_⟩
  · have : 0 ≤ (a.tmod n + n).tmod n := Int.tmod_nonneg _ (by omega)
    omega
  · have := Int.tmod_lt_of_pos (a.tmod n + n) hp
    have : 0 ≤ (a.tmod n + n).tmod n := Int.tmod_nonneg _ (by omega)
    omega

set_option maxRecDepth 100000 in
set_option maxHeartbeats 4000000 in
theorem laws_any (n : Int) (ao : Option Addr) (m cp : Nat) (a b c : Int) (w : World) (_w0 : (Lit.int .i64 n).wf = true) (P : Nat → Int × Int) (hp : IsPairs w ao m P) (hmm0 : (m : Int) ≤ 9223372036854775807 ∧ m ≤ cp ∧ (ao = none → m = 0 ∧ cp = 0))
    (_w1 : (Lit.int .i64 a).wf = true) (_w2 : (Lit.int .i64 b).wf = true) (_w3 : (Lit.int .i64 c).wf = true) :
    Calls Try.prog 4 #[.int .i64 n, .slice ao m cp, .int .i64 a, .int .i64 b, .int .i64 c] w fun e w' => e = .returned (.bool true) ∧ Below w.heap.size w w' := by
  have hm63 := hmm0.1
  clear hmm0
  by_cases hg : 12 < n ∨ n < 1 ∨ 60 < m
  · exact laws_guard n a b c ao m cp w hm63 hg
  obtain ⟨N, rfl⟩ := Int.eq_ofNat_of_zero_le (show 0 ≤ n by omega)
  have g1 : 1 ≤ N := by omega
  have g2 : N ≤ 12 := by omega
  have g3 : (m : Int) ≤ 60 := by omega
  have g4 : (N : Int) ≤ 12 := by omega
  have g5 : (1 : Int) ≤ N := by omega
  obtain ⟨bp, off, hp1, hp2, hp3⟩ := hp
  have H1 := Lib.hid hp1
  have H2 := Lib.hid hp2
  have H3 := Lib.hid hp3
  have HM := Lib.hid hm63
  clear hg _w0 _w1 _w2 _w3 hp1 hp2 hp3 hm63
  go_enter Try.func4, Try.ntmps4
  go_upto_region 1 with (fail)
  go_cut [29] (fun u29 wc => u29 = .bool false ∧ Below w.heap.size w wc)
  case first =>
    go_wp2_with fail
    refine (alive_any _).mono ?_
    rintro e w1 ⟨rfl, hb1⟩
    go_wp2
    go_meet
    case rel => exact ⟨congrArg Value.bool (by simp; omega), hb1⟩
  case rest =>
  obtain ⟨rfl, hb1⟩ := hcut
  have hcells : ∀ i, i < m → wc.cell? ⟨bp, off + i * 2, none⟩ = some (.int .i64 (P i).1) ∧ wc.cell? ⟨bp, off + i * 2 + 1, none⟩ = some (.int .i64 (P i).2) := fun i hi =>
    ⟨(hb1.cell (p := ⟨bp, off + i * 2, none⟩) (H2.out (by omega))).trans (H3.out i hi).1, (hb1.cell (p := ⟨bp, off + i * 2 + 1, none⟩) (H2.out (by omega))).trans (H3.out i hi).2⟩
  have HC := Lib.hid hcells
  clear hcells
  by_cases hin : InRange N m P
  · by_cases hf : Fine N (upOf N m P) (downOf N m P)
    · go_wp2_with fail
      refine (new_fine ao bp off m cp N P wc (by omega) (by omega) (by omega) HC.out H1.out (fun h => by have := H2.out h; have := hb1.size; omega) hin hf).mono ?_
      rintro e w2 ⟨q, rfl, hb2, hl⟩
      have hbb := hb1.trans (hb2.mono hb1.size)
      obtain ⟨ra, x, A1, A2, A3, A4, A5⟩ := mod_fact a N (by omega) g2
      obtain ⟨rb, y, B1, B2, B3, B4, B5⟩ := mod_fact b N (by omega) g2
      obtain ⟨rc, z, C1, C2, C3, C4, C5⟩ := mod_fact c N (by omega) g2
      have HN := Lib.hid (show LatAt wc.heap.size w2 q N (upOf N m P) (downOf N m P) ∧ InRange N m P ∧ Fine N (upOf N m P) (downOf N m P) from ⟨hl, hin, hf⟩)
      clear hb2 hl hin hf
      go_upto_region 6 with (fail)
      go_cut [2, 3, 4] (fun u2 u3 u4 wd => u2 = .int .i64 x ∧ u3 = .int .i64 y ∧ u4 = .int .i64 z ∧ ∃ nq, wd = w2.drewN nq)
      case first =>
        have W1 : IntKind.i64.wrap (ra + N) = ra + N := IntWalk.i64_in _ (by omega)
        have W2 : IntKind.i64.wrap (rb + N) = rb + N := IntWalk.i64_in _ (by omega)
        have W3 : IntKind.i64.wrap (rc + N) = rc + N := IntWalk.i64_in _ (by omega)
        go_quiet (fail)
        go_wp2
        go_meet
        case rel => exact ⟨rfl, rfl, rfl, _, rfl⟩
      case rest =>
        obtain ⟨rfl, rfl, rfl, nq, rfl⟩ := hcut
        obtain ⟨j, mm, bc, xx, t, bt, p1, p2, p3, p4, p5, F, hj, hmm⟩ := lfacts (latAt_below HN.out.1 (w' := w2.drewN nq) ⟨rfl, rfl, rfl, Nat.le_refl _, fun _ _ => rfl⟩) (by omega) (by omega) HN.out.2.1 HN.out.2.2 x y z A5 B5 C5
        have hbd : Below w.heap.size w (w2.drewN nq) := hbb.trans ⟨rfl, rfl, rfl, Nat.le_refl _, fun _ _ => rfl⟩
        clear hbb A1 B1 C1 A4 B4 C4
        obtain ⟨wd, hwd⟩ : ∃ wd, wd = w2.drewN nq := ⟨_, rfl⟩
        rw [← hwd] at F hbd ⊢
        clear hwd
        go_upto_region 10 with (first
          | (go_at_call 14; ((first | with_reducible refine (CI.go F.jab).mono ?_ | with_reducible refine (CI.go F.jba).mono ?_); rintro e w' ⟨rfl, rfl⟩))
          | (go_at_call 15; ((first | with_reducible refine (CI.go F.mab).mono ?_ | with_reducible refine (CI.go F.mba).mono ?_); rintro e w' ⟨rfl, rfl⟩))
          | (go_at_call 13; ((first | with_reducible refine (CB.go F.laj).mono ?_ | with_reducible refine (CB.go F.lbj).mono ?_ | with_reducible refine (CB.go F.lma).mono ?_ | with_reducible refine (CB.go F.lmb).mono ?_); rintro e w' ⟨rfl, rfl⟩)))
        go_cut [147] (fun u147 we => u147 = .bool false ∧ we = wd)
        case first =>
          cases p1 <;> cases p2 <;> cases p3 <;> cases p4
          all_goals as_aux_lemma =>
            go_wp2_with (first | (go_at_call 13; ((first | with_reducible refine (CB.go F.lac).mono ?_ | with_reducible refine (CB.go F.lbc).mono ?_ | with_reducible refine (CB.go F.ljc).mono ?_ | with_reducible refine (CB.go F.lca).mono ?_ | with_reducible refine (CB.go F.lcb).mono ?_ | with_reducible refine (CB.go F.lcm).mono ?_); rintro e w' ⟨rfl, rfl⟩)))
            go_meet
            case rel => exact ⟨rfl, rfl⟩
        case rest =>
          obtain ⟨rfl, rfl⟩ := hcut
          have q1 := F.ejb
          have q2 := F.ema
          cases p5
          all_goals as_aux_lemma =>
            go_wp2_with (first | (go_at_call 13; ((first | with_reducible refine (CB.go F.lab).mono ?_ | with_reducible refine (CB.go F.lat).mono ?_ | with_reducible refine (CB.go F.lba).mono ?_); rintro e w' ⟨rfl, rfl⟩)) | (go_at_call 14; ((first | with_reducible refine (CI.go F.jab).mono ?_ | with_reducible refine (CI.go F.jjc).mono ?_ | with_reducible refine (CI.go F.jbc).mono ?_ | with_reducible refine (CI.go F.jabc).mono ?_ | with_reducible refine (CI.go F.jam).mono ?_); rintro e w' ⟨rfl, rfl⟩)) | (go_at_call 15; ((first | with_reducible refine (CI.go F.maj).mono ?_); rintro e w' ⟨rfl, rfl⟩)) | (go_at_call 16; ((first | with_reducible refine (CI.go F.top).mono ?_); rintro e w' ⟨rfl, rfl⟩)) | (go_at_call 17; ((first | with_reducible refine (CI.go F.bot).mono ?_); rintro e w' ⟨rfl, rfl⟩)))
            go_ret
            exact ⟨ret_bool (by first | rfl | (simp; done)), hbd⟩
    · go_wp2_with fail
      refine (new_none ao bp off m cp N P wc (by omega) (by omega) (by omega) HC.out H1.out (fun h => by have := H2.out h; have := hb1.size; omega) hin hf).mono ?_
      rintro e w2 ⟨rfl, hb2⟩
      go_wp2
      go_ret
      exact ⟨rfl, hb1.trans (hb2.mono hb1.size)⟩
  · have h0m : 0 < m := by
      apply Classical.byContradiction
      intro h
      exact hin (fun i hi => by omega)
    obtain rfl := H1.out h0m
    have hbad : ∃ i, i < m ∧ ¬ (0 ≤ (P i).1 ∧ (P i).1 < N ∧ 0 ≤ (P i).2 ∧ (P i).2 < N) := by
      apply Classical.byContradiction
      intro h
      exact hin (fun i hi => Classical.byContradiction fun k => h ⟨i, hi, k⟩)
    go_wp2_with fail
    refine (new_pair bp off m cp N P wc (by omega) (by omega) (by omega) HC.out (by have := H2.out h0m; have := hb1.size; omega) hbad).mono ?_
    rintro e w2 ⟨rfl, hb2⟩
    go_wp2
    go_ret
    exact ⟨rfl, hb1.trans (hb2.mono hb1.size)⟩
end Go.Proofs.Yteblfpliiijeaaa
