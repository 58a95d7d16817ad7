/-
  LatticeTurns: in whatever order pairs are told, and however often, they are the same order: the call answers true for every input.
-/
import Derived.Test.YteblfpliiijeaaaLatStep
import Derived.Test.YteblfpliiijeaaaLatLaws
import Derived.Deep.DeepCutAuto
namespace Go.Proofs.Yteblfpliiijeaaa
open Go.RowKit

theorem tmod_fact (a : Int) (m : Nat) (hm : m ≤ 40) : ∃ (r : Int) (k : Nat), a.tmod (m + 1) = r ∧ -42 < r ∧ r < 42 ∧ (r + m + 1).tmod (m + 1) = k ∧ k ≤ m := by
  have hp : (0 : Int) < (m : Int) + 1 := by omega
  have h1 := Int.tmod_lt_of_pos a hp
  have h2 := Int.lt_tmod_of_pos a hp
  have h3 : 0 ≤ (a.tmod (m + 1) + m + 1).tmod (m + 1) := Int.tmod_nonneg _ (by omega)
  have h4 := Int.tmod_lt_of_pos (a.tmod (m + 1) + m + 1) hp
  exact ⟨a.tmod (m + 1), ((a.tmod (m + 1) + m + 1).tmod (m + 1)).toNat, rfl, by omega, by omega, by omega, by omega⟩

theorem src_below {w wx : World} {x : Addr} {l : List Value} (hb : Below w.heap.size w wx) (hs : ∀ j u, l[j]? = some u → w.cell? (x.add j) = some u) : ∀ j u, l[j]? = some u → wx.cell? (x.add j) = some u := by
  intro j u hj
  have k := hs j u hj
  exact (hb.cell (p := x.add j) (block_lt_of_cell k)).trans k

theorem src_of {w wx : World} {x : Addr} {P : Nat → Int × Int} {m c : Nat} (hb : Below w.heap.size w wx) (hs : ∀ j u, (cellsOf P m)[j]? = some u → w.cell? (x.add j) = some u) : SrcOk wx (.slice (some x) m c) m 2 (cellsOf P m) :=
  .inr ⟨x, c, rfl, cellsOf_len P m, src_below hb hs, segOf_one P m⟩

theorem cells_pre {P : Nat → Int × Int} {k m : Nat} (hk : k ≤ m) {w : World} {x : Addr} (hs : ∀ j u, (cellsOf P m)[j]? = some u → w.cell? (x.add j) = some u) : ∀ j u, (cellsOf P k)[j]? = some u → w.cell? (x.add j) = some u := by
  intro j u hj
  obtain ⟨hlt, h⟩ := cellsOf_get P k j u hj
  have c := cellsOf_at P m (j / 2) (by omega)
  rcases h with ⟨e, rfl⟩ | ⟨e, rfl⟩
  · exact hs j _ (by rw [show j = j / 2 * 2 by omega]; simpa using c.1)
  · exact hs j _ (by rw [show j = j / 2 * 2 + 1 by omega]; rw [show (j / 2 * 2 + 1) / 2 = j / 2 by omega]; exact c.2)

theorem cells_post {P : Nat → Int × Int} {k m : Nat} (hk : k ≤ m) {w : World} {x : Addr} (hs : ∀ j u, (cellsOf P m)[j]? = some u → w.cell? (x.add j) = some u) : ∀ j u, (cellsOf (fun i => P (k + i)) (m - k))[j]? = some u → w.cell? ((x.add (k * 2)).add j) = some u := by
  intro j u hj
  obtain ⟨hlt, h⟩ := cellsOf_get _ _ j u hj
  have c := cellsOf_at P m (k + j / 2) (by omega)
  rw [add_add]
  rcases h with ⟨e, rfl⟩ | ⟨e, rfl⟩
  · exact hs _ _ (by rw [show k * 2 + j = (k + j / 2) * 2 by omega]; exact c.1)
  · exact hs _ _ (by rw [show k * 2 + j = (k + j / 2) * 2 + 1 by omega]; exact c.2)

theorem pairs_src {w : World} {x : Addr} {m : Nat} {P : Nat → Int × Int} (hp : IsPairs w (some x) m P) : ∀ j u, (cellsOf P m)[j]? = some u → w.cell? (x.add j) = some u := by
  obtain ⟨b, off, h1, h2, h3⟩ := hp
  intro j u hj
  obtain ⟨hlt, h⟩ := cellsOf_get _ _ j u hj
  have e := h1 (by omega)
  simp only [Option.some.injEq] at e
  subst e
  rw [add_pos _ rfl]
  have c := h3 (j / 2) (by omega)
  rcases h with ⟨e, rfl⟩ | ⟨e, rfl⟩
  · rw [← c.1, show (⟨b, off, none⟩ : Addr).off + j = off + j / 2 * 2 from by show off + j = _; omega]
  · rw [← c.2, show (⟨b, off, none⟩ : Addr).off + j = off + j / 2 * 2 + 1 from by show off + j = _; omega]

theorem pairs_below {w wx : World} {ao : Option Addr} {m : Nat} {P : Nat → Int × Int} (hb : Below w.heap.size w wx) (hp : IsPairs w ao m P) : IsPairs wx ao m P := by
  obtain ⟨b, off, h1, h2, h3⟩ := hp
  exact ⟨b, off, h1, fun h => Nat.lt_of_lt_of_le (h2 h) hb.size, fun i hi => ⟨(hb.cell (p := ⟨b, off + i * 2, none⟩) (h2 (by omega))).trans (h3 i hi).1, (hb.cell (p := ⟨b, off + i * 2 + 1, none⟩) (h2 (by omega))).trans (h3 i hi).2⟩⟩

/-- New over pairs that were read, every way. -/
theorem new_p_fine {w : World} {ao : Option Addr} {n m cp : Nat} {P : Nat → Int × Int} (h0 : 0 < n) (hn : n ≤ 64) (hm : m ≤ 1000) (hp : IsPairs w ao m P) (hin : InRange n m P) (hf : Fine n (upOf n m P) (downOf n m P)) :
    Calls Try.prog 10 #[.int .i64 n, .slice ao m cp] w fun e w' => ∃ b, e = .returned (.tuple #[.pointer (some ⟨b, 0, none⟩), .int .i64 0]) ∧ Below w.heap.size w w' ∧ LatAt w.heap.size w' b n (upOf n m P) (downOf n m P) := by
  obtain ⟨b, off, h1, h2, h3⟩ := hp
  exact new_fine ao b off m cp n P w h0 hn hm h3 h1 h2 hin hf

theorem new_p_none {w : World} {ao : Option Addr} {n m cp : Nat} {P : Nat → Int × Int} (h0 : 0 < n) (hn : n ≤ 64) (hm : m ≤ 1000) (hp : IsPairs w ao m P) (hin : InRange n m P) (hf : ¬ Fine n (upOf n m P) (downOf n m P)) :
    Calls Try.prog 10 #[.int .i64 n, .slice ao m cp] w fun e w' => e = .returned (.tuple #[.pointer none, .int .i64 1]) ∧ Below w.heap.size w w' := by
  obtain ⟨b, off, h1, h2, h3⟩ := hp
  exact new_none ao b off m cp n P w h0 hn hm h3 h1 h2 hin hf

theorem new_p_arg {w : World} {ao : Option Addr} {n m cp : Nat} {P : Nat → Int × Int} (h0 : 0 < n) (hn : n ≤ 64) (hm : m ≤ 1000) (hp : IsPairs w ao m P) (hin : ¬ InRange n m P) :
    Calls Try.prog 10 #[.int .i64 n, .slice ao m cp] w fun e w' => e = .returned (.tuple #[.pointer none, .int .i64 6]) ∧ Below w.heap.size w w' := by
  obtain ⟨b, off, h1, h2, h3⟩ := hp
  have h0m : 0 < m := by
    apply Classical.byContradiction
    intro h
    exact hin (fun i hi => by omega)
  obtain rfl := h1 h0m
  have hbad : ∃ i, i < m ∧ ¬ (0 ≤ (P i).1 ∧ (P i).1 < n ∧ 0 ≤ (P i).2 ∧ (P i).2 < n) := by
    apply Classical.byContradiction
    intro h
    exact hin (fun i hi => Classical.byContradiction fun k => h ⟨i, hi, k⟩)
  exact new_pair b off m cp n P w h0 hn hm h3 (h2 h0m) hbad

theorem own_is {w : World} {base : Nat} {v : Value} {m : Nat} {P : Nat → Int × Int} (hown : w.ownsRow base 43 2 v m (cellsOf P m)) : ∃ ao cap, v = .slice ao m cap ∧ IsPairs w ao m P := by
  obtain ⟨ao, g, cap, rfl, q1, q2, q3⟩ := own_pairs hown
  exact ⟨ao, cap, rfl, g, 0, q1, q2, q3⟩

set_option maxRecDepth 100000 in
set_option maxHeartbeats 4000000 in
theorem turns_some (N : Nat) (x : Addr) (m cp : Nat) (P : Nat → Int × Int) (a b : Nat) (w : World) (g1 : 1 ≤ N) (g2 : (N : Int) ≤ 12) (g3 : (m : Int) ≤ 40) (hmc : m ≤ cp) (ha : (a : Int) < N) (hb : (b : Int) < N) (at_ : Int)
    (hp : IsPairs w (some x) m P) :
    Calls Try.prog 8 #[.int .i64 N, .slice (some x) m cp, .int .i64 at_, .int .i64 a, .int .i64 b] w fun e w' => e = .returned (.bool true) ∧ Below w.heap.size w w' := by
  have hsrc := pairs_src hp
  have HP := Lib.hid hp
  clear hp
  obtain ⟨r, k, R1, R2, R3, R4, hk⟩ := tmod_fact at_ m (by omega)
  obtain ⟨i0, hi, hz0, hz1, hz2⟩ := info_parts Try.infoPair
  go_enter Try.func8, Try.ntmps8
  go_upto_region 1 with (fail)
  go_cut [49] (fun u49 wc => u49 = .bool false ∧ Below w.heap.size w wc)
  case first =>
    go_wp2_with fail
    refine (alive_any _).mono ?_
    rintro e w1 ⟨rfl, hb1⟩
    go_wp2
    go_meet
    case rel => exact ⟨congrArg Value.bool (by simp; omega), hb1⟩
  case rest =>
  obtain ⟨rfl, hb1⟩ := hcut
  obtain ⟨A, hA, hAc⟩ : ∃ A, (if cp = k then some x else some (x.add (k * 2))) = some A ∧ ∀ j u, (cellsOf (fun i => P (k + i)) (m - k))[j]? = some u → w.cell? (A.add j) = some u := by
    by_cases e : cp = k
    · refine ⟨x, by rw [if_pos e], ?_⟩
      have : m - k = 0 := by omega
      rw [this]
      intro j u hj
      simp [cellsOf] at hj
    · exact ⟨x.add (k * 2), by rw [if_neg e], cells_post hk hsrc⟩
  have S1 := Lib.hid (fun (wx : World) (hbx : Below w.heap.size w wx) => (src_of hbx hAc : SrcOk wx (.slice (some A) (m - k) (cp - k)) (m - k) 2 (cellsOf (fun i => P (k + i)) (m - k))))
  have S2 := Lib.hid (fun (wx : World) (hbx : Below w.heap.size w wx) => (src_of hbx (cells_pre hk hsrc) : SrcOk wx (.slice (some x) k cp) k 2 (cellsOf P k)))
  have S3 := Lib.hid (fun (wx : World) (hbx : Below w.heap.size w wx) => (src_of hbx hsrc : SrcOk wx (.slice (some x) m cp) m 2 (cellsOf P m)))
  have HS := Lib.hid hsrc
  clear hAc hsrc
  have B1 : (0 + (m - k) ≤ maxLen ∧ (0 + (m - k)) * 16 ≤ 140737488355328) := by unfold maxLen; omega
  have B2 : (m - k + k ≤ maxLen ∧ (m - k + k) * 16 ≤ 140737488355328) := by unfold maxLen; omega
  have B3 : (m - k + k + m ≤ maxLen ∧ (m - k + k + m) * 16 ≤ 140737488355328) := by unfold maxLen; omega
  have HB1 := Lib.hid B1
  have HB2 := Lib.hid B2
  have HB3 := Lib.hid B3
  clear B1 B2 B3
  have hkc : k ≤ cp := Nat.le_trans hk hmc
  have hkc2 : (k : Int) ≤ cp := by omega
  go_upto_region 4 with (fail)
  go_cut [12] (fun u12 we => Below w.heap.size w we ∧ we.ownsRow w.heap.size 43 2 u12 (m - k + k + m) ((cellsOf (fun i => P (k + i)) (m - k) ++ cellsOf P k) ++ cellsOf P m))
  case first =>
    have hbd := hb1.drew
    go_region_law (first
      | (refine step_append_own rfl (.const (.slice none 0 0)) (.tmp 66) 22 rfl w.heap.size 43 i0 (.agg #[.int .i64 0, .int .i64 0]) 2 16 Try.underlying22 hi hz0 hz1 hz2 rfl (by decide) (.slice none 0 0) 0 [] rfl (World.ownsRow_nil _ _ _ _) (.slice (some A) (m - k) (cp - k)) (m - k) (cellsOf (fun i => P (k + i)) (m - k)) (by simp [Act.eval, Act.put]) (S1.out _ hbd) HB1.out.1 HB1.out.2 hbd.size ?_; intro v1 w1 hown1 hgrow1; have hbel1 := hbd.grown hgrow1 hbd.size (fun j hj => by cases hj); simp only [Nat.zero_add, List.nil_append] at hown1)
      | (refine step_append_own rfl (.tmp 67) (.tmp 70) 22 rfl w.heap.size 43 i0 (.agg #[.int .i64 0, .int .i64 0]) 2 16 Try.underlying22 hi hz0 hz1 hz2 rfl (by decide) v1 (m - k) (cellsOf (fun i => P (k + i)) (m - k)) (by simp [Act.eval, Act.put]) hown1 (.slice (some x) k cp) k (cellsOf P k) (by simp [Act.eval, Act.put]) (S2.out _ hbel1) HB2.out.1 HB2.out.2 hbel1.size ?_; intro v2 w2 hown2 hgrow2; have hbel2 := hbel1.grown hgrow2 hbel1.size (fun j hj => (hown1.lt j hj).1))
      | (refine step_append_own rfl (.tmp 71) (.tmp 72) 22 rfl w.heap.size 43 i0 (.agg #[.int .i64 0, .int .i64 0]) 2 16 Try.underlying22 hi hz0 hz1 hz2 rfl (by decide) v2 (m - k + k) (cellsOf (fun i => P (k + i)) (m - k) ++ cellsOf P k) (by simp [Act.eval, Act.put]) hown2 (.slice (some x) m cp) m (cellsOf P m) (by simp [Act.eval, Act.put]) (S3.out _ hbel2) HB3.out.1 HB3.out.2 hbel2.size ?_; intro v3 w3 hown3 hgrow3; have hbel3 := hbel2.grown hgrow3 hbel2.size (fun j hj => (hown2.lt j hj).1)))
    all_goals
      go_wp2
      go_meet
      case rel => exact ⟨hbel3, hown3⟩
  case rest =>
    obtain ⟨hbel, hown⟩ := hcut
    rw [turn_cells P k m hk, show m - k + k + m = m + m by omega] at hown
    obtain ⟨ao2, cap2, rfl, hp2⟩ := own_is hown
    have HP2 := Lib.hid hp2
    clear hown hp2 HB1 HB2 HB3 S1 S2 S3 hA R1 R4 hb1
    by_cases hin : InRange N m P
    · have hin2 : InRange N (m + m) (turnP P k m) := (turn_all P k m hk (fun p => 0 ≤ p.1 ∧ p.1 < N ∧ 0 ≤ p.2 ∧ p.2 < N)).1 hin
      have hU := upOf_congr (n := N) (by omega) hin hin2 (turn_edge P k m hk)
      have hD := downOf_congr hU
      by_cases hf : Fine N (upOf N m P) (downOf N m P)
      · have hf2 : Fine N (upOf N (m + m) (turnP P k m)) (downOf N (m + m) (turnP P k m)) := by rw [← hU, ← hD]; exact hf
        have HU := Lib.hid hU
        have HD := Lib.hid hD
        have HF := Lib.hid (show (InRange N m P ∧ InRange N (m + m) (turnP P k m)) ∧ Fine N (upOf N m P) (downOf N m P) ∧ Fine N (upOf N (m + m) (turnP P k m)) (downOf N (m + m) (turnP P k m)) from ⟨⟨hin, hin2⟩, hf, hf2⟩)
        clear hin hin2 hU hD hf hf2
        go_wp2_with fail
        refine (new_p_fine g1 (by omega) (by omega) (pairs_below hbel HP.out) HF.out.1.1 HF.out.2.1).mono ?_
        rintro e w4 ⟨q1, rfl, hb4, hl1⟩
        go_wp2_with fail
        refine (new_p_fine g1 (by omega) (by omega) (pairs_below hb4 HP2.out) HF.out.1.2 HF.out.2.2).mono ?_
        rintro e w5 ⟨q2, rfl, hb5, hl2⟩
        have hl1' := latAt_below hl1 hb5
        rw [← HU.out, ← HD.out] at hl2
        have hbb := (hbel.trans (hb4.mono hbel.size)).trans (hb5.mono (by have := hbel.size; have := hb4.size; omega))
        have za : (0 : Int) ≤ a := by omega
        have zb : (0 : Int) ≤ b := by omega
        have zn : N ≤ 64 := by omega
        have c1 := CI.of (at_join hl1' zn a b za ha zb hb) rfl
        have c2 := CI.of (at_join hl2 zn a b za ha zb hb) rfl
        have c3 := CI.of (at_meet hl1' zn a b za ha zb hb) rfl
        have c4 := CI.of (at_meet hl2 zn a b za ha zb hb) rfl
        have c5 := CB.of (at_leq hl1' zn a b za ha zb hb) rfl
        have c6 := CB.of (at_leq hl2 zn a b za ha zb hb) rfl
        generalize joinF N (upOf N m P) (Int.toNat a) (Int.toNat b) = J at c1 c2
        generalize joinF N (downOf N m P) (Int.toNat a) (Int.toNat b) = M at c3 c4
        generalize ((upOf N m P).getD (Int.toNat a) 0).testBit (Int.toNat b) = L at c5 c6
        have eL : (L == L) = true := by simp
        clear hl1 hl1' hl2 hb4 hb5 hbel za zb zn
        go_wp2_with fail
        refine (show Calls _ _ _ _ _ from c1).mono ?_
        rintro e w6 ⟨rfl, rfl⟩
        go_wp2_with fail
        refine (show Calls _ _ _ _ _ from c2).mono ?_
        rintro e w6 ⟨rfl, rfl⟩
        go_wp2_with fail
        refine (show Calls _ _ _ _ _ from c3).mono ?_
        rintro e w6 ⟨rfl, rfl⟩
        go_wp2_with fail
        refine (show Calls _ _ _ _ _ from c4).mono ?_
        rintro e w6 ⟨rfl, rfl⟩
        go_wp2_with fail
        refine (show Calls _ _ _ _ _ from c5).mono ?_
        rintro e w6 ⟨rfl, rfl⟩
        go_wp2_with fail
        refine (show Calls _ _ _ _ _ from c6).mono ?_
        rintro e w6 ⟨rfl, rfl⟩
        go_wp2
        go_ret
        exact ⟨ret_bool (by first | rfl | (simp; done)), hbb⟩
      · have hf2 : ¬ Fine N (upOf N (m + m) (turnP P k m)) (downOf N (m + m) (turnP P k m)) := by rw [← hU, ← hD]; exact hf
        have HF := Lib.hid (show (InRange N m P ∧ InRange N (m + m) (turnP P k m)) ∧ ¬ Fine N (upOf N m P) (downOf N m P) ∧ ¬ Fine N (upOf N (m + m) (turnP P k m)) (downOf N (m + m) (turnP P k m)) from ⟨⟨hin, hin2⟩, hf, hf2⟩)
        clear hin hin2 hU hD hf hf2
        go_wp2_with fail
        refine (new_p_none g1 (by omega) (by omega) (pairs_below hbel HP.out) HF.out.1.1 HF.out.2.1).mono ?_
        rintro e w4 ⟨rfl, hb4⟩
        go_wp2_with fail
        refine (new_p_none g1 (by omega) (by omega) (pairs_below hb4 HP2.out) HF.out.1.2 HF.out.2.2).mono ?_
        rintro e w5 ⟨rfl, hb5⟩
        go_wp2
        go_ret
        exact ⟨rfl, (hbel.trans (hb4.mono hbel.size)).trans (hb5.mono (by have := hbel.size; have := hb4.size; omega))⟩
    · have hin2 : ¬ InRange N (m + m) (turnP P k m) := fun h => hin ((turn_all P k m hk (fun p => 0 ≤ p.1 ∧ p.1 < N ∧ 0 ≤ p.2 ∧ p.2 < N)).2 h)
      have HF := Lib.hid (show ¬ InRange N m P ∧ ¬ InRange N (m + m) (turnP P k m) from ⟨hin, hin2⟩)
      clear hin hin2
      go_wp2_with fail
      refine (new_p_arg g1 (by omega) (by omega) (pairs_below hbel HP.out) HF.out.1).mono ?_
      rintro e w4 ⟨rfl, hb4⟩
      go_wp2_with fail
      refine (new_p_arg g1 (by omega) (by omega) (pairs_below hb4 HP2.out) HF.out.2).mono ?_
      rintro e w5 ⟨rfl, hb5⟩
      go_wp2
      go_ret
      exact ⟨rfl, (hbel.trans (hb4.mono hbel.size)).trans (hb5.mono (by have := hbel.size; have := hb4.size; omega))⟩

theorem nilP (w : World) : IsPairs w none 0 P0 := ⟨0, 0, fun h => absurd h (by omega), fun h => absurd h (by omega), fun i hi => absurd hi (by omega)⟩

set_option maxRecDepth 100000 in
set_option maxHeartbeats 4000000 in
theorem turns_nil (N : Nat) (a b : Nat) (w : World) (g1 : 1 ≤ N) (g2 : (N : Int) ≤ 12) (ha : (a : Int) < N) (hb : (b : Int) < N) (at_ : Int) :
    Calls Try.prog 8 #[.int .i64 N, .slice none 0 0, .int .i64 at_, .int .i64 a, .int .i64 b] w fun e w' => e = .returned (.bool true) ∧ Below w.heap.size w w' := by
  have R1 : at_.tmod 1 = 0 := by have h1 := Int.tmod_lt_of_pos at_ (show (0 : Int) < 1 by omega); have h2 := Int.lt_tmod_of_pos at_ (show (0 : Int) < 1 by omega); omega
  obtain ⟨i0, hi, hz0, hz1, hz2⟩ := info_parts Try.infoPair
  go_enter Try.func8, Try.ntmps8
  go_upto_region 1 with (fail)
  go_cut [49] (fun u49 wc => u49 = .bool false ∧ Below w.heap.size w wc)
  case first =>
    go_wp2_with fail
    refine (alive_any _).mono ?_
    rintro e w1 ⟨rfl, hb1⟩
    go_wp2
    go_meet
    case rel => exact ⟨congrArg Value.bool (by simp; omega), hb1⟩
  case rest =>
  obtain ⟨rfl, hb1⟩ := hcut
  go_upto_region 4 with (fail)
  go_cut [12] (fun u12 we => u12 = .slice none 0 0 ∧ Below w.heap.size w we)
  case first =>
    have hbd := hb1.drew
    go_region_law (first
      | refine step_append_none rfl (.const (.slice none 0 0)) (.tmp 66) 22 rfl w.heap.size 43 i0 2 Try.underlying22 hi (.slice none 0 0) 0 [] rfl (World.ownsRow_nil _ _ _ _) (by simp [Act.eval, Act.put]) ?_
      | refine step_append_none rfl (.tmp 67) (.tmp 70) 22 rfl w.heap.size 43 i0 2 Try.underlying22 hi (.slice none 0 0) 0 [] (by simp [Act.eval, Act.put]) (World.ownsRow_nil _ _ _ _) (by simp [Act.eval, Act.put]) ?_
      | refine step_append_none rfl (.tmp 71) (.tmp 72) 22 rfl w.heap.size 43 i0 2 Try.underlying22 hi (.slice none 0 0) 0 [] (by simp [Act.eval, Act.put]) (World.ownsRow_nil _ _ _ _) (by simp [Act.eval, Act.put]) ?_)
    all_goals
      go_wp2
      go_meet
      case rel => exact ⟨rfl, hbd⟩
  case rest =>
    obtain ⟨rfl, hbel⟩ := hcut
    have HI := in_P0 N
    by_cases hf : Fine N (upOf N 0 P0) (downOf N 0 P0)
    · have HFi := hf
      clear hf
      go_wp2_with fail
      refine (new_p_fine g1 (by omega) (by omega) (nilP _) HI HFi).mono ?_
      rintro e w4 ⟨q1, rfl, hb4, hl1⟩
      go_wp2_with fail
      refine (new_p_fine g1 (by omega) (by omega) (nilP _) HI HFi).mono ?_
      rintro e w5 ⟨q2, rfl, hb5, hl2⟩
      have hl1' := latAt_below hl1 hb5
      have hbb := (hbel.trans (hb4.mono hbel.size)).trans (hb5.mono (by have := hbel.size; have := hb4.size; omega))
      have za : (0 : Int) ≤ a := by omega
      have zb : (0 : Int) ≤ b := by omega
      have zn : N ≤ 64 := by omega
      have c1 := CI.of (at_join hl1' zn a b za ha zb hb) rfl
      have c2 := CI.of (at_join hl2 zn a b za ha zb hb) rfl
      have c3 := CI.of (at_meet hl1' zn a b za ha zb hb) rfl
      have c4 := CI.of (at_meet hl2 zn a b za ha zb hb) rfl
      have c5 := CB.of (at_leq hl1' zn a b za ha zb hb) rfl
      have c6 := CB.of (at_leq hl2 zn a b za ha zb hb) rfl
      generalize joinF N (upOf N 0 P0) (Int.toNat a) (Int.toNat b) = J at c1 c2
      generalize joinF N (downOf N 0 P0) (Int.toNat a) (Int.toNat b) = M at c3 c4
      generalize ((upOf N 0 P0).getD (Int.toNat a) 0).testBit (Int.toNat b) = L at c5 c6
      have eL : (L == L) = true := by simp
      clear hl1 hl1' hl2 hb4 hb5 hbel za zb zn
      go_wp2_with fail
      refine (show Calls _ _ _ _ _ from c1).mono ?_
      rintro e w6 ⟨rfl, rfl⟩
      go_wp2_with fail
      refine (show Calls _ _ _ _ _ from c2).mono ?_
      rintro e w6 ⟨rfl, rfl⟩
      go_wp2_with fail
      refine (show Calls _ _ _ _ _ from c3).mono ?_
      rintro e w6 ⟨rfl, rfl⟩
      go_wp2_with fail
      refine (show Calls _ _ _ _ _ from c4).mono ?_
      rintro e w6 ⟨rfl, rfl⟩
      go_wp2_with fail
      refine (show Calls _ _ _ _ _ from c5).mono ?_
      rintro e w6 ⟨rfl, rfl⟩
      go_wp2_with fail
      refine (show Calls _ _ _ _ _ from c6).mono ?_
      rintro e w6 ⟨rfl, rfl⟩
      go_wp2
      go_ret
      exact ⟨ret_bool (by first | rfl | (simp; done)), hbb⟩
    · have HFi := hf
      clear hf
      go_wp2_with fail
      refine (new_p_none g1 (by omega) (by omega) (nilP _) HI HFi).mono ?_
      rintro e w4 ⟨rfl, hb4⟩
      go_wp2_with fail
      refine (new_p_none g1 (by omega) (by omega) (nilP _) HI HFi).mono ?_
      rintro e w5 ⟨rfl, hb5⟩
      go_wp2
      go_ret
      exact ⟨rfl, (hbel.trans (hb4.mono hbel.size)).trans (hb5.mono (by have := hbel.size; have := hb4.size; omega))⟩

set_option maxRecDepth 100000 in
set_option maxHeartbeats 4000000 in
theorem turns_guard (n : Int) (ao : Option Addr) (m cp : Nat) (at_ a b : Int) (w : World) (hm : (m : Int) ≤ 9223372036854775807) (hg : n < 1 ∨ 12 < n ∨ 40 < m ∨ a < 0 ∨ b < 0 ∨ n ≤ a ∨ n ≤ b) :
    Calls Try.prog 8 #[.int .i64 n, .slice ao m cp, .int .i64 at_, .int .i64 a, .int .i64 b] w fun e w' => e = .returned (.bool true) ∧ Below w.heap.size w w' := by
  by_cases c1 : n < 1
  · go_enter Try.func8, Try.ntmps8
    go_wp2_with (go_at_call 9; refine (alive_any _).mono ?_; rintro e w' ⟨rfl, hbel⟩)
    go_ret
    exact ⟨rfl, by assumption⟩
  by_cases c2 : 12 < n
  · go_enter Try.func8, Try.ntmps8
    go_wp2_with (go_at_call 9; refine (alive_any _).mono ?_; rintro e w' ⟨rfl, hbel⟩)
    go_ret
    exact ⟨rfl, by assumption⟩
  by_cases c3 : 40 < (m : Int)
  · go_enter Try.func8, Try.ntmps8
    go_wp2_with (go_at_call 9; refine (alive_any _).mono ?_; rintro e w' ⟨rfl, hbel⟩)
    go_ret
    exact ⟨rfl, by assumption⟩
  by_cases c4 : a < 0
  · go_enter Try.func8, Try.ntmps8
    go_wp2_with (go_at_call 9; refine (alive_any _).mono ?_; rintro e w' ⟨rfl, hbel⟩)
    go_ret
    exact ⟨rfl, by assumption⟩
  by_cases c5 : b < 0
  · go_enter Try.func8, Try.ntmps8
    go_wp2_with (go_at_call 9; refine (alive_any _).mono ?_; rintro e w' ⟨rfl, hbel⟩)
    go_ret
    exact ⟨rfl, by assumption⟩
  by_cases c6 : n ≤ a
  · go_enter Try.func8, Try.ntmps8
    go_wp2_with (go_at_call 9; refine (alive_any _).mono ?_; rintro e w' ⟨rfl, hbel⟩)
    go_ret
    exact ⟨rfl, by assumption⟩
  have c7 : n ≤ b := by omega
  go_enter Try.func8, Try.ntmps8
  go_wp2_with (go_at_call 9; refine (alive_any _).mono ?_; rintro e w' ⟨rfl, hbel⟩)
  go_ret
  exact ⟨rfl, by assumption⟩

theorem turns_any (n : Int) (ao : Option Addr) (m cp : Nat) (at_ a b : Int) (w : World) (_w0 : (Lit.int .i64 n).wf = true) (P : Nat → Int × Int) (hp : IsPairs w ao m P) (hm0 : (m : Int) ≤ 9223372036854775807 ∧ m ≤ cp ∧ (ao = none → m = 0 ∧ cp = 0))
    (_w1 : (Lit.int .i64 at_).wf = true) (_w2 : (Lit.int .i64 a).wf = true) (_w3 : (Lit.int .i64 b).wf = true) :
    Calls Try.prog 8 #[.int .i64 n, .slice ao m cp, .int .i64 at_, .int .i64 a, .int .i64 b] w fun e w' => e = .returned (.bool true) ∧ Below w.heap.size w w' := by
  by_cases hg : n < 1 ∨ 12 < n ∨ 40 < m ∨ a < 0 ∨ b < 0 ∨ n ≤ a ∨ n ≤ b
  · exact turns_guard n ao m cp at_ a b w hm0.1 hg
  obtain ⟨N, rfl⟩ := Int.eq_ofNat_of_zero_le (show 0 ≤ n by omega)
  obtain ⟨A, rfl⟩ := Int.eq_ofNat_of_zero_le (show 0 ≤ a by omega)
  obtain ⟨B, rfl⟩ := Int.eq_ofNat_of_zero_le (show 0 ≤ b by omega)
  cases ao with
  | none =>
    obtain ⟨rfl, rfl⟩ := hm0.2.2 rfl
    exact turns_nil N A B w (by omega) (by omega) (by omega) (by omega) at_
  | some x => exact turns_some N x m cp P A B w (by omega) (by omega) (by omega) hm0.2.1 (by omega) (by omega) at_ hp

end Go.Proofs.Yteblfpliiijeaaa
