/-
  InlineLines: each end of a line is a break, hard or soft, and there is no other one: the walk of the law.
-/
import Derived.Test.YtahljcbmckldhaaGreatDoorInlG
import Derived.Deep.QuietTactic
import Derived.BigQuiet
namespace Go.Proofs.YtahljcbmckldhaaGreatDoor
open Go.RowKit
set_option maxRecDepth 100000
set_option linter.unusedVariables false
set_option linter.unusedSimpArgs false

def hardsOf (Q : Nat → Bool) (len2 j : Nat) : Nat := if j < len2 ∧ Q j = true then 2 else 0
theorem hards_yes {Q : Nat → Bool} {len2 j : Nat} (h : j < len2) (hq : Q j = true) : hardsOf Q len2 j = 2 := if_pos ⟨h, hq⟩
theorem hards_no {Q : Nat → Bool} {len2 j : Nat} (hq : Q j = false) : hardsOf Q len2 j = 0 := if_neg (fun h => by rw [hq] at h; exact absurd h.2 (by decide))
theorem hards_out {Q : Nat → Bool} {len2 j : Nat} (h : ¬ j < len2) : hardsOf Q len2 j = 0 := if_neg (fun hh => h hh.1)
theorem text_step (P : Nat → ByteArray) (n : Nat → Nat) (len i : Nat) (T x : ByteArray) (B : List UInt8) (h : T.data.toList ++ joinB 2 ((linesOf P n len).drop i) = joinB 2 (linesOf P n len)) (hi : i < len) (hx : P i = x)
    (hB : B = if i + 1 < len then brkT (n i) 2 else []) : (T.data.toList ++ (x.data.toList ++ B)) ++ joinB 2 ((linesOf P n len).drop (i + 1)) = joinB 2 (linesOf P n len) := by
  rw [joinB_drop 2 _ i _ (linesOf_at P n len i hi), linesOf_len, hx] at h
  rw [← h, hB]
  by_cases hl : i + 1 < len
  · rw [if_pos hl, if_pos hl]; simp
  · rw [if_neg hl, if_neg hl, List.drop_eq_nil_of_le (by rw [linesOf_len]; omega)]; simp [joinB]


set_option maxHeartbeats 8000000 in
theorem law_ilines (a : Option Addr) (len cap : Nat) (a2 : Option Addr) (len2 cap2 : Nat) (w : World) (P : Nat → ByteArray) (hP : IsRow1 Value.string w a len P) (Q : Nat → Bool) (hQ : IsRow1 Value.bool w a2 len2 Q) (hE : Env w) :
    Calls Tryz.prog 8 #[.slice a len cap, .slice a2 len2 cap2] w fun e w' => e = .returned (.bool true) ∧ Below w.heap.size w w' := by
  by_cases t1 : (len : Int) < 1
  · go_enter Tryz.func8, Tryz.ntmps8
    go_wp2_with fail
    refine (alive15 _ hE).mono ?_
    rintro e w1 ⟨rfl, b1⟩
    go_wp2_with fail
    go_ret
    exact ⟨rfl, b1⟩
  · by_cases t2 : (12 : Int) < (len : Int)
    · go_enter Tryz.func8, Tryz.ntmps8
      go_wp2_with fail
      refine (alive15 _ hE).mono ?_
      rintro e w1 ⟨rfl, b1⟩
      go_wp2_with fail
      go_ret
      exact ⟨rfl, b1⟩
    · by_cases t3 : (12 : Int) < (len2 : Int)
      · go_enter Tryz.func8, Tryz.ntmps8
        go_wp2_with fail
        refine (alive15 _ hE).mono ?_
        rintro e w1 ⟨rfl, b1⟩
        go_wp2_with fail
        go_ret
        exact ⟨rfl, b1⟩
      · have HE := Lib.hid hE
        have HP := Lib.hid hP
        have HQ := Lib.hid hQ
        clear hE hP hQ
        go_enter Tryz.func8, Tryz.ntmps8
        go_wp2_with fail
        refine (alive15 _ HE.out).mono ?_
        rintro e w1 ⟨rfl, b1⟩
        go_wp2_with fail
        go_loopw [5, 32] (fun u5 u32 wr => ∃ (i : Nat) (T : ByteArray), i ≤ len ∧ u32 = .int .i64 i ∧ u5 = .string T ∧ T.data.toList ++ joinB 2 ((linesOf P (hardsOf Q len2) len).drop i) = joinB 2 (linesOf P (hardsOf Q len2) len) ∧ Good P i ∧ T.size ≤ 40 * i ∧ Below w.heap.size w wr) (fun _ u32 _ => len - (intOf u32).toNat)
        case atStart => exact ⟨0, ⟨#[]⟩, by omega, rfl, rfl, rfl, Good.zero P, by decide, b1⟩
        case round =>
          obtain ⟨i, T, hi, rfl, rfl, hT, hgd, hTz, hB⟩ := hrel
          have HT := Lib.hid hT
          have HGD := Lib.hid hgd
          clear hT hgd
          by_cases hlt : i < len
          · obtain ⟨b, off, hx1, hx2, hx3, hx4⟩ := HP.out
            have hxa := hx1 (by omega)
            have hxb := hx2 (by omega)
            obtain ⟨x, hx⟩ : ∃ x, P i = x := ⟨_, rfl⟩
            have hxc : wr.cell? ⟨b, off + i, none⟩ = some (.string x) := by rw [← hx]; exact (hB.cell (p := ⟨b, off + i, none⟩) hxb).trans (hx3 i hlt)
            subst hxa
            have HX := Lib.hid hx
            clear hx1 hx2 hx3 hx
            by_cases t0 : x.size = 0
            · have he := empty_yes t0
              go_wp2_with fail
              go_ret
              exact ⟨rfl, hB⟩
            · have he := empty_no (s := x) (by omega)
              by_cases t4 : (30 : Int) < (x.size : Int)
              · go_wp2_with fail
                go_ret
                exact ⟨rfl, hB⟩
              · go_wp2_with fail
                go_loop [8] (fun ui => ∃ k : Nat, k ≤ (x).size ∧ ui = .int .i64 k ∧ Letters ((x).data.toList.take k)) (fun ui => (x).size - (intOf ui).toNat)
                case atStart => exact ⟨0, Nat.zero_le _, rfl, fun b hb => by simp at hb⟩
                case round =>
                  obtain ⟨k, hk, rfl, hl⟩ := hrel
                  have HL := Lib.hid hl
                  clear hl
                  by_cases hkt : k < (x).size
                  · have hg := Lib.data_getElem? x k hkt
                    obtain ⟨d, hd⟩ : ∃ d, (x)[k] = d := ⟨_, rfl⟩
                    rw [hd] at hg
                    have HG := Lib.hid hg
                    clear hg
                    by_cases t1 : (d.toNat : Int) < 97
                    · go_wp2_with fail
                      go_ret
                      exact ⟨rfl, hB⟩
                    · by_cases t2 : (122 : Int) < (d.toNat : Int)
                      · go_wp2_with fail
                        go_ret
                        exact ⟨rfl, hB⟩
                      · have HN := Lib.hid (letters_take HL.out HG.out (by omega))
                        go_wp2_with fail
                        go_round
                        case rel => exact ⟨k + 1, by omega, by go_num, HN.out⟩
                        case measure => simp [intOf]; omega
                  · obtain rfl : k = x.size := by omega
                    have HGN := Lib.hid (HGD.out.step HX.out (Letters.lined (by have := HL.out; rwa [take_all] at this) (ba_ne t0)))
                    clear HL
                    by_cases hin : i + 1 < len
                    · have hin2 : (i : Int) < (len : Int) - 1 := by omega
                      by_cases hi2 : i < len2
                      · obtain ⟨b2, off2, hy1, hy2, hy3, hy4⟩ := HQ.out
                        have hya := hy1 (by omega)
                        have hyb := hy2 (by omega)
                        obtain ⟨q, hq⟩ : ∃ q, Q i = q := ⟨_, rfl⟩
                        have hyc : wr.cell? ⟨b2, off2 + i, none⟩ = some (.bool q) := by rw [← hq]; exact (hB.cell (p := ⟨b2, off2 + i, none⟩) hyb).trans (hy3 i hi2)
                        subst hya
                        have hi3 : (i : Int) < (len2 : Int) := by omega
                        cases q
                        · have HH := Lib.hid (hards_no (len2 := len2) hq)
                          clear hy1 hy2 hy3 hq
                          have HST := Lib.hid (text_step P (hardsOf Q len2) len i T x ([10, 32, 32]) HT.out hlt HX.out)
                          go_wp2_with fail
                          go_roundw
                          case rel =>
                            refine ⟨i + 1, _, by omega, by go_num, rfl, ?_, HGN.out, ?_, hB⟩
                            · have h1 := HST.out (by first | rw [if_neg (by omega)] | (rw [if_pos (by omega), HH.out]; rfl))
                              simp only [app_list, List.append_assoc]
                              simpa using h1
                            · rw [Lib.size_eq]
                              simp only [app_list, List.length_append]
                              rw [← Lib.size_eq, ← Lib.size_eq]
                              first | (simp; omega) | omega
                          case measure => simp [intOf]; omega
                        · have HH := Lib.hid (hards_yes hi2 hq)
                          clear hy1 hy2 hy3 hq
                          have HST := Lib.hid (text_step P (hardsOf Q len2) len i T x ([32, 32, 10, 32, 32]) HT.out hlt HX.out)
                          go_wp2_with fail
                          go_roundw
                          case rel =>
                            refine ⟨i + 1, _, by omega, by go_num, rfl, ?_, HGN.out, ?_, hB⟩
                            · have h1 := HST.out (by first | rw [if_neg (by omega)] | (rw [if_pos (by omega), HH.out]; rfl))
                              simp only [app_list, List.append_assoc]
                              simpa using h1
                            · rw [Lib.size_eq]
                              simp only [app_list, List.length_append]
                              rw [← Lib.size_eq, ← Lib.size_eq]
                              first | (simp; omega) | omega
                          case measure => simp [intOf]; omega
                      · have hi3 : ¬ (i : Int) < (len2 : Int) := by omega
                        have HH := Lib.hid (hards_out (Q := Q) hi2)
                        have HST := Lib.hid (text_step P (hardsOf Q len2) len i T x ([10, 32, 32]) HT.out hlt HX.out)
                        go_wp2_with fail
                        go_roundw
                        case rel =>
                          refine ⟨i + 1, _, by omega, by go_num, rfl, ?_, HGN.out, ?_, hB⟩
                          · have h1 := HST.out (by first | rw [if_neg (by omega)] | (rw [if_pos (by omega), HH.out]; rfl))
                            simp only [app_list, List.append_assoc]
                            simpa using h1
                          · rw [Lib.size_eq]
                            simp only [app_list, List.length_append]
                            rw [← Lib.size_eq, ← Lib.size_eq]
                            first | (simp; omega) | omega
                        case measure => simp [intOf]; omega
                    · have hin2 : ¬ (i : Int) < (len : Int) - 1 := by omega
                      have HH := Lib.hid (True.intro)
                      have HST := Lib.hid (text_step P (hardsOf Q len2) len i T x ([]) HT.out hlt HX.out)
                      go_wp2_with fail
                      go_roundw
                      case rel =>
                        refine ⟨i + 1, _, by omega, by go_num, rfl, ?_, HGN.out, ?_, hB⟩
                        · have h1 := HST.out (by first | rw [if_neg (by omega)] | (rw [if_pos (by omega), HH.out]; rfl))
                          simp only [app_list, List.append_assoc]
                          simpa using h1
                        · rw [Lib.size_eq]
                          simp only [app_list, List.length_append]
                          rw [← Lib.size_eq, ← Lib.size_eq]
                          first | (simp; omega) | omega
                      case measure => simp [intOf]; omega
          · obtain rfl : i = len := by omega
            have hTj := HT.out
            rw [List.drop_eq_nil_of_le (by rw [linesOf_len]; omega), joinB, List.append_nil] at hTj
            have hpl := lines_plain 2 (linesOf P (hardsOf Q len2) i) (HGD.out.lines _)
            rw [← hTj] at hpl
            have hraw := raw_any T wr (HE.out.below hB) (by omega)
            rw [hpl] at hraw
            have hnl := nodes_len P (hardsOf Q len2) i
            have HNW := Lib.hid (nodes_word P (hardsOf Q len2) i)
            have HNB := Lib.hid (nodes_brk P (hardsOf Q len2) i)
            obtain ⟨l, hl⟩ : ∃ l, nodesB (linesOf P (hardsOf Q len2) i) = l := ⟨_, rfl⟩
            rw [hl] at hraw hnl HNW HNB
            clear hpl hTj HT hl HGD
            obtain ⟨M, hM⟩ : ∃ M, l.length = M := ⟨_, rfl⟩
            have hMi : (M : Int) = 2 * (i : Int) - 1 := by omega
            have hMz : M ≤ 30 := by omega
            have hMe : ((M : Int) != 2 * (i : Int) - 1) = false := by simp; omega
            have k1 : Calls Tryz.prog 11 #[.string T] wr fun e w' => ∃ g c, e = .returned (.slice (some ⟨g, 0, none⟩) M c) ∧ g < w'.heap.size ∧ (∀ k x, l[k]? = some x → NodeAt w' g k (x.kind : Int) (x.depth : Int) ⟨x.text.toArray⟩ ⟨x.url.toArray⟩ ⟨x.title.toArray⟩) ∧ Below wr.heap.size wr w' := by
              refine hraw.mono ?_
              rintro e w5 ⟨v, rfl, hI, b5⟩
              obtain ⟨g, c, rfl, hg, hc⟩ := inls_at hI (by omega)
              exact ⟨g, c, by rw [hM], hg, hc, b5⟩
            have K1 := Lib.hid k1
            have HM := Lib.hid hMi
            clear hraw k1 hM hnl hMi
            go_wp2_with fail
            refine K1.out.mono ?_
            rintro e w5 ⟨g, c, rfl, hg, hc, b5⟩
            have B5 := hB.trans (b5.mono hB.size)
            have HC := Lib.hid hc
            clear hc b5
            go_wp2_with fail
            go_loopw [10] (fun u10 wr => ∃ k : Nat, k ≤ i ∧ u10 = .int .i64 k ∧ Below w5.heap.size w5 wr) (fun u10 _ => i - (intOf u10).toNat)
            case atStart => exact ⟨0, Nat.zero_le _, rfl, Below.refl _ _⟩
            case round =>
              obtain ⟨z, hk, rfl, hb5⟩ := hrel
              by_cases hin : z + 1 < i
              · have hin2 : (z : Int) < (i : Int) - 1 := by omega
                have hB6 := B5.trans (hb5.mono B5.size)
                obtain ⟨b, off, hx1, hx2, hx3, hx4⟩ := HP.out
                have hxa := hx1 (by omega)
                have hxb := hx2 (by omega)
                obtain ⟨x, hx⟩ : ∃ x, P z = x := ⟨_, rfl⟩
                have hxc : wr.cell? ⟨b, off + z, none⟩ = some (.string x) := by rw [← hx]; exact (hB6.cell (p := ⟨b, off + z, none⟩) hxb).trans (hx3 z (by omega))
                subst hxa
                clear hx1 hx2 hx3
                by_cases hi2 : z < len2
                · obtain ⟨b2, off2, hy1, hy2, hy3, hy4⟩ := HQ.out
                  have hya := hy1 (by omega)
                  have hyb := hy2 (by omega)
                  obtain ⟨q, hq⟩ : ∃ q, Q z = q := ⟨_, rfl⟩
                  have hyc : wr.cell? ⟨b2, off2 + z, none⟩ = some (.bool q) := by rw [← hq]; exact (hB6.cell (p := ⟨b2, off2 + z, none⟩) hyb).trans (hy3 z hi2)
                  subst hya
                  have hi3 : (z : Int) < (len2 : Int) := by omega
                  cases q
                  · have HH := Lib.hid (hards_no (len2 := len2) hq)
                    clear hy1 hy2 hy3 hq
                    obtain ⟨k0, k1, k2, k3, k4⟩ := (HC.out (2 * z + 1) _ (HNB.out z (by omega))).below hb5 hg
                    obtain ⟨m0, m1, m2, m3, m4⟩ := (HC.out (2 * z) _ (HNW.out z (by omega))).below hb5 hg
                    simp only [wordsI, hx, Lib.mk_data] at m2
                    rw [brkI, HH.out] at k0
                    replace k0 : wr.cell? ⟨g, (2 * z + 1) * 5, none⟩ = some (.int .i64 7) := k0
                    have hz1 : 2 * z + 1 < M := by have := HM.out; omega
                    clear k1 k2 k3 k4 m0 m1 m3 m4 hx
                    go_wp2_with fail
                    go_quiet (fail)
                    go_wp2_with fail
                    go_roundw
                    case rel => exact ⟨z + 1, by omega, by go_num, below_drewsN hb5 nq⟩
                    case measure => simp [intOf]; omega
                  · have HH := Lib.hid (hards_yes hi2 hq)
                    clear hy1 hy2 hy3 hq
                    obtain ⟨k0, k1, k2, k3, k4⟩ := (HC.out (2 * z + 1) _ (HNB.out z (by omega))).below hb5 hg
                    obtain ⟨m0, m1, m2, m3, m4⟩ := (HC.out (2 * z) _ (HNW.out z (by omega))).below hb5 hg
                    simp only [wordsI, hx, Lib.mk_data] at m2
                    rw [brkI, HH.out] at k0
                    replace k0 : wr.cell? ⟨g, (2 * z + 1) * 5, none⟩ = some (.int .i64 8) := k0
                    have hz1 : 2 * z + 1 < M := by have := HM.out; omega
                    clear k1 k2 k3 k4 m0 m1 m3 m4 hx
                    go_wp2_with fail
                    go_quiet (fail)
                    go_wp2_with fail
                    go_roundw
                    case rel => exact ⟨z + 1, by omega, by go_num, below_drewsN hb5 nq⟩
                    case measure => simp [intOf]; omega
                · have hi3 : ¬ (z : Int) < (len2 : Int) := by omega
                  have HH := Lib.hid (hards_out (Q := Q) hi2)
                  obtain ⟨k0, k1, k2, k3, k4⟩ := (HC.out (2 * z + 1) _ (HNB.out z (by omega))).below hb5 hg
                  obtain ⟨m0, m1, m2, m3, m4⟩ := (HC.out (2 * z) _ (HNW.out z (by omega))).below hb5 hg
                  simp only [wordsI, hx, Lib.mk_data] at m2
                  rw [brkI, HH.out] at k0
                  replace k0 : wr.cell? ⟨g, (2 * z + 1) * 5, none⟩ = some (.int .i64 7) := k0
                  have hz1 : 2 * z + 1 < M := by have := HM.out; omega
                  clear k1 k2 k3 k4 m0 m1 m3 m4 hx
                  go_wp2_with fail
                  go_quiet (fail)
                  go_wp2_with fail
                  go_roundw
                  case rel => exact ⟨z + 1, by omega, by go_num, below_drewsN hb5 nq⟩
                  case measure => simp [intOf]; omega
              · have hin2 : ¬ (z : Int) < (i : Int) - 1 := by omega
                go_wp2_with fail
                go_ret
                exact ⟨rfl, B5.trans (hb5.mono B5.size)⟩

end Go.Proofs.YtahljcbmckldhaaGreatDoor
