/-
  InlinePlain: text without signs is itself, as words, line by line: the walk of the law.
-/
import Derived.Test.YtahljcbmckldhaaGreatDoorInlG
import Derived.Deep.QuietTactic
import Derived.BigQuiet
namespace Go.Proofs.YtahljcbmckldhaaGreatDoor
open Go.RowKit
set_option maxRecDepth 100000
set_option linter.unusedVariables false
set_option linter.unusedSimpArgs false



set_option maxHeartbeats 8000000 in
theorem law_iplain (a : Option Addr) (len cap : Nat) (w : World) (P : Nat → ByteArray) (hP : IsRow1 Value.string w a len P) (hE : Env w) :
    Calls Tryz.prog 4 #[.slice a len cap] w fun e w' => e = .returned (.bool true) ∧ Below w.heap.size w w' := by
  by_cases t1 : (10 : Int) < (len : Int)
  · go_enter Tryz.func4, Tryz.ntmps4
    go_wp2_with fail
    refine (alive15 _ hE).mono ?_
    rintro e w1 ⟨rfl, b1⟩
    go_wp2_with fail
    go_ret
    exact ⟨rfl, b1⟩
  · have HE := Lib.hid hE
    have HP := Lib.hid hP
    clear hE hP
    go_enter Tryz.func4, Tryz.ntmps4
    go_wp2_with fail
    refine (alive15 _ HE.out).mono ?_
    rintro e w1 ⟨rfl, b1⟩
    go_wp2_with fail
    go_loopw [3, 20] (fun u3 u20 wr => ∃ (i : Nat) (T : ByteArray), i ≤ len ∧ u20 = .int .i64 i ∧ u3 = .string T ∧ T.data.toList ++ restP (linesOf P (fun _ => 0) len) i = joinB 0 (linesOf P (fun _ => 0) len) ∧ Good P i ∧ T.size ≤ 61 * i ∧ Below w.heap.size w wr) (fun _ u20 _ => len - (intOf u20).toNat)
    case atStart => exact ⟨0, ⟨#[]⟩, by omega, rfl, rfl, by rw [restP_zero]; rfl, Good.zero P, by decide, b1⟩
    case round =>
      obtain ⟨i, T, hi, rfl, rfl, hT, hgd, hTz, hB⟩ := hrel
      have HT := Lib.hid hT
      have HGD := Lib.hid hgd
      clear hT hgd
      by_cases hlt : i < len
      · obtain ⟨b, off, hx1, hx2, hx3, hx4⟩ := HP.out
        have hxa := hx1 (by omega)
        have hxb := hx2 (by omega)
        obtain ⟨x, hx⟩ : ∃ x, P i = x := ⟨_, rfl⟩
        have hxc : wr.cell? ⟨b, off + i, none⟩ = some (.string x) := by rw [← hx]; exact (hB.cell (p := ⟨b, off + i, none⟩) hxb).trans (hx3 i hlt)
        subst hxa
        have HX := Lib.hid hx
        clear hx1 hx2 hx3 hx
        by_cases t0 : x.size = 0
        · have he := empty_yes t0
          go_wp2_with fail
          go_ret
          exact ⟨rfl, hB⟩
        · have he := empty_no (s := x) (by omega)
          by_cases t2 : (60 : Int) < (x.size : Int)
          · go_wp2_with fail
            go_ret
            exact ⟨rfl, hB⟩
          · go_wp2_with fail
            go_loop [6] (fun u6 => ∃ k : Nat, k ≤ x.size ∧ u6 = .int .i64 k ∧ ∀ c ∈ x.data.toList.take k, lineB c = true) (fun u6 => x.size - (intOf u6).toNat)
            case atStart => exact ⟨0, Nat.zero_le _, rfl, fun b hb => by simp at hb⟩
            case round =>
              obtain ⟨k, hk, rfl, hl⟩ := hrel
              have HL := Lib.hid hl
              clear hl
              by_cases hkt : k < x.size
              · have hg := Lib.data_getElem? x k hkt
                obtain ⟨d, hd⟩ : ∃ d, x[k] = d := ⟨_, rfl⟩
                rw [hd] at hg
                have HG := Lib.hid hg
                clear hg
                by_cases u1 : (97 : Int) ≤ (d.toNat : Int)
                · by_cases u2 : (d.toNat : Int) ≤ 122
                  · have HN := Lib.hid (lined_take HL.out HG.out (lineB_letter d ⟨by omega, by omega⟩))
                    go_wp2_with fail
                    go_round
                    case rel => exact ⟨k + 1, by omega, by go_num, HN.out⟩
                    case measure => simp [intOf]; omega
                  · have u3 : ((d.toNat : Int) == 46) = false := by simp; omega
                    go_wp2_with fail
                    go_ret
                    exact ⟨rfl, hB⟩
                · by_cases u2 : d.toNat = 46
                  · have u3 : ((d.toNat : Int) == 46) = true := by simp; omega
                    have HD := Lib.hid (lineB_dot u2)
                    clear u2
                    have HN := Lib.hid (lined_take HL.out HG.out (HD.out))
                    go_wp2_with fail
                    go_round
                    case rel => exact ⟨k + 1, by omega, by go_num, HN.out⟩
                    case measure => simp [intOf]; omega
                  · have u3 : ((d.toNat : Int) == 46) = false := by simp; omega
                    go_wp2_with fail
                    go_ret
                    exact ⟨rfl, hB⟩
              · obtain rfl : k = x.size := by omega
                have HGN := Lib.hid (HGD.out.step HX.out ⟨ba_ne t0, by have := HL.out; rwa [take_all] at this⟩)
                clear HL
                by_cases hi0 : (0 : Int) < (i : Int)
                · go_wp2_with fail
                  go_roundw
                  case rel =>
                    refine ⟨i + 1, _, by omega, by go_num, rfl, ?_, HGN.out, ?_, hB⟩
                    · have h1 := HT.out
                      rw [restP_step _ _ _ (linesOf_at P (fun _ => 0) len i hlt) rfl, HX.out] at h1
                      simp only [app_list, List.append_assoc]
                      first
                        | rw [if_pos (by omega)] at h1; simpa using h1
                        | rw [if_neg (by omega)] at h1; simpa using h1
                    · rw [Lib.size_eq]
                      simp only [app_list, List.length_append]
                      rw [← Lib.size_eq, ← Lib.size_eq]
                      first | (simp; omega) | omega
                  case measure => simp [intOf]; omega
                · go_wp2_with fail
                  go_roundw
                  case rel =>
                    refine ⟨i + 1, _, by omega, by go_num, rfl, ?_, HGN.out, ?_, hB⟩
                    · have h1 := HT.out
                      rw [restP_step _ _ _ (linesOf_at P (fun _ => 0) len i hlt) rfl, HX.out] at h1
                      simp only [app_list, List.append_assoc]
                      first
                        | rw [if_pos (by omega)] at h1; simpa using h1
                        | rw [if_neg (by omega)] at h1; simpa using h1
                    · rw [Lib.size_eq]
                      simp only [app_list, List.length_append]
                      rw [← Lib.size_eq, ← Lib.size_eq]
                      first | (simp; omega) | omega
                  case measure => simp [intOf]; omega
      · obtain rfl : i = len := by omega
        have hTj := HT.out
        have hre := restP_end (linesOf P (fun _ => 0) i)
        rw [linesOf_len] at hre
        rw [hre, List.append_nil] at hTj
        have hpl := lines_plain 0 (linesOf P (fun _ => 0) i) (HGD.out.lines _)
        rw [← hTj] at hpl
        have hraw := raw_any T wr (HE.out.below hB) (by omega)
        rw [hpl] at hraw
        have hnl := nodes_len P (fun _ => 0) i
        have HNW := Lib.hid (nodes_word P (fun _ => 0) i)
        have HNB := Lib.hid (nodes_brk P (fun _ => 0) i)
        obtain ⟨l, hl⟩ : ∃ l, nodesB (linesOf P (fun _ => 0) i) = l := ⟨_, rfl⟩
        rw [hl] at hraw hnl HNW HNB
        clear hpl hTj hre HT hl HGD
        by_cases hi0 : i = 0
        · subst hi0
          have hl0 : l = [] := List.eq_nil_of_length_eq_zero hnl
          subst hl0
          have HR := Lib.hid hraw
          clear hraw hnl HNW HNB HP
          go_wp2_with fail
          refine HR.out.mono ?_
          rintro e w5 ⟨v, rfl, hI, b5⟩
          obtain ⟨ao, c, hv, _, _⟩ := own_slice hI
          subst hv
          have B5 := hB.trans (b5.mono hB.size)
          clear hI
          go_wp2_with fail
          go_ret
          exact ⟨rfl, B5⟩
        · obtain ⟨M, hM⟩ : ∃ M, l.length = M := ⟨_, rfl⟩
          have hz : ((i : Int) == 0) = false := by simp; omega
          have hMi : (M : Int) = 2 * (i : Int) - 1 := by omega
          have hMz : M ≤ 20 := by omega
          have hMe : ((M : Int) != 2 * (i : Int) - 1) = false := by simp; omega
          have k1 : Calls Tryz.prog 11 #[.string T] wr fun e w' => ∃ g c, e = .returned (.slice (some ⟨g, 0, none⟩) M c) ∧ g < w'.heap.size ∧ (∀ k x, l[k]? = some x → NodeAt w' g k (x.kind : Int) (x.depth : Int) ⟨x.text.toArray⟩ ⟨x.url.toArray⟩ ⟨x.title.toArray⟩) ∧ Below wr.heap.size wr w' := by
            refine hraw.mono ?_
            rintro e w5 ⟨v, rfl, hI, b5⟩
            obtain ⟨g, c, rfl, hg, hc⟩ := inls_at hI (by omega)
            exact ⟨g, c, by rw [hM], hg, hc, b5⟩
          have K1 := Lib.hid k1
          have HM := Lib.hid hMi
          clear hraw k1 hM hnl hMi
          go_wp2_with fail
          refine K1.out.mono ?_
          rintro e w5 ⟨g, c, rfl, hg, hc, b5⟩
          have B5 := hB.trans (b5.mono hB.size)
          have HC := Lib.hid hc
          clear hc b5
          go_wp2_with fail
          go_loopw [80] (fun u80 wr => ∃ k : Nat, k ≤ M ∧ u80 = .int .i64 k ∧ Below w5.heap.size w5 wr) (fun u80 _ => M - (intOf u80).toNat)
          case atStart => exact ⟨0, Nat.zero_le _, rfl, Below.refl _ _⟩
          case round =>
            obtain ⟨k, hk, rfl, hb5⟩ := hrel
            by_cases hkM : k < M
            · rcases (show (∃ j, k = 2 * j) ∨ (∃ j, k = 2 * j + 1) by
                rcases Nat.mod_two_eq_zero_or_one k with h | h
                · exact Or.inl ⟨k / 2, by omega⟩
                · exact Or.inr ⟨k / 2, by omega⟩) with ⟨j, hj⟩ | ⟨j, hj⟩
              · have hji : j < i := by have := HM.out; omega
                obtain ⟨b, off, hx1, hx2, hx3, hx4⟩ := HP.out
                have hxa := hx1 (by omega)
                have hxb := hx2 (by omega)
                obtain ⟨x, hx⟩ : ∃ x, P j = x := ⟨_, rfl⟩
                have hB6 := B5.trans (hb5.mono B5.size)
                have hxc : wr.cell? ⟨b, off + j, none⟩ = some (.string x) := by rw [← hx]; exact (hB6.cell (p := ⟨b, off + j, none⟩) hxb).trans (hx3 j hji)
                obtain ⟨c0, c1, c2, c3, c4⟩ := (HC.out k _ (by rw [hj]; exact HNW.out j hji)).below hb5 hg
                simp only [wordsI, hx, Lib.mk_data] at c0 c1 c2 c3 c4
                have hm : (k : Int).tmod 2 = 0 := by rw [Int.tmod_eq_emod_of_nonneg (by omega)]; omega
                have hq : (k : Int).tdiv 2 = (j : Int) := by rw [Int.tdiv_eq_ediv_of_nonneg (by omega)]; omega
                have hb1 := (Below.refl wr.heap.size wr).alloc (Nat.le_refl _) (.cells #[.int .i64 7, .int .i64 0, .string ⟨#[]⟩, .string ⟨#[]⟩, .string ⟨#[]⟩] 28)
                have hxd := (hb1.cell (p := ⟨b, off + j, none⟩) (Nat.lt_of_lt_of_le hxb hB6.size)).trans hxc
                subst hxa
                clear hx1 hx2 hx3 hx hj
                go_upto_region 29 with fail
                have hgw : g < wr.heap.size := Nat.lt_of_lt_of_le hg hb5.size
                have hb2 := (Below.refl wr.heap.size wr).alloc (Nat.le_refl _) (.cells #[.int .i64 1, .int .i64 0, .string x, .string ⟨#[]⟩, .string ⟨#[]⟩] 28)
                have hB7 := hb5.trans (hb2.mono hb5.size)
                obtain ⟨W, hW⟩ : ∃ W, wr.alloc (.cells #[.int .i64 1, .int .i64 0, .string x, .string ⟨#[]⟩, .string ⟨#[]⟩] 28) = W := ⟨_, rfl⟩
                have d0 : W.cell? ⟨g, k * 5, none⟩ = some (.int .i64 1) := by rw [← hW]; exact (hb2.cell (p := ⟨g, k * 5, none⟩) hgw).trans c0
                have d1 : W.cell? ⟨g, k * 5 + 1, none⟩ = some (.int .i64 0) := by rw [← hW]; exact (hb2.cell (p := ⟨g, k * 5 + 1, none⟩) hgw).trans c1
                have d2 : W.cell? ⟨g, k * 5 + 2, none⟩ = some (.string x) := by rw [← hW]; exact (hb2.cell (p := ⟨g, k * 5 + 2, none⟩) hgw).trans c2
                have d3 : W.cell? ⟨g, k * 5 + 3, none⟩ = some (.string ⟨#[]⟩) := by rw [← hW]; exact (hb2.cell (p := ⟨g, k * 5 + 3, none⟩) hgw).trans c3
                have d4 : W.cell? ⟨g, k * 5 + 4, none⟩ = some (.string ⟨#[]⟩) := by rw [← hW]; exact (hb2.cell (p := ⟨g, k * 5 + 4, none⟩) hgw).trans c4
                have e0 : W.cell? ⟨wr.heap.size, 0, none⟩ = some (.int .i64 1) := by rw [← hW]; simp
                have e1 : W.cell? ⟨wr.heap.size, 1, none⟩ = some (.int .i64 0) := by rw [← hW]; simp
                have e2 : W.cell? ⟨wr.heap.size, 2, none⟩ = some (.string x) := by rw [← hW]; simp
                have e3 : W.cell? ⟨wr.heap.size, 3, none⟩ = some (.string ⟨#[]⟩) := by rw [← hW]; simp
                have e4 : W.cell? ⟨wr.heap.size, 4, none⟩ = some (.string ⟨#[]⟩) := by rw [← hW]; simp
                rw [hW] at hB7 ⊢
                clear hW c0 c1 c2 c3 c4 hb2
                go_quiet (fail)
                go_wp2_with fail
                go_roundw
                case rel => exact ⟨k + 1, by omega, by go_num, below_drewsN hB7 nq⟩
                case measure => simp [intOf]; omega
              · have hji : j + 1 < i := by have := HM.out; omega
                obtain ⟨c0, c1, c2, c3, c4⟩ := (HC.out k _ (by rw [hj]; exact HNB.out j hji)).below hb5 hg
                have hm : (k : Int).tmod 2 = 1 := by rw [Int.tmod_eq_emod_of_nonneg (by omega)]; omega
                clear hj
                go_upto_region 29 with fail
                have hgw : g < wr.heap.size := Nat.lt_of_lt_of_le hg hb5.size
                have hb2 := (Below.refl wr.heap.size wr).alloc (Nat.le_refl _) (.cells #[.int .i64 7, .int .i64 0, .string ⟨#[]⟩, .string ⟨#[]⟩, .string ⟨#[]⟩] 28)
                have hB7 := hb5.trans (hb2.mono hb5.size)
                obtain ⟨W, hW⟩ : ∃ W, wr.alloc (.cells #[.int .i64 7, .int .i64 0, .string ⟨#[]⟩, .string ⟨#[]⟩, .string ⟨#[]⟩] 28) = W := ⟨_, rfl⟩
                have d0 : W.cell? ⟨g, k * 5, none⟩ = some (.int .i64 7) := by rw [← hW]; exact (hb2.cell (p := ⟨g, k * 5, none⟩) hgw).trans c0
                have d1 : W.cell? ⟨g, k * 5 + 1, none⟩ = some (.int .i64 0) := by rw [← hW]; exact (hb2.cell (p := ⟨g, k * 5 + 1, none⟩) hgw).trans c1
                have d2 : W.cell? ⟨g, k * 5 + 2, none⟩ = some (.string ⟨#[]⟩) := by rw [← hW]; exact (hb2.cell (p := ⟨g, k * 5 + 2, none⟩) hgw).trans c2
                have d3 : W.cell? ⟨g, k * 5 + 3, none⟩ = some (.string ⟨#[]⟩) := by rw [← hW]; exact (hb2.cell (p := ⟨g, k * 5 + 3, none⟩) hgw).trans c3
                have d4 : W.cell? ⟨g, k * 5 + 4, none⟩ = some (.string ⟨#[]⟩) := by rw [← hW]; exact (hb2.cell (p := ⟨g, k * 5 + 4, none⟩) hgw).trans c4
                have e0 : W.cell? ⟨wr.heap.size, 0, none⟩ = some (.int .i64 7) := by rw [← hW]; simp
                have e1 : W.cell? ⟨wr.heap.size, 1, none⟩ = some (.int .i64 0) := by rw [← hW]; simp
                have e2 : W.cell? ⟨wr.heap.size, 2, none⟩ = some (.string ⟨#[]⟩) := by rw [← hW]; simp
                have e3 : W.cell? ⟨wr.heap.size, 3, none⟩ = some (.string ⟨#[]⟩) := by rw [← hW]; simp
                have e4 : W.cell? ⟨wr.heap.size, 4, none⟩ = some (.string ⟨#[]⟩) := by rw [← hW]; simp
                rw [hW] at hB7 ⊢
                clear hW c0 c1 c2 c3 c4 hb2
                go_quiet (fail)
                go_wp2_with fail
                go_roundw
                case rel => exact ⟨k + 1, by omega, by go_num, below_drewsN hB7 nq⟩
                case measure => simp [intOf]; omega
            · obtain rfl : k = M := by omega
              go_wp2_with fail
              go_ret
              exact ⟨rfl, B5.trans (hb5.mono B5.size)⟩

end Go.Proofs.YtahljcbmckldhaaGreatDoor
