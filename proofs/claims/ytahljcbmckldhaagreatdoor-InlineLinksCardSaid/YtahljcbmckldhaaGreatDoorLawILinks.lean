/-
  InlineLinks: a text between brackets with a target behind is a link, with what the text is in it; an image has its words: the walk of the law.
-/
import Derived.Test.YtahljcbmckldhaaGreatDoorInlG
import Derived.Test.YtahljcbmckldhaaGreatDoorLinkLaw2
namespace Go.Proofs.YtahljcbmckldhaaGreatDoor
open Go.RowKit
set_option maxRecDepth 100000
set_option linter.unusedVariables false
set_option linter.unusedSimpArgs false

def kindOf (k : Int) : Nat := ((k.tmod 6 + 6).tmod 6).toNat
def kindsTo (R : Nat → Int) (i : Nat) : List Nat := (List.range i).map fun j => kindOf (R j)
theorem kindsTo_succ (R : Nat → Int) (i : Nat) : kindsTo R (i + 1) = kindsTo R i ++ [kindOf (R i)] := by
  unfold kindsTo; rw [List.range_succ, List.map_append]; rfl
theorem pieces_snoc (ks : List Nat) (k : Nat) : piecesL (ks ++ [k]) = piecesL ks ++ pieceK k := by unfold piecesL; simp
theorem RowR.tail5 {w : World} {g n : Nat} {x : Inl} {l : List Inl} (h : RowR w 5 (some ⟨g, 0, none⟩) (n + 1) (inlCells (x :: l))) : RowR w 5 (some ⟨g, 5, none⟩) n (inlCells l) := by
  have hsp : inlCells (x :: l) = Inl.cells x ++ inlCells l := rfl
  have hl := h.len
  rw [hsp, List.length_append, inl_len] at hl
  refine ⟨by omega, (fun e => by cases e), fun ad had => ?_⟩
  obtain rfl := Option.some.inj had
  refine ⟨rfl, fun j u hu => ?_⟩
  have := (h.at' _ rfl).2 (5 + j) u (by rw [hsp, List.getElem?_append_right (by rw [inl_len]; omega), inl_len, show 5 + j - 5 = j by omega]; exact hu)
  rw [add_at _ rfl] at this ⊢
  simpa using this

theorem sum_wt : ∀ l : List Inl, textSum l ≤ wtL l
  | [] => Nat.le_refl _
  | x :: l => by
    have := sum_wt l
    unfold textSum wtL at this ⊢
    simp only [List.map_cons, List.sum_cons]
    omega



set_option maxHeartbeats 16000000 in
theorem law_ilinks (a : Option Addr) (len cap : Nat) (url title_ : ByteArray) (image : Bool) (w : World) (R : Nat → Int) (hR : IsRow1 (Value.int .i64) w a len R) (hE : Env w) :
    Calls Tryz.prog 3 #[.slice a len cap, .string url, .string title_, .bool image] w fun e w' => e = .returned (.bool true) ∧ Below w.heap.size w w' := by
  by_cases t1 : (12 : Int) < (len : Int)
  · go_enter Tryz.func3, Tryz.ntmps3
    go_wp2_with fail
    refine (alive15 _ hE).mono ?_
    rintro e w1 ⟨rfl, b1⟩
    go_wp2_with fail
    go_ret
    exact ⟨rfl, b1⟩
  · by_cases h0 : 0 < url.size
    · have he := empty_no h0
      by_cases t2 : (30 : Int) < (url.size : Int)
      · go_enter Tryz.func3, Tryz.ntmps3
        go_wp2_with fail
        refine (alive15 _ hE).mono ?_
        rintro e w1 ⟨rfl, b1⟩
        go_wp2_with fail
        go_ret
        exact ⟨rfl, b1⟩
      · by_cases t3 : (30 : Int) < (title_.size : Int)
        · go_enter Tryz.func3, Tryz.ntmps3
          go_wp2_with fail
          refine (alive15 _ hE).mono ?_
          rintro e w1 ⟨rfl, b1⟩
          go_wp2_with fail
          go_ret
          exact ⟨rfl, b1⟩
        · have HE := Lib.hid hE
          have HR := Lib.hid hR
          clear hE hR
          go_enter Tryz.func3, Tryz.ntmps3
          go_wp2_with fail
          refine (alive15 _ HE.out).mono ?_
          rintro e w1 ⟨rfl, b1⟩
          go_wp2_with fail
          obtain ⟨W2, hW2⟩ : ∃ W2, W2 = w1.alloc (.cells #[.string url, .string title_] 9) := ⟨_, rfl⟩
          rw [← hW2]
          have c0 : W2.cell? ⟨w1.heap.size, 0, none⟩ = some (.string url) := by rw [hW2]; simp
          have c1 : W2.cell? ⟨w1.heap.size, 1, none⟩ = some (.string title_) := by rw [hW2]; simp
          have hB2 : Below w.heap.size w W2 := by rw [hW2]; exact b1.alloc b1.size _
          clear hW2
          go_loop [45] (fun uo => ∃ j : Nat, j ≤ 2 ∧ uo = .int .i64 j ∧ (0 < j → Letters (url).data.toList) ∧ (1 < j → Letters (title_).data.toList)) (fun uo => 2 - (intOf uo).toNat)
          case atStart => exact ⟨0, by omega, rfl, fun h => absurd h (by omega), fun h => absurd h (by omega)⟩
          case round =>
            obtain ⟨j, hj, rfl, hla, hlb⟩ := hrel
            have HLA := Lib.hid hla
            have HLB := Lib.hid hlb
            clear hla hlb
            by_cases hjt : j < 2
            · obtain ⟨x, hx, hxz, hxl⟩ : ∃ x : ByteArray, W2.cell? ⟨w1.heap.size, j, none⟩ = some (.string x) ∧ x.size ≤ 30 ∧ (Letters x.data.toList → (0 < j + 1 → Letters (url).data.toList) ∧ (1 < j + 1 → Letters (title_).data.toList)) := by
                have : j = 0 ∨ j = 1 := by omega
                rcases this with rfl | rfl
                · exact ⟨url, c0, by omega, fun h => ⟨fun _ => h, fun h => absurd h (by omega)⟩⟩
                · exact ⟨title_, c1, by omega, fun h => ⟨fun _ => HLA.out (by omega), fun _ => h⟩⟩
              have HXL := Lib.hid hxl
              clear hxl
              go_wp2_with fail
              go_loop [11] (fun ui => ∃ i : Nat, i ≤ (x).size ∧ ui = .int .i64 i ∧ Letters ((x).data.toList.take i)) (fun ui => (x).size - (intOf ui).toNat)
              case atStart => exact ⟨0, Nat.zero_le _, rfl, fun b hb => by simp at hb⟩
              case round =>
                obtain ⟨i, hi, rfl, hl⟩ := hrel
                have HL := Lib.hid hl
                clear hl
                by_cases hlt : i < (x).size
                · have hg := Lib.data_getElem? x i hlt
                  obtain ⟨d, hd⟩ : ∃ d, (x)[i] = d := ⟨_, rfl⟩
                  rw [hd] at hg
                  have HG := Lib.hid hg
                  clear hg
                  by_cases t1 : (d.toNat : Int) < 97
                  · go_wp2_with fail
                    go_ret
                    exact ⟨rfl, hB2⟩
                  · by_cases t2 : (122 : Int) < (d.toNat : Int)
                    · go_wp2_with fail
                      go_ret
                      exact ⟨rfl, hB2⟩
                    · have HN := Lib.hid (letters_take HL.out HG.out (by omega))
                      go_wp2_with fail
                      go_round
                      case rel => exact ⟨i + 1, by omega, by go_num, HN.out⟩
                      case measure => simp [intOf]; omega
                · obtain rfl : i = x.size := by omega
                  have HN := Lib.hid (HXL.out (by have := HL.out; rwa [take_all] at this))
                  go_wp2_with fail
                  go_round
                  case rel => exact ⟨j + 1, by omega, by go_num, HN.out.1, HN.out.2⟩
                  case measure => simp [intOf]; omega
            · obtain rfl : j = 2 := by omega
              have hla := HLA.out (by omega)
              have hlb := HLB.out (by omega)
              clear c0 c1
              have HLU := Lib.hid hla
              have HLT := Lib.hid hlb
              have hu0 : url.data.toList ≠ [] := by intro h; rw [Lib.size_eq, h] at h0; exact absurd h0 (by simp)
              have HU0 := Lib.hid hu0
              clear hla hlb hu0
              go_wp2_with fail
              go_loopw [12, 68] (fun u12 u68 wr => ∃ (i : Nat) (S : ByteArray), i ≤ len ∧ u68 = .int .i64 i ∧ u12 = .string S ∧ S.data.toList = piecesL (kindsTo R i) ∧ S.size ≤ 5 * i ∧ Below w.heap.size w wr) (fun _ u68 _ => len - (intOf u68).toNat)
              case atStart => exact ⟨0, ⟨#[]⟩, by omega, rfl, rfl, rfl, by decide, hB2⟩
              case round =>
                obtain ⟨i, S, hi, rfl, rfl, hS, hSz, hB⟩ := hrel
                have HS := Lib.hid hS
                clear hS
                by_cases hlt : i < len
                · obtain ⟨b, off, hx1, hx2, hx3, hx4⟩ := HR.out
                  have hxa := hx1 (by omega)
                  have hxb := hx2 (by omega)
                  obtain ⟨k, hk⟩ : ∃ k, R i = k := ⟨_, rfl⟩
                  have hxc : wr.cell? ⟨b, off + i, none⟩ = some (.int .i64 k) := by rw [← hk]; exact (hB.cell (p := ⟨b, off + i, none⟩) hxb).trans (hx3 i hlt)
                  subst hxa
                  have HX := Lib.hid hk
                  have hm1 : k.tmod 6 < 6 := Int.tmod_lt_of_pos k (by decide)
                  have hm2 : -6 < k.tmod 6 := Int.lt_tmod_of_pos k (by decide)
                  have hm3 : (k.tmod 6 + 6).tmod 6 = (k.tmod 6 + 6) % 6 := Int.tmod_eq_emod_of_nonneg (by omega)
                  obtain ⟨K, hK, hK6⟩ : ∃ K : Nat, ((k.tmod 6 + 6).tmod 6 = (K : Int)) ∧ K < 6 := ⟨((k.tmod 6 + 6).tmod 6).toNat, by omega, by omega⟩
                  have hw1 : IntKind.i64.wrap (k.tmod 6 + 6) = k.tmod 6 + 6 := IntWalk.i64_in _ (by omega)
                  clear hm3 hx1 hx2 hx3 hk
                  rcases (show K = 0 ∨ K = 1 ∨ K = 2 ∨ K = 3 ∨ K = 4 ∨ K = 5 by omega) with rfl | rfl | rfl | rfl | rfl | rfl
                  · have hK0 : (k.tmod 6 + 6).tmod 6 = 0 := by omega
                    have HKO := Lib.hid (show kindOf k = 0 by unfold kindOf; rw [hK0]; rfl)
                    clear hK hK6
                    go_wp2_with fail
                    go_roundw
                    case rel =>
                      refine ⟨i + 1, _, by omega, by go_num, rfl, ?_, ?_, hB.alloc hB.size _⟩
                      · rw [kindsTo_succ, pieces_snoc, HX.out, HKO.out]
                        simp only [app_list, HS.out]
                        rfl
                      · rw [Lib.size_eq]
                        simp only [app_list, List.length_append]
                        rw [← Lib.size_eq]
                        simp <;> omega
                    case measure => simp [intOf]; omega
                  · have hK0 : (k.tmod 6 + 6).tmod 6 = 1 := by omega
                    have HKO := Lib.hid (show kindOf k = 1 by unfold kindOf; rw [hK0]; rfl)
                    clear hK hK6
                    go_wp2_with fail
                    go_roundw
                    case rel =>
                      refine ⟨i + 1, _, by omega, by go_num, rfl, ?_, ?_, hB.alloc hB.size _⟩
                      · rw [kindsTo_succ, pieces_snoc, HX.out, HKO.out]
                        simp only [app_list, HS.out]
                        rfl
                      · rw [Lib.size_eq]
                        simp only [app_list, List.length_append]
                        rw [← Lib.size_eq]
                        simp <;> omega
                    case measure => simp [intOf]; omega
                  · have hK0 : (k.tmod 6 + 6).tmod 6 = 2 := by omega
                    have HKO := Lib.hid (show kindOf k = 2 by unfold kindOf; rw [hK0]; rfl)
                    clear hK hK6
                    go_wp2_with fail
                    go_roundw
                    case rel =>
                      refine ⟨i + 1, _, by omega, by go_num, rfl, ?_, ?_, hB.alloc hB.size _⟩
                      · rw [kindsTo_succ, pieces_snoc, HX.out, HKO.out]
                        simp only [app_list, HS.out]
                        rfl
                      · rw [Lib.size_eq]
                        simp only [app_list, List.length_append]
                        rw [← Lib.size_eq]
                        simp <;> omega
                    case measure => simp [intOf]; omega
                  · have hK0 : (k.tmod 6 + 6).tmod 6 = 3 := by omega
                    have HKO := Lib.hid (show kindOf k = 3 by unfold kindOf; rw [hK0]; rfl)
                    clear hK hK6
                    go_wp2_with fail
                    go_roundw
                    case rel =>
                      refine ⟨i + 1, _, by omega, by go_num, rfl, ?_, ?_, hB.alloc hB.size _⟩
                      · rw [kindsTo_succ, pieces_snoc, HX.out, HKO.out]
                        simp only [app_list, HS.out]
                        rfl
                      · rw [Lib.size_eq]
                        simp only [app_list, List.length_append]
                        rw [← Lib.size_eq]
                        simp <;> omega
                    case measure => simp [intOf]; omega
                  · have hK0 : (k.tmod 6 + 6).tmod 6 = 4 := by omega
                    have HKO := Lib.hid (show kindOf k = 4 by unfold kindOf; rw [hK0]; rfl)
                    clear hK hK6
                    go_wp2_with fail
                    go_roundw
                    case rel =>
                      refine ⟨i + 1, _, by omega, by go_num, rfl, ?_, ?_, hB.alloc hB.size _⟩
                      · rw [kindsTo_succ, pieces_snoc, HX.out, HKO.out]
                        simp only [app_list, HS.out]
                        rfl
                      · rw [Lib.size_eq]
                        simp only [app_list, List.length_append]
                        rw [← Lib.size_eq]
                        simp <;> omega
                    case measure => simp [intOf]; omega
                  · have hK0 : (k.tmod 6 + 6).tmod 6 = 5 := by omega
                    have HKO := Lib.hid (show kindOf k = 5 by unfold kindOf; rw [hK0]; rfl)
                    clear hK hK6
                    go_wp2_with fail
                    go_roundw
                    case rel =>
                      refine ⟨i + 1, _, by omega, by go_num, rfl, ?_, ?_, hB.alloc hB.size _⟩
                      · rw [kindsTo_succ, pieces_snoc, HX.out, HKO.out]
                        simp only [app_list, HS.out]
                        rfl
                      · rw [Lib.size_eq]
                        simp only [app_list, List.length_append]
                        rw [← Lib.size_eq]
                        simp <;> omega
                    case measure => simp [intOf]; omega
                · obtain rfl : i = len := by omega
                  obtain ⟨al, hal⟩ : ∃ l, parse0 none S.data.toList = l := ⟨_, rfl⟩
                  obtain ⟨la, hla⟩ : ∃ k, al.length = k := ⟨_, rfl⟩
                  have hsd := pieces_sided (kindsTo R i)
                  rw [← HS.out] at hsd
                  have hwt := parse0_wtT none S.data.toList 60 (by rw [← Lib.size_eq]; omega)
                  have hwn : 60 * tokB 60 0 0 ≤ 1000000 := by decide
                  rw [hal] at hwt
                  have hln := wtL_len al
                  have hts := sum_wt al
                  have hdw : wtL (deeperL al) = wtL al := wtL_deeper al
                  have hts2 := sum_wt (deeperL al)
                  obtain ⟨X, hX⟩ : ∃ X : ByteArray, X = ⟨(textL al).toArray⟩ := ⟨_, rfl⟩
                  have HAL := Lib.hid (And.intro hal hla)
                  have HPL := Lib.hid (And.intro (link_plain S.data.toList url.data.toList title_.data.toList hsd HLU.out HU0.out HLT.out) (image_plain S.data.toList url.data.toList title_.data.toList hsd HLU.out HU0.out HLT.out))
                  have hdl : (deeperL al).length = la := by unfold deeperL; rw [List.length_map, hla]
                  have HTX := Lib.hid (And.intro (fun ao c W' (h : RowR W' 5 ao la (inlCells al)) => show Calls Tryz.prog 12 #[.slice ao la c] W' fun e w' => e = .returned (.string X) ∧ Below W'.heap.size W' w' by
                      have := text_any ao c al W' (by rw [hla]; exact h) (by omega) (by omega)
                      rw [hla, ← hX] at this
                      exact this)
                    (fun ao c W' (h : RowR W' 5 ao la (inlCells (deeperL al))) => show Calls Tryz.prog 12 #[.slice ao la c] W' fun e w' => e = .returned (.string X) ∧ Below W'.heap.size W' w' by
                      have := text_any ao c (deeperL al) W' (by rw [hdl]; exact h) (by omega) (by omega)
                      rw [hdl, text_deeper, ← hX] at this
                      exact this))
                  have HXX := Lib.hid hX
                  have hlaz : la ≤ 1000000 := by omega
                  have hXz : X.size ≤ 3000000 := by
                    have := textL_len al
                    rw [Lib.size_eq, hX]
                    show (textL al).length ≤ _
                    omega
                  have hSl : S.data.toList.length ≤ 60 := by rw [← Lib.size_eq]; omega
                  have hul : url.data.toList.length ≤ 30 := by rw [← Lib.size_eq]; omega
                  have htl : title_.data.toList.length ≤ 30 := by rw [← Lib.size_eq]; omega
                  have htg : (targetT url.data.toList title_.data.toList).length ≤ 70 := by unfold targetT; split <;> simp <;> omega
                  have HZ := Lib.hid (show (linkText S.data.toList url.data.toList title_.data.toList).length ≤ 100000 ∧ (imageText S.data.toList url.data.toList title_.data.toList).length ≤ 100000 from ⟨by unfold linkText behindB; simp; omega, by unfold imageText behindB; simp; omega⟩)
                  clear hal hla hsd hwt hwn hln hts hdw hts2 hX hdl hSl hul htl htg
                  by_cases hte : title_.size = 0
                  · have he2 := empty_yes hte
                    have HTL := Lib.hid (show url.data.toList = targetT url.data.toList title_.data.toList by
                      unfold targetT
                      rw [if_pos (List.eq_nil_of_length_eq_zero (by rw [← Lib.size_eq]; exact hte))])
                    have k1 : Calls Tryz.prog 11 #[.string S] wr fun e w' => ∃ ao c, e = .returned (.slice ao la c) ∧ RowR w' 5 ao la (inlCells al) ∧ Below wr.heap.size wr w' := by
                      refine (raw_any S wr (HE.out.below hB) (by omega)).mono ?_
                      rintro e w' ⟨v, rfl, hI, hb⟩
                      rw [HAL.out.1] at hI
                      obtain ⟨ao, c, rfl, hR, _⟩ := own_slice hI
                      rw [HAL.out.2] at hR ⊢
                      exact ⟨ao, c, rfl, hR, hb⟩
                    have K1 := Lib.hid k1
                    clear k1
                    go_wp2_with fail
                    refine K1.out.mono ?_
                    rintro e w5 ⟨ao, c5, rfl, hR5, b5⟩
                    have B5 := hB.trans (b5.mono hB.size)
                    have HR5 := Lib.hid hR5
                    clear hR5 b5
                    cases image
                    · have k2 : ∀ (Y : ByteArray) W', Y.data.toList = linkText S.data.toList url.data.toList title_.data.toList → Env W' → Calls Tryz.prog 11 #[.string Y] W' fun e w' => ∃ g c, e = .returned (.slice (some ⟨g, 0, none⟩) (la + 1) c) ∧ la + 1 ≤ c ∧ g < w'.heap.size ∧
                          (w'.cell? ⟨g, 0, none⟩ = some (.int .i64 5) ∧ w'.cell? ⟨g, 1, none⟩ = some (.int .i64 0) ∧ w'.cell? ⟨g, 2, none⟩ = some (.string ⟨#[]⟩) ∧ w'.cell? ⟨g, 3, none⟩ = some (.string url) ∧ w'.cell? ⟨g, 4, none⟩ = some (.string title_)) ∧ RowR w' 5 (some ⟨g, 5, none⟩) la (inlCells (deeperL al)) ∧ Below W'.heap.size W' w' := fun Y W' hY hW' => by
                        refine (raw_any Y W' hW' (by rw [Lib.size_eq, hY]; exact HZ.out.1)).mono ?_
                        rintro e w' ⟨v, rfl, hI, hb⟩
                        rw [hY, HPL.out.1, HAL.out.1] at hI
                        obtain ⟨g, c, rfl, hg, hc⟩ := inls_at hI (by simp)
                        have hdl : (deeperL al).length = la := by unfold deeperL; rw [List.length_map, HAL.out.2]
                        obtain ⟨_, _, _, _, hcap, _⟩ := own_form hI (by simp)
                        have hrow := (own_rowR hI).2.1
                        rw [List.length_cons, hdl] at hcap hrow ⊢
                        exact ⟨g, c, rfl, hcap, hg, hc 0 _ rfl, hrow.tail5, hb⟩
                      have K2 := Lib.hid k2
                      clear k2
                      go_wp2_with fail
                      refine (K2.out _ _ (by simp only [app_list]; simp [linkText, behindB, ← HTL.out]) (HE.out.below B5)).mono ?_
                      rintro e w6 ⟨g, c6, rfl, hcap, hg, ⟨d0, d1, d2, d3, d4⟩, hR6, b6⟩
                      have B6 := below_step B5 b6
                      have HR6 := Lib.hid (HR5.out.below b6)
                      clear b6
                      have HT2 := Lib.hid (fun W' (h : RowR W' 5 ao la (inlCells al)) => HTX.out.1 ao c5 W' h)
                      by_cases hc1 : c6 = 1
                      · subst hc1
                        obtain rfl : la = 0 := by omega
                        have hal0 : deeperL al = [] := by rw [List.eq_nil_of_length_eq_zero HAL.out.2]; rfl
                        rw [hal0] at hR6
                        have HT1 := Lib.hid (HTX.out.2 (some ⟨g, 0, none⟩) 0 w6 (by
                          rw [hal0]
                          exact ⟨rfl, (fun e => by cases e), fun ad had => ⟨by obtain rfl := Option.some.inj had; rfl, fun j u hu => by simp [inlCells] at hu⟩⟩))
                        clear hR6 hal0
                        go_wp2_with fail
                        refine (HT1.out).mono ?_
                        rintro e w7 ⟨rfl, b7⟩
                        have B7 := below_step B6 b7
                        have HR7 := Lib.hid (HR6.out.below b7)
                        clear b7
                        go_wp2_with fail
                        refine (HT2.out _ HR7.out).mono ?_
                        rintro e w8 ⟨rfl, b8⟩
                        have B8 := below_step B7 b8
                        go_wp2_with fail
                        go_ret
                        exact ⟨rfl, B8⟩
                      · obtain ⟨cc, rfl⟩ : ∃ cc, c6 = cc + 2 := ⟨c6 - 2, by omega⟩
                        have HT1 := Lib.hid (HTX.out.2 (some ⟨g, 5, none⟩) (cc + 1) w6 hR6)
                        clear hR6 hc1
                        go_wp2_with fail
                        refine (HT1.out).mono ?_
                        rintro e w7 ⟨rfl, b7⟩
                        have B7 := below_step B6 b7
                        have HR7 := Lib.hid (HR6.out.below b7)
                        clear b7
                        go_wp2_with fail
                        refine (HT2.out _ HR7.out).mono ?_
                        rintro e w8 ⟨rfl, b8⟩
                        have B8 := below_step B7 b8
                        go_wp2_with fail
                        go_ret
                        exact ⟨rfl, B8⟩
                    · have k2 : ∀ (Y : ByteArray) W', Y.data.toList = imageText S.data.toList url.data.toList title_.data.toList → Env W' → Calls Tryz.prog 11 #[.string Y] W' fun e w' => ∃ g c, e = .returned (.slice (some ⟨g, 0, none⟩) 1 c) ∧ g < w'.heap.size ∧
                          (w'.cell? ⟨g, 0, none⟩ = some (.int .i64 6) ∧ w'.cell? ⟨g, 1, none⟩ = some (.int .i64 0) ∧ w'.cell? ⟨g, 2, none⟩ = some (.string X) ∧ w'.cell? ⟨g, 3, none⟩ = some (.string url) ∧ w'.cell? ⟨g, 4, none⟩ = some (.string title_)) ∧ Below W'.heap.size W' w' := fun Y W' hY hW' => by
                        refine (raw_any Y W' hW' (by rw [Lib.size_eq, hY]; exact HZ.out.2)).mono ?_
                        rintro e w' ⟨v, rfl, hI, hb⟩
                        rw [hY, HPL.out.2, HAL.out.1] at hI
                        obtain ⟨g, c, rfl, hg, hc⟩ := inls_at hI (by simp)
                        have := hc 0 _ rfl
                        rw [HXX.out]
                        exact ⟨g, c, rfl, hg, this, hb⟩
                      have K2 := Lib.hid k2
                      clear k2
                      go_wp2_with fail
                      refine (K2.out _ _ (by simp only [app_list]; simp [imageText, behindB, ← HTL.out]) (HE.out.below B5)).mono ?_
                      rintro e w6 ⟨g, c6, rfl, hg, ⟨d0, d1, d2, d3, d4⟩, b6⟩
                      have B6 := below_step B5 b6
                      have HR6 := Lib.hid (HR5.out.below b6)
                      clear b6
                      have HT2 := Lib.hid (fun W' (h : RowR W' 5 ao la (inlCells al)) => HTX.out.1 ao c5 W' h)
                      have hbd := (Below.refl w6.heap.size w6).drew
                      have hBd := below_step B6 hbd
                      have hRd : RowR w6.drew 5 ao la (inlCells al) := HR6.out.below hbd
                      have HRD := Lib.hid (And.intro hRd hBd)
                      clear hRd hBd hbd
                      go_wp2_with fail
                      refine wp_region_I (S := fun j W' => ([6, 10, 11].contains j = true) → (W'.cell? ⟨g, 0, none⟩ = some (.int .i64 6) ∧ W'.cell? ⟨g, 1, none⟩ = some (.int .i64 0) ∧ W'.cell? ⟨g, 2, none⟩ = some (.string X) ∧ W'.cell? ⟨g, 3, none⟩ = some (.string url) ∧ W'.cell? ⟨g, 4, none⟩ = some (.string title_))) (by kernel_rfl) ?_
                      refine wpAnyI_take (S0 := fun _ => True) (i := 0) (v := ?_) rfl (by kernel_rfl) (by kernel_rfl) (by kernel_rfl) (by kernel_rfl) (List.range 15) (by kernel_rfl) (fun _ _ _ h => h) (fun _ _ h => absurd h (by decide)) (fun _ _ _ _ => trivial) (some 100) rfl (Or.inl ⟨by rfl, ?_⟩) trivial ?_
                      rotate_left
                      · intro w' _; go_simp <;> with_reducible rfl
                      try simp only [Act.put, List.setIfInBounds_toArray, List.set_cons_zero, List.set_cons_succ]
                      refine wpAnyI_take (S0 := fun _ => True) (i := 1) (v := ?_) rfl (by kernel_rfl) (by kernel_rfl) (by kernel_rfl) (by kernel_rfl) (List.range 15) (by kernel_rfl) (fun _ _ _ h => h) (fun _ _ h => absurd h (by decide)) (fun _ _ _ _ => trivial) (some 101) rfl (Or.inl ⟨by rfl, ?_⟩) trivial ?_
                      rotate_left
                      · intro w' _; go_simp <;> with_reducible rfl
                      try simp only [Act.put, List.setIfInBounds_toArray, List.set_cons_zero, List.set_cons_succ]
                      refine wpAnyI_take (S0 := fun _ => True) (i := 2) (v := ?_) rfl (by kernel_rfl) (by kernel_rfl) (by kernel_rfl) (by kernel_rfl) (List.range 15) (by kernel_rfl) (fun _ _ _ h => h) (fun _ _ h => absurd h (by decide)) (fun _ _ _ _ => trivial) (some 102) rfl (Or.inl ⟨by rfl, ?_⟩) trivial ?_
                      rotate_left
                      · intro w' _; go_simp <;> with_reducible rfl
                      try simp only [Act.put, List.setIfInBounds_toArray, List.set_cons_zero, List.set_cons_succ]
                      refine wpAnyI_take (S0 := fun _ => True) (i := 3) (v := ?_) rfl (by kernel_rfl) (by kernel_rfl) (by kernel_rfl) (by kernel_rfl) (List.range 15) (by kernel_rfl) (fun _ _ _ h => h) (fun _ _ h => absurd h (by decide)) (fun _ _ _ _ => trivial) (some 103) rfl (Or.inl ⟨by rfl, ?_⟩) trivial ?_
                      rotate_left
                      · intro w' _; go_simp <;> with_reducible rfl
                      try simp only [Act.put, List.setIfInBounds_toArray, List.set_cons_zero, List.set_cons_succ]
                      refine wpAnyI_take (S0 := fun _ => True) (i := 4) (v := ?_) rfl (by kernel_rfl) (by kernel_rfl) (by kernel_rfl) (by kernel_rfl) (List.range 15) (by kernel_rfl) (fun _ _ _ h => h) (fun _ _ h => absurd h (by decide)) (fun _ _ _ _ => trivial) (some 104) rfl (Or.inl ⟨by rfl, ?_⟩) trivial ?_
                      rotate_left
                      · intro w' _; go_simp <;> with_reducible rfl
                      try simp only [Act.put, List.setIfInBounds_toArray, List.set_cons_zero, List.set_cons_succ]
                      refine wpAnyI_take (S0 := fun _ => True) (i := 5) (v := ?_) rfl (by kernel_rfl) (by kernel_rfl) (by kernel_rfl) (by kernel_rfl) (List.range 15) (by kernel_rfl) (fun _ _ _ h => h) (fun _ _ h => absurd h (by decide)) (fun _ _ _ _ => trivial) (some 105) rfl (Or.inl ⟨by rfl, ?_⟩) trivial ?_
                      rotate_left
                      · intro w' _; go_simp <;> with_reducible rfl
                      try simp only [Act.put, List.setIfInBounds_toArray, List.set_cons_zero, List.set_cons_succ]
                      refine wpAnyI_take (S0 := fun _ => True) (i := 7) (v := ?_) rfl (by kernel_rfl) (by kernel_rfl) (by kernel_rfl) (by kernel_rfl) (List.range 15) (by kernel_rfl) (fun _ _ _ h => h) (fun _ _ h => absurd h (by decide)) (fun _ _ _ _ => trivial) (some 107) rfl (Or.inl ⟨by rfl, ?_⟩) trivial ?_
                      rotate_left
                      · intro w' _; go_simp <;> with_reducible rfl
                      try simp only [Act.put, List.setIfInBounds_toArray, List.set_cons_zero, List.set_cons_succ]
                      refine wpAnyI_take (S0 := fun _ => True) (i := 8) (v := ?_) rfl (by kernel_rfl) (by kernel_rfl) (by kernel_rfl) (by kernel_rfl) (List.range 15) (by kernel_rfl) (fun _ _ _ h => h) (fun _ _ h => absurd h (by decide)) (fun _ _ _ _ => trivial) (some 108) rfl (Or.inl ⟨by rfl, ?_⟩) trivial ?_
                      rotate_left
                      · intro w' _; go_simp <;> with_reducible rfl
                      try simp only [Act.put, List.setIfInBounds_toArray, List.set_cons_zero, List.set_cons_succ]
                      refine wpAnyI_take (S0 := fun _ => True) (i := 9) (v := ?_) rfl (by kernel_rfl) (by kernel_rfl) (by kernel_rfl) (by kernel_rfl) (List.range 15) (by kernel_rfl) (fun _ _ _ h => h) (fun _ _ h => absurd h (by decide)) (fun _ _ _ _ => trivial) (some 109) rfl (Or.inl ⟨by rfl, ?_⟩) trivial ?_
                      rotate_left
                      · intro w' _; go_simp <;> with_reducible rfl
                      try simp only [Act.put, List.setIfInBounds_toArray, List.set_cons_zero, List.set_cons_succ]
                      refine wpAnyI_take (S0 := fun W' => W'.cell? ⟨g, 0, none⟩ = some (.int .i64 6) ∧ W'.cell? ⟨g, 1, none⟩ = some (.int .i64 0) ∧ W'.cell? ⟨g, 2, none⟩ = some (.string X) ∧ W'.cell? ⟨g, 3, none⟩ = some (.string url) ∧ W'.cell? ⟨g, 4, none⟩ = some (.string title_)) (i := 6) (v := ?_) rfl (by kernel_rfl) (by kernel_rfl) (by kernel_rfl) (by kernel_rfl) [6, 10, 11] (by kernel_rfl) (fun _ _ _ h => h) (fun _ h _ => h) (fun j hj _ h => h (by simpa using hj)) (some 106) rfl (Or.inl ⟨by rfl, ?_⟩) ⟨d0, d1, d2, d3, d4⟩ ?_
                      rotate_left
                      · rintro w' ⟨s0, s1, s2, s3, s4⟩; go_simp <;> with_reducible rfl
                      try simp only [Act.put, List.setIfInBounds_toArray, List.set_cons_zero, List.set_cons_succ]
                      refine wpAnyI_one (i := 10) (by kernel_rfl) rfl (fun K' hK => ?_)
                      have HKK := Lib.hid hK
                      clear hK
                      go_simp
                      refine (HT2.out _ HRD.out.1).mono ?_
                      rintro e w8 ⟨rfl, b8⟩
                      have q0 : w8.cell? ⟨g, 0, none⟩ = some (.int .i64 6) := (b8.cell (p := ⟨g, 0, none⟩) hg).trans d0
                      have q1 : w8.cell? ⟨g, 1, none⟩ = some (.int .i64 0) := (b8.cell (p := ⟨g, 1, none⟩) hg).trans d1
                      have q2 : w8.cell? ⟨g, 2, none⟩ = some (.string X) := (b8.cell (p := ⟨g, 2, none⟩) hg).trans d2
                      have q3 : w8.cell? ⟨g, 3, none⟩ = some (.string url) := (b8.cell (p := ⟨g, 3, none⟩) hg).trans d3
                      have q4 : w8.cell? ⟨g, 4, none⟩ = some (.string title_) := (b8.cell (p := ⟨g, 4, none⟩) hg).trans d4
                      have B8 := below_step HRD.out.2 b8
                      go_wp2_with fail
                      refine HKK.out _ _ ⟨fun _ => ⟨q0, q1, q2, q3, q4⟩, ?_⟩
                      clear HKK K'
                      try simp only [Act.put, List.setIfInBounds_toArray, List.set_cons_zero, List.set_cons_succ]
                      refine wpAnyI_one (i := 11) (by kernel_rfl) rfl (fun K' hK => ?_)
                      have HKK := Lib.hid hK
                      clear hK
                      go_simp
                      refine HKK.out _ _ ⟨fun _ => ⟨q0, q1, q2, q3, q4⟩, ?_⟩
                      clear HKK K'
                      try simp only [Act.put, List.setIfInBounds_toArray, List.set_cons_zero, List.set_cons_succ]
                      refine wpAnyI_one (i := 12) (by kernel_rfl) rfl (fun K' hK => ?_)
                      have HKK := Lib.hid hK
                      clear hK
                      go_simp
                      refine HKK.out _ _ ⟨fun h => absurd h (by decide), ?_⟩
                      clear HKK K'
                      try simp only [Act.put, List.setIfInBounds_toArray, List.set_cons_zero, List.set_cons_succ]
                      refine wpAnyI_one (i := 13) (by kernel_rfl) rfl (fun K' hK => ?_)
                      have HKK := Lib.hid hK
                      clear hK
                      go_simp
                      refine HKK.out _ _ ⟨fun h => absurd h (by decide), ?_⟩
                      clear HKK K'
                      try simp only [Act.put, List.setIfInBounds_toArray, List.set_cons_zero, List.set_cons_succ]
                      refine wpAnyI_one (i := 14) (by kernel_rfl) rfl (fun K' hK => ?_)
                      have HKK := Lib.hid hK
                      clear hK
                      go_simp
                      refine HKK.out _ _ ⟨fun h => absurd h (by decide), ?_⟩
                      clear HKK K'
                      try simp only [Act.put, List.setIfInBounds_toArray, List.set_cons_zero, List.set_cons_succ]
                      refine wpAnyI_done (by kernel_rfl) ?_ _
                      go_wp2_with fail
                      go_ret
                      exact ⟨rfl, B8⟩
                  · have he2 := empty_no (s := title_) (by omega)
                    obtain ⟨T, hT⟩ : ∃ T : ByteArray, url ++ ((⟨#[32, 39]⟩ : ByteArray) ++ title_ ++ ⟨#[39]⟩) = T := ⟨_, rfl⟩
                    have HTL := Lib.hid (show T.data.toList = targetT url.data.toList title_.data.toList by
                      unfold targetT
                      rw [if_neg (fun e => hte (by rw [Lib.size_eq, e]; rfl)), ← hT]
                      simp)
                    have hTz : T.size ≤ 70 := by
                      rw [← hT, Lib.size_eq]
                      simp only [app_list, List.length_append]
                      rw [← Lib.size_eq, ← Lib.size_eq]
                      simp; omega
                    have k1 : Calls Tryz.prog 11 #[.string S] wr fun e w' => ∃ ao c, e = .returned (.slice ao la c) ∧ RowR w' 5 ao la (inlCells al) ∧ Below wr.heap.size wr w' := by
                      refine (raw_any S wr (HE.out.below hB) (by omega)).mono ?_
                      rintro e w' ⟨v, rfl, hI, hb⟩
                      rw [HAL.out.1] at hI
                      obtain ⟨ao, c, rfl, hR, _⟩ := own_slice hI
                      rw [HAL.out.2] at hR ⊢
                      exact ⟨ao, c, rfl, hR, hb⟩
                    have K1 := Lib.hid k1
                    clear k1
                    go_wp2_with fail
                    refine K1.out.mono ?_
                    rintro e w5 ⟨ao, c5, rfl, hR5, b5⟩
                    have B5 := hB.trans (b5.mono hB.size)
                    have HR5 := Lib.hid hR5
                    clear hR5 b5
                    cases image
                    · have k2 : ∀ (Y : ByteArray) W', Y.data.toList = linkText S.data.toList url.data.toList title_.data.toList → Env W' → Calls Tryz.prog 11 #[.string Y] W' fun e w' => ∃ g c, e = .returned (.slice (some ⟨g, 0, none⟩) (la + 1) c) ∧ la + 1 ≤ c ∧ g < w'.heap.size ∧
                          (w'.cell? ⟨g, 0, none⟩ = some (.int .i64 5) ∧ w'.cell? ⟨g, 1, none⟩ = some (.int .i64 0) ∧ w'.cell? ⟨g, 2, none⟩ = some (.string ⟨#[]⟩) ∧ w'.cell? ⟨g, 3, none⟩ = some (.string url) ∧ w'.cell? ⟨g, 4, none⟩ = some (.string title_)) ∧ RowR w' 5 (some ⟨g, 5, none⟩) la (inlCells (deeperL al)) ∧ Below W'.heap.size W' w' := fun Y W' hY hW' => by
                        refine (raw_any Y W' hW' (by rw [Lib.size_eq, hY]; exact HZ.out.1)).mono ?_
                        rintro e w' ⟨v, rfl, hI, hb⟩
                        rw [hY, HPL.out.1, HAL.out.1] at hI
                        obtain ⟨g, c, rfl, hg, hc⟩ := inls_at hI (by simp)
                        have hdl : (deeperL al).length = la := by unfold deeperL; rw [List.length_map, HAL.out.2]
                        obtain ⟨_, _, _, _, hcap, _⟩ := own_form hI (by simp)
                        have hrow := (own_rowR hI).2.1
                        rw [List.length_cons, hdl] at hcap hrow ⊢
                        exact ⟨g, c, rfl, hcap, hg, hc 0 _ rfl, hrow.tail5, hb⟩
                      have K2 := Lib.hid k2
                      clear k2
                      go_wp2_with fail
                      refine (K2.out _ _ (by simp only [app_list]; simp [linkText, behindB, ← HTL.out]) (HE.out.below B5)).mono ?_
                      rintro e w6 ⟨g, c6, rfl, hcap, hg, ⟨d0, d1, d2, d3, d4⟩, hR6, b6⟩
                      have B6 := below_step B5 b6
                      have HR6 := Lib.hid (HR5.out.below b6)
                      clear b6
                      have HT2 := Lib.hid (fun W' (h : RowR W' 5 ao la (inlCells al)) => HTX.out.1 ao c5 W' h)
                      by_cases hc1 : c6 = 1
                      · subst hc1
                        obtain rfl : la = 0 := by omega
                        have hal0 : deeperL al = [] := by rw [List.eq_nil_of_length_eq_zero HAL.out.2]; rfl
                        rw [hal0] at hR6
                        have HT1 := Lib.hid (HTX.out.2 (some ⟨g, 0, none⟩) 0 w6 (by
                          rw [hal0]
                          exact ⟨rfl, (fun e => by cases e), fun ad had => ⟨by obtain rfl := Option.some.inj had; rfl, fun j u hu => by simp [inlCells] at hu⟩⟩))
                        clear hR6 hal0
                        go_wp2_with fail
                        refine (HT1.out).mono ?_
                        rintro e w7 ⟨rfl, b7⟩
                        have B7 := below_step B6 b7
                        have HR7 := Lib.hid (HR6.out.below b7)
                        clear b7
                        go_wp2_with fail
                        refine (HT2.out _ HR7.out).mono ?_
                        rintro e w8 ⟨rfl, b8⟩
                        have B8 := below_step B7 b8
                        go_wp2_with fail
                        go_ret
                        exact ⟨rfl, B8⟩
                      · obtain ⟨cc, rfl⟩ : ∃ cc, c6 = cc + 2 := ⟨c6 - 2, by omega⟩
                        have HT1 := Lib.hid (HTX.out.2 (some ⟨g, 5, none⟩) (cc + 1) w6 hR6)
                        clear hR6 hc1
                        go_wp2_with fail
                        refine (HT1.out).mono ?_
                        rintro e w7 ⟨rfl, b7⟩
                        have B7 := below_step B6 b7
                        have HR7 := Lib.hid (HR6.out.below b7)
                        clear b7
                        go_wp2_with fail
                        refine (HT2.out _ HR7.out).mono ?_
                        rintro e w8 ⟨rfl, b8⟩
                        have B8 := below_step B7 b8
                        go_wp2_with fail
                        go_ret
                        exact ⟨rfl, B8⟩
                    · have k2 : ∀ (Y : ByteArray) W', Y.data.toList = imageText S.data.toList url.data.toList title_.data.toList → Env W' → Calls Tryz.prog 11 #[.string Y] W' fun e w' => ∃ g c, e = .returned (.slice (some ⟨g, 0, none⟩) 1 c) ∧ g < w'.heap.size ∧
                          (w'.cell? ⟨g, 0, none⟩ = some (.int .i64 6) ∧ w'.cell? ⟨g, 1, none⟩ = some (.int .i64 0) ∧ w'.cell? ⟨g, 2, none⟩ = some (.string X) ∧ w'.cell? ⟨g, 3, none⟩ = some (.string url) ∧ w'.cell? ⟨g, 4, none⟩ = some (.string title_)) ∧ Below W'.heap.size W' w' := fun Y W' hY hW' => by
                        refine (raw_any Y W' hW' (by rw [Lib.size_eq, hY]; exact HZ.out.2)).mono ?_
                        rintro e w' ⟨v, rfl, hI, hb⟩
                        rw [hY, HPL.out.2, HAL.out.1] at hI
                        obtain ⟨g, c, rfl, hg, hc⟩ := inls_at hI (by simp)
                        have := hc 0 _ rfl
                        rw [HXX.out]
                        exact ⟨g, c, rfl, hg, this, hb⟩
                      have K2 := Lib.hid k2
                      clear k2
                      go_wp2_with fail
                      refine (K2.out _ _ (by simp only [app_list]; simp [imageText, behindB, ← HTL.out]) (HE.out.below B5)).mono ?_
                      rintro e w6 ⟨g, c6, rfl, hg, ⟨d0, d1, d2, d3, d4⟩, b6⟩
                      have B6 := below_step B5 b6
                      have HR6 := Lib.hid (HR5.out.below b6)
                      clear b6
                      have HT2 := Lib.hid (fun W' (h : RowR W' 5 ao la (inlCells al)) => HTX.out.1 ao c5 W' h)
                      have hbd := (Below.refl w6.heap.size w6).drew
                      have hBd := below_step B6 hbd
                      have hRd : RowR w6.drew 5 ao la (inlCells al) := HR6.out.below hbd
                      have HRD := Lib.hid (And.intro hRd hBd)
                      clear hRd hBd hbd
                      go_wp2_with fail
                      refine wp_region_I (S := fun j W' => ([6, 10, 11].contains j = true) → (W'.cell? ⟨g, 0, none⟩ = some (.int .i64 6) ∧ W'.cell? ⟨g, 1, none⟩ = some (.int .i64 0) ∧ W'.cell? ⟨g, 2, none⟩ = some (.string X) ∧ W'.cell? ⟨g, 3, none⟩ = some (.string url) ∧ W'.cell? ⟨g, 4, none⟩ = some (.string title_))) (by kernel_rfl) ?_
                      refine wpAnyI_take (S0 := fun _ => True) (i := 0) (v := ?_) rfl (by kernel_rfl) (by kernel_rfl) (by kernel_rfl) (by kernel_rfl) (List.range 15) (by kernel_rfl) (fun _ _ _ h => h) (fun _ _ h => absurd h (by decide)) (fun _ _ _ _ => trivial) (some 100) rfl (Or.inl ⟨by rfl, ?_⟩) trivial ?_
                      rotate_left
                      · intro w' _; go_simp <;> with_reducible rfl
                      try simp only [Act.put, List.setIfInBounds_toArray, List.set_cons_zero, List.set_cons_succ]
                      refine wpAnyI_take (S0 := fun _ => True) (i := 1) (v := ?_) rfl (by kernel_rfl) (by kernel_rfl) (by kernel_rfl) (by kernel_rfl) (List.range 15) (by kernel_rfl) (fun _ _ _ h => h) (fun _ _ h => absurd h (by decide)) (fun _ _ _ _ => trivial) (some 101) rfl (Or.inl ⟨by rfl, ?_⟩) trivial ?_
                      rotate_left
                      · intro w' _; go_simp <;> with_reducible rfl
                      try simp only [Act.put, List.setIfInBounds_toArray, List.set_cons_zero, List.set_cons_succ]
                      refine wpAnyI_take (S0 := fun _ => True) (i := 2) (v := ?_) rfl (by kernel_rfl) (by kernel_rfl) (by kernel_rfl) (by kernel_rfl) (List.range 15) (by kernel_rfl) (fun _ _ _ h => h) (fun _ _ h => absurd h (by decide)) (fun _ _ _ _ => trivial) (some 102) rfl (Or.inl ⟨by rfl, ?_⟩) trivial ?_
                      rotate_left
                      · intro w' _; go_simp <;> with_reducible rfl
                      try simp only [Act.put, List.setIfInBounds_toArray, List.set_cons_zero, List.set_cons_succ]
                      refine wpAnyI_take (S0 := fun _ => True) (i := 3) (v := ?_) rfl (by kernel_rfl) (by kernel_rfl) (by kernel_rfl) (by kernel_rfl) (List.range 15) (by kernel_rfl) (fun _ _ _ h => h) (fun _ _ h => absurd h (by decide)) (fun _ _ _ _ => trivial) (some 103) rfl (Or.inl ⟨by rfl, ?_⟩) trivial ?_
                      rotate_left
                      · intro w' _; go_simp <;> with_reducible rfl
                      try simp only [Act.put, List.setIfInBounds_toArray, List.set_cons_zero, List.set_cons_succ]
                      refine wpAnyI_take (S0 := fun _ => True) (i := 4) (v := ?_) rfl (by kernel_rfl) (by kernel_rfl) (by kernel_rfl) (by kernel_rfl) (List.range 15) (by kernel_rfl) (fun _ _ _ h => h) (fun _ _ h => absurd h (by decide)) (fun _ _ _ _ => trivial) (some 104) rfl (Or.inl ⟨by rfl, ?_⟩) trivial ?_
                      rotate_left
                      · intro w' _; go_simp <;> with_reducible rfl
                      try simp only [Act.put, List.setIfInBounds_toArray, List.set_cons_zero, List.set_cons_succ]
                      refine wpAnyI_take (S0 := fun _ => True) (i := 5) (v := ?_) rfl (by kernel_rfl) (by kernel_rfl) (by kernel_rfl) (by kernel_rfl) (List.range 15) (by kernel_rfl) (fun _ _ _ h => h) (fun _ _ h => absurd h (by decide)) (fun _ _ _ _ => trivial) (some 105) rfl (Or.inl ⟨by rfl, ?_⟩) trivial ?_
                      rotate_left
                      · intro w' _; go_simp <;> with_reducible rfl
                      try simp only [Act.put, List.setIfInBounds_toArray, List.set_cons_zero, List.set_cons_succ]
                      refine wpAnyI_take (S0 := fun _ => True) (i := 7) (v := ?_) rfl (by kernel_rfl) (by kernel_rfl) (by kernel_rfl) (by kernel_rfl) (List.range 15) (by kernel_rfl) (fun _ _ _ h => h) (fun _ _ h => absurd h (by decide)) (fun _ _ _ _ => trivial) (some 107) rfl (Or.inl ⟨by rfl, ?_⟩) trivial ?_
                      rotate_left
                      · intro w' _; go_simp <;> with_reducible rfl
                      try simp only [Act.put, List.setIfInBounds_toArray, List.set_cons_zero, List.set_cons_succ]
                      refine wpAnyI_take (S0 := fun _ => True) (i := 8) (v := ?_) rfl (by kernel_rfl) (by kernel_rfl) (by kernel_rfl) (by kernel_rfl) (List.range 15) (by kernel_rfl) (fun _ _ _ h => h) (fun _ _ h => absurd h (by decide)) (fun _ _ _ _ => trivial) (some 108) rfl (Or.inl ⟨by rfl, ?_⟩) trivial ?_
                      rotate_left
                      · intro w' _; go_simp <;> with_reducible rfl
                      try simp only [Act.put, List.setIfInBounds_toArray, List.set_cons_zero, List.set_cons_succ]
                      refine wpAnyI_take (S0 := fun _ => True) (i := 9) (v := ?_) rfl (by kernel_rfl) (by kernel_rfl) (by kernel_rfl) (by kernel_rfl) (List.range 15) (by kernel_rfl) (fun _ _ _ h => h) (fun _ _ h => absurd h (by decide)) (fun _ _ _ _ => trivial) (some 109) rfl (Or.inl ⟨by rfl, ?_⟩) trivial ?_
                      rotate_left
                      · intro w' _; go_simp <;> with_reducible rfl
                      try simp only [Act.put, List.setIfInBounds_toArray, List.set_cons_zero, List.set_cons_succ]
                      refine wpAnyI_take (S0 := fun W' => W'.cell? ⟨g, 0, none⟩ = some (.int .i64 6) ∧ W'.cell? ⟨g, 1, none⟩ = some (.int .i64 0) ∧ W'.cell? ⟨g, 2, none⟩ = some (.string X) ∧ W'.cell? ⟨g, 3, none⟩ = some (.string url) ∧ W'.cell? ⟨g, 4, none⟩ = some (.string title_)) (i := 6) (v := ?_) rfl (by kernel_rfl) (by kernel_rfl) (by kernel_rfl) (by kernel_rfl) [6, 10, 11] (by kernel_rfl) (fun _ _ _ h => h) (fun _ h _ => h) (fun j hj _ h => h (by simpa using hj)) (some 106) rfl (Or.inl ⟨by rfl, ?_⟩) ⟨d0, d1, d2, d3, d4⟩ ?_
                      rotate_left
                      · rintro w' ⟨s0, s1, s2, s3, s4⟩; go_simp <;> with_reducible rfl
                      try simp only [Act.put, List.setIfInBounds_toArray, List.set_cons_zero, List.set_cons_succ]
                      refine wpAnyI_one (i := 10) (by kernel_rfl) rfl (fun K' hK => ?_)
                      have HKK := Lib.hid hK
                      clear hK
                      go_simp
                      refine (HT2.out _ HRD.out.1).mono ?_
                      rintro e w8 ⟨rfl, b8⟩
                      have q0 : w8.cell? ⟨g, 0, none⟩ = some (.int .i64 6) := (b8.cell (p := ⟨g, 0, none⟩) hg).trans d0
                      have q1 : w8.cell? ⟨g, 1, none⟩ = some (.int .i64 0) := (b8.cell (p := ⟨g, 1, none⟩) hg).trans d1
                      have q2 : w8.cell? ⟨g, 2, none⟩ = some (.string X) := (b8.cell (p := ⟨g, 2, none⟩) hg).trans d2
                      have q3 : w8.cell? ⟨g, 3, none⟩ = some (.string url) := (b8.cell (p := ⟨g, 3, none⟩) hg).trans d3
                      have q4 : w8.cell? ⟨g, 4, none⟩ = some (.string title_) := (b8.cell (p := ⟨g, 4, none⟩) hg).trans d4
                      have B8 := below_step HRD.out.2 b8
                      go_wp2_with fail
                      refine HKK.out _ _ ⟨fun _ => ⟨q0, q1, q2, q3, q4⟩, ?_⟩
                      clear HKK K'
                      try simp only [Act.put, List.setIfInBounds_toArray, List.set_cons_zero, List.set_cons_succ]
                      refine wpAnyI_one (i := 11) (by kernel_rfl) rfl (fun K' hK => ?_)
                      have HKK := Lib.hid hK
                      clear hK
                      go_simp
                      refine HKK.out _ _ ⟨fun _ => ⟨q0, q1, q2, q3, q4⟩, ?_⟩
                      clear HKK K'
                      try simp only [Act.put, List.setIfInBounds_toArray, List.set_cons_zero, List.set_cons_succ]
                      refine wpAnyI_one (i := 12) (by kernel_rfl) rfl (fun K' hK => ?_)
                      have HKK := Lib.hid hK
                      clear hK
                      go_simp
                      refine HKK.out _ _ ⟨fun h => absurd h (by decide), ?_⟩
                      clear HKK K'
                      try simp only [Act.put, List.setIfInBounds_toArray, List.set_cons_zero, List.set_cons_succ]
                      refine wpAnyI_one (i := 13) (by kernel_rfl) rfl (fun K' hK => ?_)
                      have HKK := Lib.hid hK
                      clear hK
                      go_simp
                      refine HKK.out _ _ ⟨fun h => absurd h (by decide), ?_⟩
                      clear HKK K'
                      try simp only [Act.put, List.setIfInBounds_toArray, List.set_cons_zero, List.set_cons_succ]
                      refine wpAnyI_one (i := 14) (by kernel_rfl) rfl (fun K' hK => ?_)
                      have HKK := Lib.hid hK
                      clear hK
                      go_simp
                      refine HKK.out _ _ ⟨fun h => absurd h (by decide), ?_⟩
                      clear HKK K'
                      try simp only [Act.put, List.setIfInBounds_toArray, List.set_cons_zero, List.set_cons_succ]
                      refine wpAnyI_done (by kernel_rfl) ?_ _
                      go_wp2_with fail
                      go_ret
                      exact ⟨rfl, B8⟩
    · have he := empty_yes (s := url) (by omega)
      go_enter Tryz.func3, Tryz.ntmps3
      go_wp2_with fail
      refine (alive15 _ hE).mono ?_
      rintro e w1 ⟨rfl, b1⟩
      go_wp2_with fail
      go_ret
      exact ⟨rfl, b1⟩

end Go.Proofs.YtahljcbmckldhaaGreatDoor
