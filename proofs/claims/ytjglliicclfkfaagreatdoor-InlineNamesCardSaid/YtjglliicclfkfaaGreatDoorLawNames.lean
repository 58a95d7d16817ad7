/-
  InlineNames: a name between brackets is a link, if it is defined, in whichever case, by itself, with empty brackets behind, or behind another text; else it is words: the walk of the law.
-/
import Derived.Test.YtjglliicclfkfaaGreatDoorInlG
import Derived.RegionTactic
import Derived.BigRegion
namespace Go.Proofs.YtjglliicclfkfaaGreatDoor
open Go.RowKit
set_option maxRecDepth 100000
set_option linter.unusedVariables false
set_option linter.unusedSimpArgs false

theorem tabN_new (w : World) : TabOwn w.heap.size (w.alloc (.cells #[.slice none 0 0] 36)) w.heap.size [] := ⟨Nat.le_refl _, _, heap_alloc_new w _, World.ownsRow_nil _ _ _ _⟩
theorem str_ne {a b : ByteArray} (h : ¬ a = b) : (a.toList == b.toList) = false := by
  rw [beq_eq_false_iff_ne, Lib.toList_data, Lib.toList_data]
  exact fun e => h (ba_eq e)


set_option maxHeartbeats 8000000 in
theorem law_names (name text : ByteArray) (known : Bool) (form : Int) (hf : (Lit.int .i64 form).wf = true) (w : World) (hE : Env w) :
    Calls Tryz.prog 5 #[.string name, .string text, .bool known, .int .i64 form] w fun e w' => e = .returned (.bool true) ∧ Below w.heap.size w w' := by
  clear hf
  by_cases h0 : 0 < name.size
  · have he := empty_no h0
    by_cases h20 : (20 : Int) < (name.size : Int)
    · go_enter Tryz.func5, Tryz.ntmps5
      go_wp2_with fail
      refine (alive15 _ hE).mono ?_
      rintro e w1 ⟨rfl, b1⟩
      go_wp2_with fail
      go_ret
      exact ⟨rfl, b1⟩
    · by_cases h0t : 0 < text.size
      · have het := empty_no h0t
        by_cases h20t : (20 : Int) < (text.size : Int)
        · go_enter Tryz.func5, Tryz.ntmps5
          go_wp2_with fail
          refine (alive15 _ hE).mono ?_
          rintro e w1 ⟨rfl, b1⟩
          go_wp2_with fail
          go_ret
          exact ⟨rfl, b1⟩
        · by_cases hnt : name = text
          · subst hnt
            have hbq := beq_self_bytes name
            go_enter Tryz.func5, Tryz.ntmps5
            go_wp2_with fail
            refine (alive15 _ hE).mono ?_
            rintro e w1 ⟨rfl, b1⟩
            go_wp2_with fail
            go_ret
            exact ⟨rfl, b1⟩
          · have hbq := str_ne hnt
            have HE := Lib.hid hE
            clear hE hnt
            go_enter Tryz.func5, Tryz.ntmps5
            go_wp2_with fail
            refine (alive15 _ HE.out).mono ?_
            rintro e w1 ⟨rfl, b1⟩
            go_wp2_with fail
            obtain ⟨W2, hW2⟩ : ∃ W2, W2 = w1.alloc (.cells #[.string name, .string text] 9) := ⟨_, rfl⟩
            rw [← hW2]
            have c0 : W2.cell? ⟨w1.heap.size, 0, none⟩ = some (.string name) := by rw [hW2]; simp
            have c1 : W2.cell? ⟨w1.heap.size, 1, none⟩ = some (.string text) := by rw [hW2]; simp
            have hB2 : Below w.heap.size w W2 := by rw [hW2]; exact b1.alloc b1.size _
            clear hW2
            go_loop [47] (fun uo => ∃ j : Nat, j ≤ 2 ∧ uo = .int .i64 j ∧ (0 < j → Letters (name).data.toList) ∧ (1 < j → Letters (text).data.toList)) (fun uo => 2 - (intOf uo).toNat)
            case atStart => exact ⟨0, by omega, rfl, fun h => absurd h (by omega), fun h => absurd h (by omega)⟩
            case round =>
              obtain ⟨j, hj, rfl, hla, hlb⟩ := hrel
              have HLA := Lib.hid hla
              have HLB := Lib.hid hlb
              clear hla hlb
              by_cases hjt : j < 2
              · obtain ⟨x, hx, hxz, hxl⟩ : ∃ x : ByteArray, W2.cell? ⟨w1.heap.size, j, none⟩ = some (.string x) ∧ x.size ≤ 20 ∧ (Letters x.data.toList → (0 < j + 1 → Letters (name).data.toList) ∧ (1 < j + 1 → Letters (text).data.toList)) := by
                  have : j = 0 ∨ j = 1 := by omega
                  rcases this with rfl | rfl
                  · exact ⟨name, c0, by omega, fun h => ⟨fun _ => h, fun h => absurd h (by omega)⟩⟩
                  · exact ⟨text, c1, by omega, fun h => ⟨fun _ => HLA.out (by omega), fun _ => h⟩⟩
                have HXL := Lib.hid hxl
                clear hxl
                go_wp2_with fail
                go_loop [11] (fun ui => ∃ i : Nat, i ≤ (x).size ∧ ui = .int .i64 i ∧ Letters ((x).data.toList.take i)) (fun ui => (x).size - (intOf ui).toNat)
                case atStart => exact ⟨0, Nat.zero_le _, rfl, fun b hb => by simp at hb⟩
                case round =>
                  obtain ⟨i, hi, rfl, hl⟩ := hrel
                  have HL := Lib.hid hl
                  clear hl
                  by_cases hlt : i < (x).size
                  · have hg := Lib.data_getElem? x i hlt
                    obtain ⟨d, hd⟩ : ∃ d, (x)[i] = d := ⟨_, rfl⟩
                    rw [hd] at hg
                    have HG := Lib.hid hg
                    clear hg
                    by_cases t1 : (d.toNat : Int) < 97
                    · go_wp2_with fail
                      go_ret
                      exact ⟨rfl, hB2⟩
                    · by_cases t2 : (122 : Int) < (d.toNat : Int)
                      · go_wp2_with fail
                        go_ret
                        exact ⟨rfl, hB2⟩
                      · have HN := Lib.hid (letters_take HL.out HG.out (by omega))
                        go_wp2_with fail
                        go_round
                        case rel => exact ⟨i + 1, by omega, by go_num, HN.out⟩
                        case measure => simp [intOf]; omega
                  · obtain rfl : i = x.size := by omega
                    have HN := Lib.hid (HXL.out (by have := HL.out; rwa [take_all] at this))
                    go_wp2_with fail
                    go_round
                    case rel => exact ⟨j + 1, by omega, by go_num, HN.out.1, HN.out.2⟩
                    case measure => simp [intOf]; omega
              · obtain rfl : j = 2 := by omega
                have hla := HLA.out (by omega)
                have hlb := HLB.out (by omega)
                clear c0 c1
                obtain ⟨c, r, hcr⟩ : ∃ c r, name.data.toList = c :: r := by
                  cases hl : name.data.toList with
                  | nil => rw [Lib.size_eq, hl] at h0; exact absurd h0 (by simp)
                  | cons c r => exact ⟨c, r, rfl⟩
                have ht0 : text.data.toList ≠ [] := by intro h; rw [Lib.size_eq, h] at h0t; exact absurd h0t (by simp)
                rw [hcr] at hla
                have hrl : r.length < 20 := by
                  have := congrArg List.length hcr
                  rw [← Lib.size_eq, List.length_cons] at this; omega
                obtain ⟨R, hRX⟩ : ∃ R, name.extract 1 name.size = R := ⟨_, rfl⟩
                have hR : R.data.toList = r := by rw [← hRX, Lib.extract_to_end, hcr]; rfl
                have hRz : R.size ≤ 20 := by rw [Lib.size_eq, hR]; omega
                have hc0 : ∀ h, name[0]'h = c := fun h => by
                  have := Lib.data_getElem? name 0 h
                  rw [hcr] at this
                  simp at this
                  exact this.symm
                obtain ⟨g, hg⟩ : ∃ g, c - 32 = g := ⟨_, rfl⟩
                have hup := up_facts c hla.head
                have hcw : IntKind.u8.wrap ((c.toNat : Int) - 32) = (g.toNat : Int) := by
                  have h1 := hla.head
                  have h2 := hup.1
                  rw [← hg, h2, IntWalk.u8_in _ (by omega)]
                  omega
                have hm1 : form.tmod 3 < 3 := Int.tmod_lt_of_pos form (by decide)
                have hm2 : -3 < form.tmod 3 := Int.lt_tmod_of_pos form (by decide)
                have hm3 : (form.tmod 3 + 3).tmod 3 = (form.tmod 3 + 3) % 3 := Int.tmod_eq_emod_of_nonneg (by omega)
                obtain ⟨K, hK, hK3⟩ : ∃ K : Nat, ((form.tmod 3 + 3).tmod 3 = (K : Int)) ∧ K < 3 := ⟨((form.tmod 3 + 3).tmod 3).toNat, by omega, by omega⟩
                clear hm3
                have hw1 : IntKind.i64.wrap (form.tmod 3 + 3) = form.tmod 3 + 3 := IntWalk.i64_in _ (by omega)
                have hnz : (1 : Int) ≤ (name.size : Int) := by omega
                have hnz2 : (0 : Int) < (name.size : Int) := by omega
                have HNM := Lib.hid (And.intro hcr (And.intro hR hg))
                have HC0 := Lib.hid hc0
                have HRX := Lib.hid hRX
                have hbt := hB2.alloc hB2.size (.cells #[.slice none 0 0] 36)
                have hTN := tabN_new W2
                have hbs2 := hB2.size
                have hsz : ∀ (Y : ByteArray), Y.data.toList = namesText (upName c r) text.data.toList K → Y.size ≤ 100000 := fun Y hY => by
                  have htl : text.data.toList.length ≤ 20 := by rw [← Lib.size_eq]; omega
                  rw [Lib.size_eq, hY]
                  unfold namesText upName
                  split
                  · simp; omega
                  · split
                    · simp; omega
                    · simp; omega
                have HSZ := Lib.hid hsz
                have HLA := Lib.hid hla
                have HLB := Lib.hid hlb
                have HT0 := Lib.hid ht0
                have HRL := Lib.hid hrl
                clear hsz hla hlb ht0 hcr hR hg hup hc0 hRX
                cases known
                · have k1 : ∀ (Y : ByteArray) W', Y.data.toList = namesText (upName c r) text.data.toList K → Env W' → TabAt W' (.pointer (some ⟨W2.heap.size, 0, none⟩)) (some []) → Calls Tryz.prog 10 #[.string Y, .slice none 0 0, .pointer (some ⟨W2.heap.size, 0, none⟩)] W' fun e w' => ∃ gg cap, e = .returned (.slice (some ⟨gg, 0, none⟩) 1 cap) ∧
                      (w'.cell? ⟨gg, 0, none⟩ = some (.int .i64 1) ∧ w'.cell? ⟨gg, 1, none⟩ = some (.int .i64 0) ∧ w'.cell? ⟨gg, 2, none⟩ = some (.string Y) ∧ w'.cell? ⟨gg, 3, none⟩ = some (.string ⟨#[]⟩) ∧ w'.cell? ⟨gg, 4, none⟩ = some (.string ⟨#[]⟩)) ∧ Below W'.heap.size W' w' := fun Y W' hY hW' hT' => by
                    refine (parse0_any Y _ (some []) W' hW' hT' (fun d h => by injection h with h; subst h; simp) (HSZ.out Y hY)).mono ?_
                    rintro e w' ⟨v, rfl, hI, hb⟩
                    have hp := names_unknown c r text.data.toList K HLA.out HLB.out HT0.out
                    rw [← hY] at hp
                    rw [hp] at hI
                    obtain ⟨gg, cap, rfl, hgg, hc⟩ := inls_at hI (by simp)
                    have := hc 0 _ rfl
                    simp only [wordsI, Lib.mk_data] at this
                    exact ⟨gg, cap, rfl, this, hb⟩
                  have K1 := Lib.hid k1
                  obtain ⟨wt, hwt⟩ : ∃ W, W2.alloc (.cells #[.slice none 0 0] 36) = W := ⟨_, rfl⟩
                  have HT := Lib.hid (show Below w.heap.size w wt ∧ TabOwn W2.heap.size wt W2.heap.size [] by rw [← hwt]; exact ⟨hbt, hTN⟩)
                  have HWT := Lib.hid hwt
                  clear k1 hbt hTN hwt HLA HLB HT0 HSZ
                  go_wp2_with fail
                  rw [HWT.out]
                  have hcx : ∀ h, name[0]'h = c := fun h => HC0.out h
                  have hsl : name.extract 1 name.size = R := HRX.out
                  have cvq : (convert 40 9 (.slice (some ⟨(wt).heap.size, 0, none⟩) 1 1)).run Tryz.prog ((wt).alloc (.cells #[.int .u8 (g.toNat : Int)] 5)).drew = .ok (.string ⟨#[g]⟩) ((wt).alloc (.cells #[.int .u8 (g.toNat : Int)] 5)).drew := one_byte (wt).drew g (wt).heap.size rfl
                  go_region
                  all_goals
                    obtain ⟨WU, hWU⟩ : ∃ W, (wt.alloc (.cells #[.int .u8 (g.toNat : Int)] 5)).drew = W := ⟨_, rfl⟩
                    have bu : Below wt.heap.size wt WU := by rw [← hWU]; exact ((Below.refl _ _).alloc (Nat.le_refl _) _).drew
                    rw [hWU]
                    have HW := Lib.hid (And.intro (HT.out.1.trans (bu.mono HT.out.1.size)) (HT.out.2.below bu))
                    clear hWU bu cvq hcx hsl HT
                    rcases (show K = 0 ∨ K = 1 ∨ K = 2 by omega) with rfl | rfl | rfl
                    · go_wp2_with fail
                      refine (K1.out _ _ (by simp only [app_list]; simp [namesText, upName, HNM.out]) (HE.out.below HW.out.1) HW.out.2.at').mono ?_
                      rintro e w5 ⟨gg, cap, rfl, ⟨d0, d1, d2, d3, d4⟩, b5⟩
                      have B5 := HW.out.1.trans (b5.mono HW.out.1.size)
                      go_wp2_with fail
                      go_ret
                      exact ⟨rfl, B5⟩
                    · go_wp2_with fail
                      refine (K1.out _ _ (by simp only [app_list]; simp [namesText, upName, HNM.out]) (HE.out.below HW.out.1) HW.out.2.at').mono ?_
                      rintro e w5 ⟨gg, cap, rfl, ⟨d0, d1, d2, d3, d4⟩, b5⟩
                      have B5 := HW.out.1.trans (b5.mono HW.out.1.size)
                      go_wp2_with fail
                      go_ret
                      exact ⟨rfl, B5⟩
                    · go_wp2_with fail
                      refine (K1.out _ _ (by simp only [app_list]; simp [namesText, upName, HNM.out]) (HE.out.below HW.out.1) HW.out.2.at').mono ?_
                      rintro e w5 ⟨gg, cap, rfl, ⟨d0, d1, d2, d3, d4⟩, b5⟩
                      have B5 := HW.out.1.trans (b5.mono HW.out.1.size)
                      go_wp2_with fail
                      go_ret
                      exact ⟨rfl, B5⟩
                · have k1 : ∀ (Y SH : ByteArray) W', Y.data.toList = namesText (upName c r) text.data.toList K → SH.data.toList = (if K = 2 then text.data.toList else upName c r) → Env W' → TabAt W' (.pointer (some ⟨W2.heap.size, 0, none⟩)) (some [urlDef name.data.toList]) → Calls Tryz.prog 10 #[.string Y, .slice none 0 0, .pointer (some ⟨W2.heap.size, 0, none⟩)] W' fun e w' => ∃ gg cap, e = .returned (.slice (some ⟨gg, 0, none⟩) 2 cap) ∧
                      ((w'.cell? ⟨gg, 0, none⟩ = some (.int .i64 5) ∧ w'.cell? ⟨gg, 1, none⟩ = some (.int .i64 0) ∧ w'.cell? ⟨gg, 2, none⟩ = some (.string ⟨#[]⟩) ∧ w'.cell? ⟨gg, 3, none⟩ = some (.string ⟨#[47, 117]⟩) ∧ w'.cell? ⟨gg, 4, none⟩ = some (.string ⟨#[116]⟩)) ∧
                      (w'.cell? ⟨gg, 5, none⟩ = some (.int .i64 1) ∧ w'.cell? ⟨gg, 6, none⟩ = some (.int .i64 1) ∧ w'.cell? ⟨gg, 7, none⟩ = some (.string SH) ∧ w'.cell? ⟨gg, 8, none⟩ = some (.string ⟨#[]⟩) ∧ w'.cell? ⟨gg, 9, none⟩ = some (.string ⟨#[]⟩))) ∧ Below W'.heap.size W' w' := fun Y SH W' hY hSH hW' hT' => by
                    refine (parse0_any Y _ (some [urlDef name.data.toList]) W' hW' hT' (fun d h => by injection h with h; subst h; simp) (HSZ.out Y hY)).mono ?_
                    rintro e w' ⟨v, rfl, hI, hb⟩
                    have hp := names_known c r text.data.toList K HLA.out HRL.out HLB.out HT0.out
                    rw [show urlTab (c :: r) true = [urlDef name.data.toList] by rw [HNM.out.1]; rfl, ← hY, ← hSH] at hp
                    rw [hp] at hI
                    obtain ⟨gg, cap, rfl, hgg, hc⟩ := inls_at hI (by simp)
                    have h1 := hc 0 _ rfl
                    have h2 := hc 1 _ rfl
                    simp only [Lib.mk_data] at h1 h2
                    exact ⟨gg, cap, rfl, ⟨h1, h2⟩, hb⟩
                  have K1 := Lib.hid k1
                  have hadd := add_any W2.heap.size W2.heap.size [] (urlDef name.data.toList) _ hTN (by simp)
                  rw [show addL [] (urlDef name.data.toList) = ([urlDef name.data.toList], true) from rfl] at hadd
                  simp only [DefL.val, defV, urlDef, Lib.mk_data] at hadd
                  have HADD := Lib.hid hadd
                  have HBT := Lib.hid hbt
                  clear k1 hbt hTN HLA HLB HT0 HSZ hadd HRL
                  go_wp2_with fail
                  refine HADD.out.mono ?_
                  rintro e wt ⟨rfl, hTN, bt⟩
                  have HT := Lib.hid (show Below w.heap.size w wt ∧ TabOwn W2.heap.size wt W2.heap.size [urlDef name.data.toList] from ⟨HBT.out.trans (bt.mono hbs2), hTN⟩)
                  clear hTN bt HADD HBT
                  go_wp2_with fail
                  have hcx : ∀ h, name[0]'h = c := fun h => HC0.out h
                  have hsl : name.extract 1 name.size = R := HRX.out
                  have cvq : (convert 40 9 (.slice (some ⟨(wt).heap.size, 0, none⟩) 1 1)).run Tryz.prog ((wt).alloc (.cells #[.int .u8 (g.toNat : Int)] 5)).drew = .ok (.string ⟨#[g]⟩) ((wt).alloc (.cells #[.int .u8 (g.toNat : Int)] 5)).drew := one_byte (wt).drew g (wt).heap.size rfl
                  go_region
                  all_goals
                    obtain ⟨WU, hWU⟩ : ∃ W, (wt.alloc (.cells #[.int .u8 (g.toNat : Int)] 5)).drew = W := ⟨_, rfl⟩
                    have bu : Below wt.heap.size wt WU := by rw [← hWU]; exact ((Below.refl _ _).alloc (Nat.le_refl _) _).drew
                    rw [hWU]
                    have HW := Lib.hid (And.intro (HT.out.1.trans (bu.mono HT.out.1.size)) (HT.out.2.below bu))
                    clear hWU bu cvq hcx hsl HT
                    rcases (show K = 0 ∨ K = 1 ∨ K = 2 by omega) with rfl | rfl | rfl
                    · go_wp2_with fail
                      refine (K1.out _ (⟨#[g]⟩ ++ R) _ (by simp only [app_list]; simp [namesText, upName, HNM.out]) (by simp [upName, HNM.out]) (HE.out.below HW.out.1) HW.out.2.at').mono ?_
                      rintro e w5 ⟨gg, cap, rfl, ⟨⟨d0, d1, d2, d3, d4⟩, ⟨e0, e1, e2, e3, e4⟩⟩, b5⟩
                      have B5 := HW.out.1.trans (b5.mono HW.out.1.size)
                      go_wp2_with fail
                      go_ret
                      exact ⟨rfl, B5⟩
                    · go_wp2_with fail
                      refine (K1.out _ (⟨#[g]⟩ ++ R) _ (by simp only [app_list]; simp [namesText, upName, HNM.out]) (by simp [upName, HNM.out]) (HE.out.below HW.out.1) HW.out.2.at').mono ?_
                      rintro e w5 ⟨gg, cap, rfl, ⟨⟨d0, d1, d2, d3, d4⟩, ⟨e0, e1, e2, e3, e4⟩⟩, b5⟩
                      have B5 := HW.out.1.trans (b5.mono HW.out.1.size)
                      go_wp2_with fail
                      go_ret
                      exact ⟨rfl, B5⟩
                    · go_wp2_with fail
                      refine (K1.out _ text _ (by simp only [app_list]; simp [namesText, upName, HNM.out]) (by simp [upName, HNM.out]) (HE.out.below HW.out.1) HW.out.2.at').mono ?_
                      rintro e w5 ⟨gg, cap, rfl, ⟨⟨d0, d1, d2, d3, d4⟩, ⟨e0, e1, e2, e3, e4⟩⟩, b5⟩
                      have B5 := HW.out.1.trans (b5.mono HW.out.1.size)
                      go_wp2_with fail
                      go_ret
                      exact ⟨rfl, B5⟩
      · have het := empty_yes (s := text) (by omega)
        go_enter Tryz.func5, Tryz.ntmps5
        go_wp2_with fail
        refine (alive15 _ hE).mono ?_
        rintro e w1 ⟨rfl, b1⟩
        go_wp2_with fail
        go_ret
        exact ⟨rfl, b1⟩
  · have he := empty_yes (s := name) (by omega)
    go_enter Tryz.func5, Tryz.ntmps5
    go_wp2_with fail
    refine (alive15 _ hE).mono ?_
    rintro e w1 ⟨rfl, b1⟩
    go_wp2_with fail
    go_ret
    exact ⟨rfl, b1⟩

end Go.Proofs.YtjglliicclfkfaaGreatDoor
