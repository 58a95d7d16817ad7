/-
  InlineAutos: a link that stands for itself is a link with its text as words: the walk of the law.
-/
import Derived.Test.YtahljcbmckldhaaGreatDoorInlG
namespace Go.Proofs.YtahljcbmckldhaaGreatDoor
open Go.RowKit
set_option maxRecDepth 100000
set_option linter.unusedVariables false
set_option linter.unusedSimpArgs false


set_option maxHeartbeats 8000000 in
theorem law_iautos (a b : ByteArray) (w : World) (hE : Env w) :
    Calls Tryz.prog 9 #[.string a, .string b] w fun e w' => e = .returned (.bool true) ∧ Below w.heap.size w w' := by
  by_cases t1 : (a.size : Int) < 2
  · go_enter Tryz.func9, Tryz.ntmps9
    go_wp2_with fail
    refine (alive15 _ hE).mono ?_
    rintro e w1 ⟨rfl, b1⟩
    go_wp2_with fail
    go_ret
    exact ⟨rfl, b1⟩
  · by_cases t2 : (20 : Int) < (a.size : Int)
    · go_enter Tryz.func9, Tryz.ntmps9
      go_wp2_with fail
      refine (alive15 _ hE).mono ?_
      rintro e w1 ⟨rfl, b1⟩
      go_wp2_with fail
      go_ret
      exact ⟨rfl, b1⟩
    · by_cases h0 : 0 < b.size
      · have he := empty_no h0
        by_cases t3 : (20 : Int) < (b.size : Int)
        · go_enter Tryz.func9, Tryz.ntmps9
          go_wp2_with fail
          refine (alive15 _ hE).mono ?_
          rintro e w1 ⟨rfl, b1⟩
          go_wp2_with fail
          go_ret
          exact ⟨rfl, b1⟩
        · have HE := Lib.hid hE
          clear hE
          go_enter Tryz.func9, Tryz.ntmps9
          go_wp2_with fail
          refine (alive15 _ HE.out).mono ?_
          rintro e w1 ⟨rfl, b1⟩
          go_wp2_with fail
          obtain ⟨W2, hW2⟩ : ∃ W2, W2 = w1.alloc (.cells #[.string a, .string b] 9) := ⟨_, rfl⟩
          rw [← hW2]
          have c0 : W2.cell? ⟨w1.heap.size, 0, none⟩ = some (.string a) := by rw [hW2]; simp
          have c1 : W2.cell? ⟨w1.heap.size, 1, none⟩ = some (.string b) := by rw [hW2]; simp
          have hB2 : Below w.heap.size w W2 := by rw [hW2]; exact b1.alloc b1.size _
          clear hW2
          go_loop [35] (fun uo => ∃ j : Nat, j ≤ 2 ∧ uo = .int .i64 j ∧ (0 < j → Letters (a).data.toList) ∧ (1 < j → Letters (b).data.toList)) (fun uo => 2 - (intOf uo).toNat)
          case atStart => exact ⟨0, by omega, rfl, fun h => absurd h (by omega), fun h => absurd h (by omega)⟩
          case round =>
            obtain ⟨j, hj, rfl, hla, hlb⟩ := hrel
            have HLA := Lib.hid hla
            have HLB := Lib.hid hlb
            clear hla hlb
            by_cases hjt : j < 2
            · obtain ⟨x, hx, hxz, hxl⟩ : ∃ x : ByteArray, W2.cell? ⟨w1.heap.size, j, none⟩ = some (.string x) ∧ x.size ≤ 20 ∧ (Letters x.data.toList → (0 < j + 1 → Letters (a).data.toList) ∧ (1 < j + 1 → Letters (b).data.toList)) := by
                have : j = 0 ∨ j = 1 := by omega
                rcases this with rfl | rfl
                · exact ⟨a, c0, by omega, fun h => ⟨fun _ => h, fun h => absurd h (by omega)⟩⟩
                · exact ⟨b, c1, by omega, fun h => ⟨fun _ => HLA.out (by omega), fun _ => h⟩⟩
              have HXL := Lib.hid hxl
              clear hxl
              go_wp2_with fail
              go_loop [7] (fun ui => ∃ i : Nat, i ≤ (x).size ∧ ui = .int .i64 i ∧ Letters ((x).data.toList.take i)) (fun ui => (x).size - (intOf ui).toNat)
              case atStart => exact ⟨0, Nat.zero_le _, rfl, fun b hb => by simp at hb⟩
              case round =>
                obtain ⟨i, hi, rfl, hl⟩ := hrel
                have HL := Lib.hid hl
                clear hl
                by_cases hlt : i < (x).size
                · have hg := Lib.data_getElem? x i hlt
                  obtain ⟨d, hd⟩ : ∃ d, (x)[i] = d := ⟨_, rfl⟩
                  rw [hd] at hg
                  have HG := Lib.hid hg
                  clear hg
                  by_cases t1 : (d.toNat : Int) < 97
                  · go_wp2_with fail
                    go_ret
                    exact ⟨rfl, hB2⟩
                  · by_cases t2 : (122 : Int) < (d.toNat : Int)
                    · go_wp2_with fail
                      go_ret
                      exact ⟨rfl, hB2⟩
                    · have HN := Lib.hid (letters_take HL.out HG.out (by omega))
                      go_wp2_with fail
                      go_round
                      case rel => exact ⟨i + 1, by omega, by go_num, HN.out⟩
                      case measure => simp [intOf]; omega
                · obtain rfl : i = x.size := by omega
                  have HN := Lib.hid (HXL.out (by have := HL.out; rwa [take_all] at this))
                  go_wp2_with fail
                  go_round
                  case rel => exact ⟨j + 1, by omega, by go_num, HN.out.1, HN.out.2⟩
                  case measure => simp [intOf]; omega
            · obtain rfl : j = 2 := by omega
              have hla := HLA.out (by omega)
              have hlb := HLB.out (by omega)
              clear c0 c1
              have hb0 : b.data.toList ≠ [] := by intro h; rw [Lib.size_eq, h] at h0; exact absurd h0 (by simp)
              have hal : a.data.toList.length ≤ 20 := by rw [← Lib.size_eq]; omega
              have hbl : b.data.toList.length ≤ 20 := by rw [← Lib.size_eq]; omega
              have hal2 : 2 ≤ a.data.toList.length := by rw [← Lib.size_eq]; omega
              obtain ⟨X, hX⟩ : ∃ X : ByteArray, X = ⟨(autoText false a.data.toList b.data.toList).toArray⟩ := ⟨_, rfl⟩
              obtain ⟨Z, hZ⟩ : ∃ X : ByteArray, X = ⟨(autoText true a.data.toList b.data.toList).toArray⟩ := ⟨_, rfl⟩
              obtain ⟨M, hM⟩ : ∃ X : ByteArray, X = ⟨(autoUrl true a.data.toList b.data.toList).toArray⟩ := ⟨_, rfl⟩
              have hpl := autos_plain a.data.toList b.data.toList hla hlb hal2 hal hb0
              have k1 : ∀ (Y : ByteArray) W', Y.data.toList = autosText a.data.toList b.data.toList → Env W' → Calls Tryz.prog 11 #[.string Y] W' fun e w' => ∃ g cap, e = .returned (.slice (some ⟨g, 0, none⟩) 6 cap) ∧
                  (w'.cell? ⟨g, 2, none⟩ = some (.string ⟨#[120, 32]⟩) ∧
                  (w'.cell? ⟨g, 5, none⟩ = some (.int .i64 5) ∧ w'.cell? ⟨g, 6, none⟩ = some (.int .i64 0) ∧ w'.cell? ⟨g, 7, none⟩ = some (.string ⟨#[]⟩) ∧ w'.cell? ⟨g, 8, none⟩ = some (.string X) ∧ w'.cell? ⟨g, 9, none⟩ = some (.string ⟨#[]⟩)) ∧
                  (w'.cell? ⟨g, 10, none⟩ = some (.int .i64 1) ∧ w'.cell? ⟨g, 11, none⟩ = some (.int .i64 1) ∧ w'.cell? ⟨g, 12, none⟩ = some (.string X) ∧ w'.cell? ⟨g, 13, none⟩ = some (.string ⟨#[]⟩) ∧ w'.cell? ⟨g, 14, none⟩ = some (.string ⟨#[]⟩)) ∧
                  (w'.cell? ⟨g, 20, none⟩ = some (.int .i64 5) ∧ w'.cell? ⟨g, 21, none⟩ = some (.int .i64 0) ∧ w'.cell? ⟨g, 22, none⟩ = some (.string ⟨#[]⟩) ∧ w'.cell? ⟨g, 23, none⟩ = some (.string M) ∧ w'.cell? ⟨g, 24, none⟩ = some (.string ⟨#[]⟩)) ∧
                  (w'.cell? ⟨g, 25, none⟩ = some (.int .i64 1) ∧ w'.cell? ⟨g, 26, none⟩ = some (.int .i64 1) ∧ w'.cell? ⟨g, 27, none⟩ = some (.string Z) ∧ w'.cell? ⟨g, 28, none⟩ = some (.string ⟨#[]⟩) ∧ w'.cell? ⟨g, 29, none⟩ = some (.string ⟨#[]⟩))) ∧ Below W'.heap.size W' w' := fun Y W' hY hW' => by
                refine (raw_any Y W' hW' (by rw [Lib.size_eq, hY]; simp [autosText, autoText]; omega)).mono ?_
                rintro e w' ⟨v, rfl, hI, hb⟩
                rw [hY, hpl] at hI
                obtain ⟨g, cap, rfl, hg, hc⟩ := inls_at hI (by simp)
                subst hX hZ hM
                exact ⟨g, cap, rfl, ⟨(hc 0 _ rfl).2.2.1, hc 1 _ rfl, hc 2 _ rfl, hc 4 _ rfl, hc 5 _ rfl⟩, hb⟩
              have q2 : a ++ (⟨#[58]⟩ : ByteArray) ++ b = X := by rw [hX]; exact ba_eq (by simp [autoText])
              have q3 : (⟨#[109, 97, 105, 108, 116, 111, 58]⟩ : ByteArray) ++ a ++ ⟨#[64]⟩ ++ b = M := by rw [hM]; exact ba_eq (by simp [autoUrl, autoText, mailto])
              have q4 : a ++ (⟨#[64]⟩ : ByteArray) ++ b = Z := by rw [hZ]; exact ba_eq (by simp [autoText])
              have K1 := Lib.hid k1
              have Q := Lib.hid (And.intro q2 (And.intro q3 q4))
              clear k1 hpl hX hZ hM q2 q3 q4 hla hlb hal hbl hal2 hb0
              go_wp2_with fail
              refine (K1.out _ _ (by simp only [app_list]; simp [autosText, autoText]) (HE.out.below hB2)).mono ?_
              rintro e w5 ⟨g, cap, rfl, ⟨a2, ⟨b0, b1, b2, b3, b4⟩, ⟨d0, d1, d2, d3, d4⟩, ⟨e0, e1, e2, e3, e4⟩, ⟨f0, f1, f2, f3, f4⟩⟩, b5⟩
              have B5 := below_step hB2 b5
              obtain ⟨q2, q3, q4⟩ := Q.out
              clear b5 K1
              go_wp2_with fail
              go_ret
              exact ⟨rfl, B5⟩
      · have he := empty_yes (s := b) (by omega)
        go_enter Tryz.func9, Tryz.ntmps9
        go_wp2_with fail
        refine (alive15 _ hE).mono ?_
        rintro e w1 ⟨rfl, b1⟩
        go_wp2_with fail
        go_ret
        exact ⟨rfl, b1⟩

end Go.Proofs.YtahljcbmckldhaaGreatDoor
