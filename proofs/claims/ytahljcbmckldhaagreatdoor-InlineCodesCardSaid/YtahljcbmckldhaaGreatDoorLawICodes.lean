/-
  InlineCodes: in code nothing is paired; a span's text stands in it as it is: the walk of the law.
-/
import Derived.Test.YtahljcbmckldhaaGreatDoorInlG
namespace Go.Proofs.YtahljcbmckldhaaGreatDoor
open Go.RowKit
set_option maxRecDepth 100000
set_option linter.unusedVariables false
set_option linter.unusedSimpArgs false

/-- A literal row of one atom, new. -/
theorem AtomsAt.one (w : World) (x : AtomT) (b : Nat) (hb : b = w.heap.size) : AtomsAt (w.alloc (.cells #[.string ⟨x.label.toArray⟩, .string ⟨x.text.toArray⟩] 34)) (.slice (some ⟨b, 0, none⟩) 1 1) [x] := by
  subst hb
  have h := World.ownsRow_lit (base := 0) (e := 34) (size := 2) w #[.string ⟨x.label.toArray⟩, .string ⟨x.text.toArray⟩] 1 (Nat.zero_le _) (by unfold maxLen; omega) rfl
  obtain ⟨ao, c, hv, hR, _⟩ := own_slice h
  injection hv with h1 _ h2
  subst h1 h2
  exact ⟨_, _, rfl, fun _ => hR⟩


set_option maxHeartbeats 8000000 in
theorem law_icodes (text : ByteArray) (sign : Int) (hsg : (Lit.int .u8 sign).wf = true) (w : World) (hE : Env w) :
    Calls Tryz.prog 6 #[.string text, .int .u8 sign] w fun e w' => e = .returned (.bool true) ∧ Below w.heap.size w w' := by
  obtain ⟨c, rfl⟩ : ∃ d : UInt8, sign = (d.toNat : Int) := by
    have hg0 := bounds_u8 hsg
    exact ⟨UInt8.ofNat sign.toNat, by rw [UInt8.toNat_ofNat']; omega⟩
  clear hsg
  by_cases h0 : 0 < text.size
  · have he := empty_no h0
    by_cases t3 : (30 : Int) < (text.size : Int)
    · go_enter Tryz.func6, Tryz.ntmps6
      go_wp2_with fail
      refine (alive15 _ hE).mono ?_
      rintro e w1 ⟨rfl, b1⟩
      go_wp2_with fail
      go_ret
      exact ⟨rfl, b1⟩
    · have HE := Lib.hid hE
      clear hE
      go_enter Tryz.func6, Tryz.ntmps6
      go_wp2_with fail
      refine (alive15 _ HE.out).mono ?_
      rintro e w1 ⟨rfl, b1⟩
      go_wp2_with fail
      go_loop [5] (fun ui => ∃ i : Nat, i ≤ (text).size ∧ ui = .int .i64 i ∧ Letters ((text).data.toList.take i)) (fun ui => (text).size - (intOf ui).toNat)
      case atStart => exact ⟨0, Nat.zero_le _, rfl, fun b hb => by simp at hb⟩
      case round =>
        obtain ⟨i, hi, rfl, hl⟩ := hrel
        have HL := Lib.hid hl
        clear hl
        by_cases hlt : i < (text).size
        · have hg := Lib.data_getElem? text i hlt
          obtain ⟨d, hd⟩ : ∃ d, (text)[i] = d := ⟨_, rfl⟩
          rw [hd] at hg
          have HG := Lib.hid hg
          clear hg
          by_cases t1 : (d.toNat : Int) < 97
          · go_wp2_with fail
            go_ret
            exact ⟨rfl, b1⟩
          · by_cases t2 : (122 : Int) < (d.toNat : Int)
            · go_wp2_with fail
              go_ret
              exact ⟨rfl, b1⟩
            · have HN := Lib.hid (letters_take HL.out HG.out (by omega))
              go_wp2_with fail
              go_round
              case rel => exact ⟨i + 1, by omega, by go_num, HN.out⟩
              case measure => simp [intOf]; omega
        · obtain rfl : i = text.size := by omega
          have hln : Letters text.data.toList := by have := HL.out; rwa [take_all] at this
          have HLN := Lib.hid hln
          clear hln HL
          by_cases u1 : c.toNat = 96
          · have v1 : ((c.toNat : Int) == 96) = true := by simp; omega
            go_wp2_with fail
            go_ret
            exact ⟨rfl, b1⟩
          · have v1 : ((c.toNat : Int) == 96) = false := by simp; omega
            by_cases u2 : c.toNat = 0
            · have v2 : ((c.toNat : Int) == 0) = true := by simp; omega
              go_wp2_with fail
              go_ret
              exact ⟨rfl, b1⟩
            · have v2 : ((c.toNat : Int) == 0) = false := by simp; omega
              by_cases u3 : c.toNat = 10
              · have v3 : ((c.toNat : Int) == 10) = true := by simp; omega
                go_wp2_with fail
                go_ret
                exact ⟨rfl, b1⟩
              · have v3 : ((c.toNat : Int) == 10) = false := by simp; omega
                by_cases u4 : c.toNat = 32
                · have v4 : ((c.toNat : Int) == 32) = true := by simp; omega
                  go_wp2_with fail
                  go_ret
                  exact ⟨rfl, b1⟩
                · have v4 : ((c.toNat : Int) == 32) = false := by simp; omega
                  by_cases u5 : (128 : Int) ≤ (c.toNat : Int)
                  · go_wp2_with fail
                    go_ret
                    exact ⟨rfl, b1⟩
                  · have ne : ∀ k : UInt8, c.toNat ≠ k.toNat → c ≠ k := fun k hk e => hk (by rw [e])
                    have hpl := codes_plain c text.data.toList HLN.out (ne 96 u1) (ne 0 u2) (ne 10 u3) (ne 32 u4)
                    have htz : text.data.toList.length ≤ 30 := by rw [← Lib.size_eq]; omega
                    obtain ⟨X, hX⟩ : ∃ X : ByteArray, X = ⟨(c :: (text.data.toList ++ [c])).toArray⟩ := ⟨_, rfl⟩
                    obtain ⟨Z, hZ⟩ : ∃ X : ByteArray, X = ⟨(97 :: (text.data.toList ++ [98])).toArray⟩ := ⟨_, rfl⟩
                    obtain ⟨B1, hB1⟩ : ∃ B1 : ByteArray, ⟨#[c]⟩ = B1 := ⟨_, rfl⟩
                    have cvq := one_byte w1 c w1.heap.size rfl
                    rw [hB1] at cvq
                    have hB1l : B1.data.toList = [c] := by rw [← hB1]
                    have q1 : B1 ++ text ++ B1 = X := by rw [hX]; exact ba_eq (by simp [hB1l])
                    have q2 : (⟨#[97]⟩ : ByteArray) ++ text ++ ⟨#[98]⟩ = Z := by rw [hZ]; exact ba_eq (by simp)
                    have k1 : ∀ (Y : ByteArray) W', Y.data.toList = 96 :: (c :: (text.data.toList ++ [c]) ++ [96]) → Env W' → Calls Tryz.prog 11 #[.string Y] W' fun e w' => ∃ g cap, e = .returned (.slice (some ⟨g, 0, none⟩) 1 cap) ∧ g < w'.heap.size ∧
                        (w'.cell? ⟨g, 0, none⟩ = some (.int .i64 2) ∧ w'.cell? ⟨g, 1, none⟩ = some (.int .i64 0) ∧ w'.cell? ⟨g, 2, none⟩ = some (.string X) ∧ w'.cell? ⟨g, 3, none⟩ = some (.string ⟨#[]⟩) ∧ w'.cell? ⟨g, 4, none⟩ = some (.string ⟨#[]⟩)) ∧ Below W'.heap.size W' w' := fun Y W' hY hW' => by
                      refine (raw_any Y W' hW' (by rw [Lib.size_eq, hY]; simp; omega)).mono ?_
                      rintro e w' ⟨v, rfl, hI, hb⟩
                      rw [hY, hpl] at hI
                      obtain ⟨g, cap, rfl, hg, hc⟩ := inls_at hI (by simp)
                      subst hX
                      exact ⟨g, cap, rfl, hg, hc 0 _ rfl, hb⟩
                    have k2 : ∀ av W', AtomsAt W' av [⟨[108], text.data.toList⟩] → Env W' → Calls Tryz.prog 13 #[.string ⟨#[96, 97, 0, 48, 0, 98, 96]⟩, av, .pointer none] W' fun e w' => ∃ g cap, e = .returned (.slice (some ⟨g, 0, none⟩) 1 cap) ∧
                        (w'.cell? ⟨g, 0, none⟩ = some (.int .i64 2) ∧ w'.cell? ⟨g, 1, none⟩ = some (.int .i64 0) ∧ w'.cell? ⟨g, 2, none⟩ = some (.string Z) ∧ w'.cell? ⟨g, 3, none⟩ = some (.string ⟨#[]⟩) ∧ w'.cell? ⟨g, 4, none⟩ = some (.string ⟨#[]⟩)) ∧ Below W'.heap.size W' w' := fun av W' hA hW' => by
                      refine (parseA_any (S := 7) (T := 30) ⟨#[96, 97, 0, 48, 0, 98, 96]⟩ av (.pointer none) none _ W' hW' rfl hA (fun ds h => by cases h) (by decide) (fun a ha => by rw [List.mem_singleton.1 ha]; exact ⟨htz, (by show (1 : Nat) ≤ 30; omega)⟩) (by omega) (by omega) (by decide) (by decide)).mono ?_
                      rintro e w' ⟨v, rfl, hI, hb⟩
                      unfold parseL at hI
                      rw [show (ByteArray.mk #[96, 97, 0, 48, 0, 98, 96]).data.toList = [96, 97, 0, 48, 0, 98, 96] from rfl, codes_atom] at hI
                      obtain ⟨g, cap, rfl, hg, hc⟩ := inls_at hI (by simp)
                      subst hZ
                      exact ⟨g, cap, rfl, hc 0 _ rfl, hb⟩
                    have K1 := Lib.hid k1
                    have K2 := Lib.hid k2
                    have Q := Lib.hid (And.intro q1 q2)
                    have hB1z : B1.size = 1 := by rw [Lib.size_eq, hB1l]; rfl
                    have HBL := Lib.hid hB1l
                    have hba := b1.alloc b1.size (.cells #[.int .u8 (c.toNat : Int)] 5)
                    clear k1 k2 q1 q2 hX hZ hpl hB1 hB1l htz ne u1 u2 u3 u4
                    go_wp2_with fail
                    refine (K1.out _ _ (by simp only [app_list, HBL.out]; simp) (HE.out.below hba)).mono ?_
                    rintro e w5 ⟨g, cap, rfl, hg, ⟨a0, a1, a2, a3, a4⟩, b5⟩
                    have B5 := below_step hba b5
                    clear cvq b5 hba
                    have hb6 := (Below.refl w5.heap.size w5).alloc (Nat.le_refl _) (.cells #[.string ⟨#[108]⟩, .string text] 34)
                    have hA6 : AtomsAt (w5.alloc (.cells #[.string ⟨#[108]⟩, .string text] 34)) (.slice (some ⟨w5.heap.size, 0, none⟩) 1 1) [⟨[108], text.data.toList⟩] := AtomsAt.one w5 ⟨[108], text.data.toList⟩ w5.heap.size rfl
                    have HA6 := Lib.hid hA6
                    have B6 := below_step B5 hb6
                    have HB6 := Lib.hid (And.intro hb6 B6)
                    clear hA6 hb6 B6
                    go_wp2_with fail
                    refine (K2.out _ _ HA6.out (HE.out.below HB6.out.2)).mono ?_
                    rintro e w7 ⟨g7, cap7, rfl, ⟨e0, e1, e2, e3, e4⟩, b7⟩
                    have b57 := below_step HB6.out.1 b7
                    have B7 := below_step B5 b57
                    have d0 := (b57.cell (p := ⟨g, 0, none⟩) hg).trans a0
                    have d1 := (b57.cell (p := ⟨g, 1, none⟩) hg).trans a1
                    have d2 := (b57.cell (p := ⟨g, 2, none⟩) hg).trans a2
                    have d3 := (b57.cell (p := ⟨g, 3, none⟩) hg).trans a3
                    have d4 := (b57.cell (p := ⟨g, 4, none⟩) hg).trans a4
                    obtain ⟨q1, q2⟩ := Q.out
                    clear a0 a1 a2 a3 a4 b57 b7 HA6 HB6 K1 K2
                    go_wp2_with fail
                    go_ret
                    exact ⟨rfl, B7⟩
  · have he := empty_yes (s := text) (by omega)
    go_enter Tryz.func6, Tryz.ntmps6
    go_wp2_with fail
    refine (alive15 _ hE).mono ?_
    rintro e w1 ⟨rfl, b1⟩
    go_wp2_with fail
    go_ret
    exact ⟨rfl, b1⟩

end Go.Proofs.YtahljcbmckldhaaGreatDoor
