/-
  DefineBack: a definition that is written is read as it was: the walk of the law.
-/
import Derived.Test.YtmllkffdejojbaaDoorAlive11
import Derived.Test.YtmllkffdejojbaaDoorLawPlain
import Derived.Deep.QuietTactic
import Derived.BigQuiet
import Derived.Lib.SmallJoins
namespace Go.Proofs.YtmllkffdejojbaaDoor
open Go.RowKit
set_option maxRecDepth 100000
set_option linter.unusedVariables false
set_option linter.unusedSimpArgs false

set_option maxHeartbeats 4000000 in
theorem law_back (n u t : ByteArray) (note : Bool) (w : World) (hE : Env w) :
    Calls Tryd.prog 11 #[.string n, .string u, .string t, .bool note] w fun e w' => e = .returned (.bool true) ∧ Below w.heap.size w w' := by
  by_cases hr : (n.size ≤ 30 ∧ u.size ≤ 40 ∧ t.size ≤ 40) ∧ 0 < n.size ∧ 0 < u.size
  · obtain ⟨⟨h1, h2, h3⟩, h4, h5⟩ := hr
    have h1' : ¬ (30 : Int) < (n.size : Int) := by omega
    have h2' : ¬ (40 : Int) < (u.size : Int) := by omega
    have h3' : ¬ (40 : Int) < (t.size : Int) := by omega
    have h4' := empty_no h4
    have h5' := empty_no h5
    have HE := Lib.hid hE
    clear hE
    go_enter Tryd.func11, Tryd.ntmps11
    go_wp2_with fail
    refine (alive11 _ HE.out).mono ?_
    rintro e w1 ⟨rfl, b1⟩
    go_wp2_with fail
    obtain ⟨W2, hW2⟩ : ∃ W2, W2 = w1.alloc (.cells #[.string n, .string u, .string t] 9) := ⟨_, rfl⟩
    rw [← hW2]
    have c0 : W2.cell? ⟨w1.heap.size, 0, none⟩ = some (.string n) := by rw [hW2]; simp
    have c1 : W2.cell? ⟨w1.heap.size, 1, none⟩ = some (.string u) := by rw [hW2]; simp
    have c2 : W2.cell? ⟨w1.heap.size, 2, none⟩ = some (.string t) := by rw [hW2]; simp
    have hB2 : Below w.heap.size w W2 := by rw [hW2]; exact b1.alloc b1.size _
    clear hW2
    go_loop [50] (fun u50 => ∃ j : Nat, j ≤ 3 ∧ u50 = .int .i64 j ∧ (0 < j → Letters n.data.toList) ∧ (1 < j → Letters u.data.toList) ∧ (2 < j → Letters t.data.toList)) (fun u50 => 3 - (intOf u50).toNat)
    case atStart => exact ⟨0, by omega, rfl, fun h => absurd h (by omega), fun h => absurd h (by omega), fun h => absurd h (by omega)⟩
    case round =>
      obtain ⟨j, hj, rfl, hla⟩ := hrel
      have HLA := Lib.hid hla
      clear hla
      by_cases hjt : j < 3
      · obtain ⟨x, hx, hxz, hxl⟩ : ∃ x : ByteArray, W2.cell? ⟨w1.heap.size, j, none⟩ = some (.string x) ∧ x.size ≤ 40 ∧ (Letters x.data.toList → (0 < j + 1 → Letters n.data.toList) ∧ (1 < j + 1 → Letters u.data.toList) ∧ (2 < j + 1 → Letters t.data.toList)) := by
          have : j = 0 ∨ j = 1 ∨ j = 2 := by omega
          rcases this with rfl | rfl | rfl
          · exact ⟨n, c0, by omega, fun h => ⟨fun _ => h, fun h => absurd h (by omega), fun h => absurd h (by omega)⟩⟩
          · exact ⟨u, c1, by omega, fun h => ⟨fun _ => HLA.out.1 (by omega), fun _ => h, fun h => absurd h (by omega)⟩⟩
          · exact ⟨t, c2, by omega, fun h => ⟨fun _ => HLA.out.1 (by omega), fun _ => HLA.out.2.1 (by omega), fun _ => h⟩⟩
        have HXL := Lib.hid hxl
        clear hxl
        go_wp2_with fail
        go_loop [11] (fun u11 => ∃ i : Nat, i ≤ x.size ∧ u11 = .int .i64 i ∧ Letters (x.data.toList.take i)) (fun u11 => x.size - (intOf u11).toNat)
        case atStart => exact ⟨0, Nat.zero_le _, rfl, fun b hb => by simp at hb⟩
        case round =>
          obtain ⟨i, hi, rfl, hl⟩ := hrel
          have HL := Lib.hid hl
          clear hl
          by_cases hlt : i < x.size
          · have hg := Lib.data_getElem? x i hlt
            obtain ⟨d, hd⟩ : ∃ d, x[i] = d := ⟨_, rfl⟩
            rw [hd] at hg
            have HG := Lib.hid hg
            clear hg
            by_cases t1 : (d.toNat : Int) < 97
            · go_wp2_with fail
              go_ret
              exact ⟨rfl, hB2⟩
            · by_cases t2 : (122 : Int) < (d.toNat : Int)
              · go_wp2_with fail
                go_ret
                exact ⟨rfl, hB2⟩
              · have HN := Lib.hid (letters_take HL.out HG.out (by omega))
                go_wp2_with fail
                go_round
                case rel => exact ⟨i + 1, by omega, by go_num, HN.out⟩
                case measure => simp [intOf]; omega
          · obtain rfl : i = x.size := by omega
            have HN := Lib.hid (HXL.out (by have := HL.out; rwa [take_all] at this))
            go_wp2_with fail
            go_round
            case rel => exact ⟨j + 1, by omega, by go_num, HN.out⟩
            case measure => simp [intOf]; omega
      · obtain rfl : j = 3 := by omega
        have hln := HLA.out.1 (by omega)
        have hlu := HLA.out.2.1 (by omega)
        have hlt := HLA.out.2.2 (by omega)
        have hn0 : n.data.toList ≠ [] := by intro h; rw [Lib.size_eq, h] at h4; exact absurd h4 (by simp)
        have hu0 : u.data.toList ≠ [] := by intro h; rw [Lib.size_eq, h] at h5; exact absurd h5 (by simp)
        have hnz : n.data.toList.length ≤ 30 := by rw [← Lib.size_eq]; exact h1
        have huz : u.data.toList.length ≤ 40 := by rw [← Lib.size_eq]; exact h2
        have htz : t.data.toList.length ≤ 40 := by rw [← Lib.size_eq]; exact h3
        clear c0 c1 c2
        cases note
        · -- a link
          have hsz : (backLine n.data.toList u.data.toList t.data.toList).length ≤ 130 := by
            unfold backLine
            split <;> simp <;> omega
          have k1 : ∀ (Y : ByteArray) W', Y.data.toList = backLine n.data.toList u.data.toList t.data.toList → Env W' → Calls Tryd.prog 31 #[.string Y] W' fun x w' => x = .returned (.tuple #[.agg #[.string n, .string u, .string t, .string ⟨#[]⟩, .bool false], .bool true]) ∧ Below W'.heap.size W' w' := fun Y W' hY hW' => by
            have := line_any Y W' hW' (by rw [Lib.size_eq, hY]; omega)
            rw [hY, back_link _ _ _ hln hlu hlt hn0 hnz] at this
            simp only [DefL.val, defV, Lib.mk_data] at this
            exact this
          have k2 : ∀ (Y : ByteArray) W', Y.data.toList = backLine n.data.toList u.data.toList t.data.toList ++ [10, 109, 111, 114, 101] → Env W' → Calls Tryd.prog 32 #[.string Y] W' fun x w' => ∃ g cap, x = .returned (.tuple #[.slice (some ⟨g, 0, none⟩) 1 cap, .string ⟨#[109, 111, 114, 101]⟩]) ∧
              (w'.cell? ⟨g, 0, none⟩ = some (.string n) ∧ w'.cell? ⟨g, 1, none⟩ = some (.string u) ∧ w'.cell? ⟨g, 2, none⟩ = some (.string t) ∧ w'.cell? ⟨g, 3, none⟩ = some (.string ⟨#[]⟩) ∧ w'.cell? ⟨g, 4, none⟩ = some (.bool false)) ∧ Below W'.heap.size W' w' := fun Y W' hY hW' => by
            have hYz : Y.size = (backLine n.data.toList u.data.toList t.data.toList).length + 5 := by rw [Lib.size_eq, hY]; simp
            refine (take_any Y W' hW' (by omega)).mono ?_
            rintro x w' ⟨v, rfl, hown, hb⟩
            have e := back_take (Y.size - 1) _ _ _ hln hlu hlt hn0 hnz
            rw [show Y.size - 1 + 2 = Y.size + 1 by omega, ← hY] at e
            rw [e] at hown ⊢
            simp only at hown ⊢
            obtain ⟨g, cap, rfl⟩ := Joins.ownsRow_form hown (by simp)
            refine ⟨g, cap, rfl, ⟨?_, ?_, ?_, ?_, ?_⟩, hb⟩
            · rw [hown.cellAt 0 (by simp)]; simp [defCells, DefL.cells]
            · rw [hown.cellAt 1 (by simp)]; simp [defCells, DefL.cells]
            · rw [hown.cellAt 2 (by simp)]; simp [defCells, DefL.cells]
            · rw [hown.cellAt 3 (by simp)]; simp [defCells, DefL.cells]
            · rw [hown.cellAt 4 (by simp)]; simp [defCells, DefL.cells]
          have K1 := Lib.hid k1
          have K2 := Lib.hid k2
          by_cases ht0 : t.size = 0
          · have he := empty_yes ht0
            have he2 : (!t.toList.isEmpty) = false := by rw [he]; rfl
            have htn : t.data.toList = [] := List.eq_nil_of_length_eq_zero (by rw [← Lib.size_eq]; exact ht0)
            have HTN := Lib.hid htn
            clear k1 k2 hln hlu hlt hn0 hu0
            go_wp2_with fail
            refine (K1.out _ _ (by simp only [app_list]; simp [backLine, HTN.out]) (HE.out.below hB2)).mono ?_
            rintro x w3 ⟨rfl, b3⟩
            have B3 := below_step hB2 b3
            clear b3
            go_wp2_with fail
            have hd1 := defAt_new w3 (.string n) (.string u) (.string t) (.string ⟨#[]⟩) (.bool false)
            have hb1 := B3.alloc B3.size (.cells #[.string n, .string u, .string t, .string ⟨#[]⟩, .bool false] 40)
            have hs1 : w3.heap.size < (w3.alloc (.cells #[.string n, .string u, .string t, .string ⟨#[]⟩, .bool false] 40)).heap.size := by simp
            refine (K2.out _ _ (by simp only [app_list]; simp [backLine, HTN.out]) (HE.out.below hb1)).mono ?_
            rintro x w4 ⟨g, cap, rfl, ⟨q0, q1, q2, q3, q4⟩, b4⟩
            have hd2 := hd1.below b4 hs1
            have B4 := below_step hb1 b4
            clear hd1 hb1 hs1 b4
            obtain ⟨d0, d1, d2, d3, d4, g0, g1, g2, g3, g4⟩ := hd2
            go_wp2_with fail
            go_quiet (fail)
            go_wp2_with fail
            go_ret
            exact ⟨rfl, B4.trans ((below_drewN _ _).mono B4.size)⟩
          · have he := empty_no (s := t) (by omega)
            have he2 : (!t.toList.isEmpty) = true := by rw [he]; rfl
            have htn : t.data.toList ≠ [] := by intro h; rw [Lib.size_eq, h] at ht0; exact ht0 rfl
            have HTN := Lib.hid (show (t.data.toList = []) = False by simpa using htn)
            clear k1 k2 hln hlu hlt hn0 hu0
            go_wp2_with fail
            refine (K1.out _ _ (by simp only [app_list]; simp [backLine, HTN.out]) (HE.out.below hB2)).mono ?_
            rintro x w3 ⟨rfl, b3⟩
            have B3 := below_step hB2 b3
            clear b3
            go_wp2_with fail
            have hd1 := defAt_new w3 (.string n) (.string u) (.string t) (.string ⟨#[]⟩) (.bool false)
            have hb1 := B3.alloc B3.size (.cells #[.string n, .string u, .string t, .string ⟨#[]⟩, .bool false] 40)
            have hs1 : w3.heap.size < (w3.alloc (.cells #[.string n, .string u, .string t, .string ⟨#[]⟩, .bool false] 40)).heap.size := by simp
            refine (K2.out _ _ (by simp only [app_list]; simp [backLine, HTN.out]) (HE.out.below hb1)).mono ?_
            rintro x w4 ⟨g, cap, rfl, ⟨q0, q1, q2, q3, q4⟩, b4⟩
            have hd2 := hd1.below b4 hs1
            have B4 := below_step hb1 b4
            clear hd1 hb1 hs1 b4
            obtain ⟨d0, d1, d2, d3, d4, g0, g1, g2, g3, g4⟩ := hd2
            go_wp2_with fail
            go_quiet (fail)
            go_wp2_with fail
            go_ret
            exact ⟨rfl, B4.trans ((below_drewN _ _).mono B4.size)⟩
        · -- a note
          have k1 : ∀ (Y : ByteArray) W', Y.data.toList = 91 :: 94 :: (n.data.toList ++ 93 :: 58 :: 32 :: u.data.toList) → Env W' → Calls Tryd.prog 31 #[.string Y] W' fun x w' => x = .returned (.tuple #[.agg #[.string n, .string ⟨#[]⟩, .string ⟨#[]⟩, .string u, .bool true], .bool true]) ∧ Below W'.heap.size W' w' := fun Y W' hY hW' => by
            have := line_any Y W' hW' (by rw [Lib.size_eq, hY]; simp; omega)
            rw [hY, back_note _ _ hln hlu hn0 hu0 hnz] at this
            simp only [DefL.val, defV, Lib.mk_data] at this
            exact this
          have K1 := Lib.hid k1
          clear k1 hln hlu hlt hn0 hu0
          go_wp2_with fail
          refine (K1.out _ _ (by simp only [app_list]; simp) (HE.out.below hB2)).mono ?_
          rintro x w3 ⟨rfl, b3⟩
          have B3 := below_step hB2 b3
          go_wp2_with fail
          go_ret
          exact ⟨rfl, B3.alloc B3.size _⟩
  · have hcs : (30 : Int) < (n.size : Int) ∨ (¬ (30 : Int) < (n.size : Int) ∧ (40 : Int) < (u.size : Int)) ∨ (¬ (30 : Int) < (n.size : Int) ∧ ¬ (40 : Int) < (u.size : Int) ∧ (40 : Int) < (t.size : Int)) ∨
        (¬ (30 : Int) < (n.size : Int) ∧ ¬ (40 : Int) < (u.size : Int) ∧ ¬ (40 : Int) < (t.size : Int) ∧ n.size = 0) ∨ (¬ (30 : Int) < (n.size : Int) ∧ ¬ (40 : Int) < (u.size : Int) ∧ ¬ (40 : Int) < (t.size : Int) ∧ 0 < n.size ∧ u.size = 0) := by omega
    clear hr
    rcases hcs with t1 | ⟨t1, t2⟩ | ⟨t1, t2, t3⟩ | ⟨t1, t2, t3, t4⟩ | ⟨t1, t2, t3, t4, t5⟩
    · go_enter Tryd.func11, Tryd.ntmps11
      go_wp2_with fail
      refine (alive11 _ hE).mono ?_
      rintro e w1 ⟨rfl, b1⟩
      go_wp2_with fail
      go_ret
      exact ⟨rfl, b1⟩
    · go_enter Tryd.func11, Tryd.ntmps11
      go_wp2_with fail
      refine (alive11 _ hE).mono ?_
      rintro e w1 ⟨rfl, b1⟩
      go_wp2_with fail
      go_ret
      exact ⟨rfl, b1⟩
    · go_enter Tryd.func11, Tryd.ntmps11
      go_wp2_with fail
      refine (alive11 _ hE).mono ?_
      rintro e w1 ⟨rfl, b1⟩
      go_wp2_with fail
      go_ret
      exact ⟨rfl, b1⟩
    · have he := empty_yes t4
      go_enter Tryd.func11, Tryd.ntmps11
      go_wp2_with fail
      refine (alive11 _ hE).mono ?_
      rintro e w1 ⟨rfl, b1⟩
      go_wp2_with fail
      go_ret
      exact ⟨rfl, b1⟩
    · have he1 := empty_no t4
      have he := empty_yes t5
      go_enter Tryd.func11, Tryd.ntmps11
      go_wp2_with fail
      refine (alive11 _ hE).mono ?_
      rintro e w1 ⟨rfl, b1⟩
      go_wp2_with fail
      go_ret
      exact ⟨rfl, b1⟩

end Go.Proofs.YtmllkffdejojbaaDoor
