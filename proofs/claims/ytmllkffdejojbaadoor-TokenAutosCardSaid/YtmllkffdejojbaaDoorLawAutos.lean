/-
  TokenAutos: an address, or a url, between its signs is a link of itself; with a blank in it it is none: the walk of the law.
-/
import Derived.Test.YtmllkffdejojbaaDoorLawEnts
namespace Go.Proofs.YtmllkffdejojbaaDoor
open Go.RowKit
set_option maxRecDepth 100000
set_option linter.unusedVariables false
set_option linter.unusedSimpArgs false

theorem tok_auto (X Y : ByteArray) (W : World) : Calls Tryd.prog 35 #[.iface 92 (.agg #[.string X, .string Y])] W fun e w' => e = .returned (.agg #[.int .u8 97, .string Y, .string X, .int .i64 0]) ∧ Below W.heap.size W w' := by
  have := tok_tok (.auto X.data.toList Y.data.toList) W
  simp only [Tok.val, Tok.plain, TokP.val, Lib.mk_data] at this
  exact this

set_option maxHeartbeats 8000000 in
theorem law_autos (a b : ByteArray) (mail : Bool) (w : World) (hE : Env w) :
    Calls Tryd.prog 18 #[.string a, .string b, .bool mail] w fun e w' => e = .returned (.bool true) ∧ Below w.heap.size w w' := by
  by_cases hr : (2 ≤ a.size ∧ a.size ≤ 20) ∧ 0 < b.size ∧ b.size ≤ 20
  · obtain ⟨⟨h1, h2⟩, h3, h4⟩ := hr
    have h1' : ¬ (a.size : Int) < 2 := by omega
    have h2' : ¬ (20 : Int) < (a.size : Int) := by omega
    have h3' := empty_no h3
    have h4' : ¬ (20 : Int) < (b.size : Int) := by omega
    have HE := Lib.hid hE
    clear hE
    go_enter Tryd.func18, Tryd.ntmps18
    go_wp2_with fail
    refine (alive12 _ HE.out).mono ?_
    rintro e w1 ⟨rfl, b1⟩
    go_wp2_with fail
    obtain ⟨W2, hW2⟩ : ∃ W2, W2 = w1.alloc (.cells #[.string a, .string b] 9) := ⟨_, rfl⟩
    rw [← hW2]
    have c0 : W2.cell? ⟨w1.heap.size, 0, none⟩ = some (.string a) := by rw [hW2]; simp
    have c1 : W2.cell? ⟨w1.heap.size, 1, none⟩ = some (.string b) := by rw [hW2]; simp
    have hB2 : Below w.heap.size w W2 := by rw [hW2]; exact b1.alloc b1.size _
    clear hW2
    go_loop [42] (fun uo => ∃ j : Nat, j ≤ 2 ∧ uo = .int .i64 j ∧ (0 < j → Letters (a).data.toList) ∧ (1 < j → Letters (b).data.toList)) (fun uo => 2 - (intOf uo).toNat)
    case atStart => exact ⟨0, by omega, rfl, fun h => absurd h (by omega), fun h => absurd h (by omega)⟩
    case round =>
      obtain ⟨j, hj, rfl, hla, hlb⟩ := hrel
      have HLA := Lib.hid hla
      have HLB := Lib.hid hlb
      clear hla hlb
      by_cases hjt : j < 2
      · obtain ⟨x, hx, hxz, hxl⟩ : ∃ x : ByteArray, W2.cell? ⟨w1.heap.size, j, none⟩ = some (.string x) ∧ x.size ≤ 20 ∧ (Letters x.data.toList → (0 < j + 1 → Letters (a).data.toList) ∧ (1 < j + 1 → Letters (b).data.toList)) := by
          have : j = 0 ∨ j = 1 := by omega
          rcases this with rfl | rfl
          · exact ⟨a, c0, by omega, fun h => ⟨fun _ => h, fun h => absurd h (by omega)⟩⟩
          · exact ⟨b, c1, by omega, fun h => ⟨fun _ => HLA.out (by omega), fun _ => h⟩⟩
        have HXL := Lib.hid hxl
        clear hxl
        go_wp2_with fail
        go_loop [9] (fun ui => ∃ i : Nat, i ≤ (x).size ∧ ui = .int .i64 i ∧ Letters ((x).data.toList.take i)) (fun ui => (x).size - (intOf ui).toNat)
        case atStart => exact ⟨0, Nat.zero_le _, rfl, fun b hb => by simp at hb⟩
        case round =>
          obtain ⟨i, hi, rfl, hl⟩ := hrel
          have HL := Lib.hid hl
          clear hl
          by_cases hlt : i < (x).size
          · have hg := Lib.data_getElem? x i hlt
            obtain ⟨d, hd⟩ : ∃ d, (x)[i] = d := ⟨_, rfl⟩
            rw [hd] at hg
            have HG := Lib.hid hg
            clear hg
            by_cases t1 : (d.toNat : Int) < 97
            · go_wp2_with fail
              go_ret
              exact ⟨rfl, hB2⟩
            · by_cases t2 : (122 : Int) < (d.toNat : Int)
              · go_wp2_with fail
                go_ret
                exact ⟨rfl, hB2⟩
              · have HN := Lib.hid (letters_take HL.out HG.out (by omega))
                go_wp2_with fail
                go_round
                case rel => exact ⟨i + 1, by omega, by go_num, HN.out⟩
                case measure => simp [intOf]; omega
          · obtain rfl : i = x.size := by omega
            have HN := Lib.hid (HXL.out (by have := HL.out; rwa [take_all] at this))
            go_wp2_with fail
            go_round
            case rel => exact ⟨j + 1, by omega, by go_num, HN.out.1, HN.out.2⟩
            case measure => simp [intOf]; omega
      · obtain rfl : j = 2 := by omega
        have hla := HLA.out (by omega)
        have hlb := HLB.out (by omega)
        clear c0 c1
        have hnz : a.data.toList.length = a.size := (Lib.size_eq a).symm
        have hmz : b.data.toList.length = b.size := (Lib.size_eq b).symm
        have haz : 2 ≤ a.data.toList.length := by omega
        have hal : a.data.toList.length ≤ 20 := by omega
        have hb0 : b.data.toList ≠ [] := by intro h; rw [h] at hmz; simp at hmz; omega
        cases mail
        · have c1 : ∀ (Y S U : ByteArray) W, S.data.toList = autoText false a.data.toList b.data.toList → U.data.toList = autoUrl false a.data.toList b.data.toList → Y.data.toList = 60 :: (autoText false a.data.toList b.data.toList ++ 62 :: [120]) → Env W → Calls Tryd.prog 37 #[.string Y, .int .i64 0] W fun e w' => e = .returned (.tuple #[.iface 92 (.agg #[.string U, .string S]), .int .i64 ((S.size + 2 : Nat) : Int)]) ∧ Below W.heap.size W w' := fun Y S U W hS hU hY hW => by
            have hSz : S.size = a.size + b.size + 1 := by rw [Lib.size_eq, hS]; unfold autoText; simp; omega
            have hYz : Y.size = S.size + 3 := by rw [Lib.size_eq, hY, List.length_cons, List.length_append, ← hS, ← Lib.size_eq]; simp
            have := next0 Y W hW (by omega) (by omega)
            rw [hY, next_auto false _ _ [120] hla hlb haz hal hb0, ← hS, ← hU, ← Lib.size_eq] at this
            simp only [Tok.val, Lib.mk_data] at this
            exact this
          have c2 : ∀ (Y : ByteArray) W, Y.data.toList = 60 :: (autoText false a.data.toList b.data.toList ++ [32, 120, 62]) → Env W → Calls Tryd.prog 37 #[.string Y, .int .i64 0] W fun e w' => ∃ (X : ByteArray) (k : Nat), e = .returned (.tuple #[.iface 88 (.string X), .int .i64 k]) ∧ Below W.heap.size W w' := fun Y W hY hW => by
            have hYz : Y.size = a.size + b.size + 5 := by rw [Lib.size_eq, hY]; unfold autoText; simp; omega
            obtain ⟨l, k, hlk⟩ := next_noauto false _ _ hla hlb haz hal hb0
            refine (next0 Y W hW (by omega) (by omega)).mono ?_
            rintro e w' ⟨rfl, hb⟩
            rw [hY, hlk]
            exact ⟨⟨l.toArray⟩, k, rfl, hb⟩
          have C1 := Lib.hid c1
          have C2 := Lib.hid c2
          have g0 := tok_field0
          clear c1 c2 hla hlb haz hal hb0 hnz hmz
          go_wp2_with fail
          refine (C1.out _ (a ++ ⟨#[58]⟩ ++ b) (a ++ ⟨#[58]⟩ ++ b) _ (by simp only [app_list]; simp [autoText]) (by simp only [app_list]; simp [autoUrl, autoText, mailto]) (by simp only [app_list]; simp [autoText]) (HE.out.below hB2)).mono ?_
          rintro e w3 ⟨rfl, b3⟩
          have B3 := below_step hB2 b3
          go_wp2_with fail
          refine (C2.out _ _ (by simp only [app_list]; simp [autoText]) (HE.out.below B3)).mono ?_
          rintro e w4 ⟨X, k, rfl, b4⟩
          have B4 := below_step B3 b4
          go_wp2_with fail
          refine (tok_auto _ _ _).mono ?_
          rintro e w5 ⟨rfl, b5⟩
          have B5 := below_step B4 b5
          go_wp2_with fail
          refine (tok_word _ _).mono ?_
          rintro e w6 ⟨rfl, b6⟩
          have B6 := below_step B5 b6
          go_wp2_with fail
          go_ret
          exact ⟨ret_bool (by first | rfl | (simp; done) | (simp; omega)), B6⟩
        · have c1 : ∀ (Y S U : ByteArray) W, S.data.toList = autoText true a.data.toList b.data.toList → U.data.toList = autoUrl true a.data.toList b.data.toList → Y.data.toList = 60 :: (autoText true a.data.toList b.data.toList ++ 62 :: [120]) → Env W → Calls Tryd.prog 37 #[.string Y, .int .i64 0] W fun e w' => e = .returned (.tuple #[.iface 92 (.agg #[.string U, .string S]), .int .i64 ((S.size + 2 : Nat) : Int)]) ∧ Below W.heap.size W w' := fun Y S U W hS hU hY hW => by
            have hSz : S.size = a.size + b.size + 1 := by rw [Lib.size_eq, hS]; unfold autoText; simp; omega
            have hYz : Y.size = S.size + 3 := by rw [Lib.size_eq, hY, List.length_cons, List.length_append, ← hS, ← Lib.size_eq]; simp
            have := next0 Y W hW (by omega) (by omega)
            rw [hY, next_auto true _ _ [120] hla hlb haz hal hb0, ← hS, ← hU, ← Lib.size_eq] at this
            simp only [Tok.val, Lib.mk_data] at this
            exact this
          have c2 : ∀ (Y : ByteArray) W, Y.data.toList = 60 :: (autoText true a.data.toList b.data.toList ++ [32, 120, 62]) → Env W → Calls Tryd.prog 37 #[.string Y, .int .i64 0] W fun e w' => ∃ (X : ByteArray) (k : Nat), e = .returned (.tuple #[.iface 88 (.string X), .int .i64 k]) ∧ Below W.heap.size W w' := fun Y W hY hW => by
            have hYz : Y.size = a.size + b.size + 5 := by rw [Lib.size_eq, hY]; unfold autoText; simp; omega
            obtain ⟨l, k, hlk⟩ := next_noauto true _ _ hla hlb haz hal hb0
            refine (next0 Y W hW (by omega) (by omega)).mono ?_
            rintro e w' ⟨rfl, hb⟩
            rw [hY, hlk]
            exact ⟨⟨l.toArray⟩, k, rfl, hb⟩
          have C1 := Lib.hid c1
          have C2 := Lib.hid c2
          have g0 := tok_field0
          clear c1 c2 hla hlb haz hal hb0 hnz hmz
          go_wp2_with fail
          refine (C1.out _ (a ++ ⟨#[64]⟩ ++ b) (⟨#[109, 97, 105, 108, 116, 111, 58]⟩ ++ (a ++ ⟨#[64]⟩ ++ b)) _ (by simp only [app_list]; simp [autoText]) (by simp only [app_list]; simp [autoUrl, autoText, mailto]) (by simp only [app_list]; simp [autoText]) (HE.out.below hB2)).mono ?_
          rintro e w3 ⟨rfl, b3⟩
          have B3 := below_step hB2 b3
          go_wp2_with fail
          refine (C2.out _ _ (by simp only [app_list]; simp [autoText]) (HE.out.below B3)).mono ?_
          rintro e w4 ⟨X, k, rfl, b4⟩
          have B4 := below_step B3 b4
          go_wp2_with fail
          refine (tok_auto _ _ _).mono ?_
          rintro e w5 ⟨rfl, b5⟩
          have B5 := below_step B4 b5
          go_wp2_with fail
          refine (tok_word _ _).mono ?_
          rintro e w6 ⟨rfl, b6⟩
          have B6 := below_step B5 b6
          go_wp2_with fail
          go_ret
          exact ⟨ret_bool (by first | rfl | (simp; done) | (simp; omega)), B6⟩
  · have hcs : (a.size : Int) < 2 ∨ (¬ (a.size : Int) < 2 ∧ (20 : Int) < (a.size : Int)) ∨ (¬ (a.size : Int) < 2 ∧ ¬ (20 : Int) < (a.size : Int) ∧ b.size = 0) ∨ (¬ (a.size : Int) < 2 ∧ ¬ (20 : Int) < (a.size : Int) ∧ 0 < b.size ∧ (20 : Int) < (b.size : Int)) := by omega
    clear hr
    rcases hcs with t1 | ⟨t1, t2⟩ | ⟨t1, t2, t3⟩ | ⟨t1, t2, t3, t4⟩
    · go_enter Tryd.func18, Tryd.ntmps18
      go_wp2_with fail
      refine (alive12 _ hE).mono ?_
      rintro e w1 ⟨rfl, b1⟩
      go_wp2_with fail
      go_ret
      exact ⟨rfl, b1⟩
    · go_enter Tryd.func18, Tryd.ntmps18
      go_wp2_with fail
      refine (alive12 _ hE).mono ?_
      rintro e w1 ⟨rfl, b1⟩
      go_wp2_with fail
      go_ret
      exact ⟨rfl, b1⟩
    · have he := empty_yes t3
      go_enter Tryd.func18, Tryd.ntmps18
      go_wp2_with fail
      refine (alive12 _ hE).mono ?_
      rintro e w1 ⟨rfl, b1⟩
      go_wp2_with fail
      go_ret
      exact ⟨rfl, b1⟩
    · have he := empty_no t3
      go_enter Tryd.func18, Tryd.ntmps18
      go_wp2_with fail
      refine (alive12 _ hE).mono ?_
      rintro e w1 ⟨rfl, b1⟩
      go_wp2_with fail
      go_ret
      exact ⟨rfl, b1⟩

end Go.Proofs.YtmllkffdejojbaaDoor
