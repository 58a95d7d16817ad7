/-
  TokenEntities: an entity is a word of its text; what only looks like one is itself: the walk of the law.
-/
import Derived.Test.YtmllkffdejojbaaDoorAlive12
import Derived.Test.YtmllkffdejojbaaDoorTokLaw2
import Derived.Test.YtmllkffdejojbaaDoorNamed
namespace Go.Proofs.YtmllkffdejojbaaDoor
open Go.RowKit
set_option maxRecDepth 100000
set_option linter.unusedVariables false
set_option linter.unusedSimpArgs false

theorem next0 (s : ByteArray) (w : World) (hE : Env w) (h0 : 0 < s.size) (hs : s.size ≤ 1000000) :
    Calls Tryd.prog 37 #[.string s, .int .i64 0] w fun e w' => e = .returned (.tuple #[(nextL s.data.toList).1.val, .int .i64 (nextL s.data.toList).2]) ∧ Below w.heap.size w w' := by
  have := next_tok s 0 w hE h0 hs
  rw [List.drop_zero, Nat.zero_add] at this
  exact this

theorem tok_word (X : ByteArray) (W : World) : Calls Tryd.prog 35 #[.iface 88 (.string X)] W fun e w' => e = .returned (.agg #[.int .u8 119, .string X, .string ⟨#[]⟩, .int .i64 0]) ∧ Below W.heap.size W w' := by
  have := tok_tok (.word X.data.toList) W
  simp only [Tok.val, Tok.plain, TokP.val, Lib.mk_data] at this
  exact this

set_option maxHeartbeats 4000000 in
theorem law_ents (n m : ByteArray) (w : World) (hE : Env w) :
    Calls Tryd.prog 20 #[.string n, .string m] w fun e w' => e = .returned (.bool true) ∧ Below w.heap.size w w' := by
  by_cases hr : n.size ≤ 10 ∧ m.size ≤ 20
  · obtain ⟨h1, h2⟩ := hr
    have h1' : ¬ (10 : Int) < (n.size : Int) := by omega
    have h2' : ¬ (20 : Int) < (m.size : Int) := by omega
    have HE := Lib.hid hE
    clear hE
    go_enter Tryd.func20, Tryd.ntmps20
    go_wp2_with fail
    refine (alive12 _ HE.out).mono ?_
    rintro e w1 ⟨rfl, b1⟩
    go_wp2_with fail
    obtain ⟨W2, hW2⟩ : ∃ W2, W2 = w1.alloc (.cells #[.string n, .string m] 9) := ⟨_, rfl⟩
    rw [← hW2]
    have c0 : W2.cell? ⟨w1.heap.size, 0, none⟩ = some (.string n) := by rw [hW2]; simp
    have c1 : W2.cell? ⟨w1.heap.size, 1, none⟩ = some (.string m) := by rw [hW2]; simp
    have hB2 : Below w.heap.size w W2 := by rw [hW2]; exact b1.alloc b1.size _
    clear hW2
    go_loop [29] (fun uo => ∃ j : Nat, j ≤ 2 ∧ uo = .int .i64 j ∧ (0 < j → Letters (n).data.toList) ∧ (1 < j → Letters (m).data.toList)) (fun uo => 2 - (intOf uo).toNat)
    case atStart => exact ⟨0, by omega, rfl, fun h => absurd h (by omega), fun h => absurd h (by omega)⟩
    case round =>
      obtain ⟨j, hj, rfl, hla, hlb⟩ := hrel
      have HLA := Lib.hid hla
      have HLB := Lib.hid hlb
      clear hla hlb
      by_cases hjt : j < 2
      · obtain ⟨x, hx, hxz, hxl⟩ : ∃ x : ByteArray, W2.cell? ⟨w1.heap.size, j, none⟩ = some (.string x) ∧ x.size ≤ 20 ∧ (Letters x.data.toList → (0 < j + 1 → Letters (n).data.toList) ∧ (1 < j + 1 → Letters (m).data.toList)) := by
          have : j = 0 ∨ j = 1 := by omega
          rcases this with rfl | rfl
          · exact ⟨n, c0, by omega, fun h => ⟨fun _ => h, fun h => absurd h (by omega)⟩⟩
          · exact ⟨m, c1, by omega, fun h => ⟨fun _ => HLA.out (by omega), fun _ => h⟩⟩
        have HXL := Lib.hid hxl
        clear hxl
        go_wp2_with fail
        go_loop [7] (fun ui => ∃ i : Nat, i ≤ (x).size ∧ ui = .int .i64 i ∧ Letters ((x).data.toList.take i)) (fun ui => (x).size - (intOf ui).toNat)
        case atStart => exact ⟨0, Nat.zero_le _, rfl, fun b hb => by simp at hb⟩
        case round =>
          obtain ⟨i, hi, rfl, hl⟩ := hrel
          have HL := Lib.hid hl
          clear hl
          by_cases hlt : i < (x).size
          · have hg := Lib.data_getElem? x i hlt
            obtain ⟨d, hd⟩ : ∃ d, (x)[i] = d := ⟨_, rfl⟩
            rw [hd] at hg
            have HG := Lib.hid hg
            clear hg
            by_cases t1 : (d.toNat : Int) < 97
            · go_wp2_with fail
              go_ret
              exact ⟨rfl, hB2⟩
            · by_cases t2 : (122 : Int) < (d.toNat : Int)
              · go_wp2_with fail
                go_ret
                exact ⟨rfl, hB2⟩
              · have HN := Lib.hid (letters_take HL.out HG.out (by omega))
                go_wp2_with fail
                go_round
                case rel => exact ⟨i + 1, by omega, by go_num, HN.out⟩
                case measure => simp [intOf]; omega
          · obtain rfl : i = x.size := by omega
            have HN := Lib.hid (HXL.out (by have := HL.out; rwa [take_all] at this))
            go_wp2_with fail
            go_round
            case rel => exact ⟨j + 1, by omega, by go_num, HN.out.1, HN.out.2⟩
            case measure => simp [intOf]; omega
      · obtain rfl : j = 2 := by omega
        have hla := HLA.out (by omega)
        have hlb := HLB.out (by omega)
        clear c0 c1
        have hnz : n.data.toList.length = n.size := (Lib.size_eq n).symm
        have hmz : m.data.toList.length = m.size := (Lib.size_eq m).symm
        obtain ⟨T, hT, _⟩ := ba_ex (named n.data.toList).1
        obtain ⟨ok, hok⟩ : ∃ b, (named n.data.toList).2 = b := ⟨_, rfl⟩
        have cn := fun W hW => named_any n W hW
        rw [← hT, hok] at cn
        simp only [Lib.mk_data] at cn
        have CN := Lib.hid cn
        clear cn
        cases ok
        · have c1 : ∀ (Y : ByteArray) W, Y.data.toList = 38 :: (n.data.toList ++ 59 :: m.data.toList) → Env W → Calls Tryd.prog 37 #[.string Y, .int .i64 0] W fun e w' => e = .returned (.tuple #[.iface 88 (.string Y), .int .i64 ((n.size + m.size + 2 : Nat) : Int)]) ∧ Below W.heap.size W w' := fun Y W hY hW => by
            have hYz : Y.size = n.size + m.size + 2 := by rw [Lib.size_eq, hY]; simp; omega
            have := next0 Y W hW (by omega) (by omega)
            rw [hY, next_noentity _ _ hla hlb hok, ← hY, hnz, hmz] at this
            simp only [Tok.val, Lib.mk_data] at this
            exact this
          have C1 := Lib.hid c1
          clear c1 hla hlb hT hok hnz hmz
          go_wp2_with fail
          refine (CN.out _ (HE.out.below hB2)).mono ?_
          rintro e w3 ⟨rfl, b3⟩
          have B3 := below_step hB2 b3
          go_wp2_with fail
          refine (C1.out _ _ (by simp only [app_list]; simp) (HE.out.below B3)).mono ?_
          rintro e w4 ⟨rfl, b4⟩
          have B4 := below_step B3 b4
          go_wp2_with fail
          refine (tok_word _ _).mono ?_
          rintro e w5 ⟨rfl, b5⟩
          have B5 := below_step B4 b5
          go_wp2_with fail
          go_ret
          exact ⟨ret_bool (by first | rfl | (simp; done) | (simp; omega)), B5⟩
        · have c1 : ∀ (Y : ByteArray) W, Y.data.toList = 38 :: (n.data.toList ++ 59 :: m.data.toList) → Env W → Calls Tryd.prog 37 #[.string Y, .int .i64 0] W fun e w' => e = .returned (.tuple #[.iface 88 (.string T), .int .i64 ((n.size + 2 : Nat) : Int)]) ∧ Below W.heap.size W w' := fun Y W hY hW => by
            have hYz : Y.size = n.size + m.size + 2 := by rw [Lib.size_eq, hY]; simp; omega
            have := next0 Y W hW (by omega) (by omega)
            rw [hY, next_entity _ _ hla hok, ← hT, hnz] at this
            simp only [Tok.val, Lib.mk_data] at this
            exact this
          have C1 := Lib.hid c1
          clear c1 hla hlb hT hok hnz hmz
          go_wp2_with fail
          refine (CN.out _ (HE.out.below hB2)).mono ?_
          rintro e w3 ⟨rfl, b3⟩
          have B3 := below_step hB2 b3
          go_wp2_with fail
          refine (C1.out _ _ (by simp only [app_list]; simp) (HE.out.below B3)).mono ?_
          rintro e w4 ⟨rfl, b4⟩
          have B4 := below_step B3 b4
          go_wp2_with fail
          refine (tok_word _ _).mono ?_
          rintro e w5 ⟨rfl, b5⟩
          have B5 := below_step B4 b5
          go_wp2_with fail
          go_ret
          exact ⟨ret_bool (by first | rfl | (simp; done) | (simp; omega)), B5⟩
  · have hcs : (10 : Int) < (n.size : Int) ∨ (¬ (10 : Int) < (n.size : Int) ∧ (20 : Int) < (m.size : Int)) := by omega
    clear hr
    rcases hcs with t1 | ⟨t1, t2⟩
    · go_enter Tryd.func20, Tryd.ntmps20
      go_wp2_with fail
      refine (alive12 _ hE).mono ?_
      rintro e w1 ⟨rfl, b1⟩
      go_wp2_with fail
      go_ret
      exact ⟨rfl, b1⟩
    · go_enter Tryd.func20, Tryd.ntmps20
      go_wp2_with fail
      refine (alive12 _ hE).mono ?_
      rintro e w1 ⟨rfl, b1⟩
      go_wp2_with fail
      go_ret
      exact ⟨rfl, b1⟩

end Go.Proofs.YtmllkffdejojbaaDoor
