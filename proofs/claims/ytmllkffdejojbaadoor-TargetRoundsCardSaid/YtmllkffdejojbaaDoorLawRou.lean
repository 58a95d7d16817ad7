/-
  TargetRounds: a url and a title between brackets are read, whatever blanks stand between: the walk of the law.
-/
import Derived.Test.YtmllkffdejojbaaDoorAlive10
import Derived.Test.YtmllkffdejojbaaDoorTgtLaw2
import Derived.Test.YtmllkffdejojbaaDoorLawPlain
import Derived.IntWalk
namespace Go.Proofs.YtmllkffdejojbaaDoor
open Go.RowKit
set_option maxRecDepth 100000
set_option linter.unusedVariables false
set_option linter.unusedSimpArgs false

theorem and_small (a : Int) (n : Nat) (hn : n < 4) : ∃ A : Nat, A ≤ n ∧ bits .and .i64 a (n : Int) = (A : Int) := by
  have h1 : (BitVec.ofInt 64 (n : Int)).toNat = n := by
    rw [BitVec.ofInt_natCast, BitVec.toNat_ofNat]; exact Nat.mod_eq_of_lt (by omega)
  have h2 : (BitVec.ofInt 64 a &&& BitVec.ofInt 64 (n : Int)).toNat ≤ n := by
    rw [BitVec.toNat_and, h1]; exact Nat.and_le_right
  refine ⟨(BitVec.ofInt 64 a &&& BitVec.ofInt 64 (n : Int)).toNat, h2, ?_⟩
  show IntKind.i64.wrap ((BitVec.ofInt 64 a &&& BitVec.ofInt 64 (n : Int)).toNat : Int) = _
  exact wrap_small _ (by omega) (by omega)

theorem gap_cell (W : World) (A : Nat) (hA : A < 4) : ∃ G : ByteArray, (W.alloc (.cells #[.string ⟨#[]⟩, .string ⟨#[32]⟩, .string ⟨#[10]⟩, .string ⟨#[32, 9, 32]⟩] 9)).cell? ⟨W.heap.size, A, none⟩ = some (.string G) ∧ White G.data.toList ∧ G.size ≤ 3 ∧ (0 < A → G.data.toList ≠ []) := by
  have : A = 0 ∨ A = 1 ∨ A = 2 ∨ A = 3 := by omega
  rcases this with rfl | rfl | rfl | rfl
  · exact ⟨⟨#[]⟩, by simp, by unfold White; decide, by decide, fun h => absurd h (by omega)⟩
  · exact ⟨⟨#[32]⟩, by simp, by unfold White; decide, by decide, fun _ => by decide⟩
  · exact ⟨⟨#[10]⟩, by simp, by unfold White; decide, by decide, fun _ => by decide⟩
  · exact ⟨⟨#[32, 9, 32]⟩, by simp, by unfold White; decide, by decide, fun _ => by decide⟩

set_option maxHeartbeats 4000000 in
theorem law_rounds (u t : ByteArray) (a b c : Int) (m : ByteArray) (ha : (Lit.int .i64 a).wf = true) (hb : (Lit.int .i64 b).wf = true) (hc : (Lit.int .i64 c).wf = true) (w : World) (hE : Env w) :
    Calls Tryd.prog 5 #[.string u, .string t, .int .i64 a, .int .i64 b, .int .i64 c, .string m] w fun e w' => e = .returned (.bool true) ∧ Below w.heap.size w w' := by
  by_cases hr : 0 < u.size ∧ u.size ≤ 40 ∧ t.size ≤ 40 ∧ m.size ≤ 30
  · obtain ⟨h0, h1, h2, h3⟩ := hr
    have h1' : ¬ (40 : Int) < (u.size : Int) := by omega
    have h2' : ¬ (40 : Int) < (t.size : Int) := by omega
    have h3' : ¬ (30 : Int) < (m.size : Int) := by omega
    have he := empty_no h0
    have HE := Lib.hid hE
    clear hE
    obtain ⟨A, hA, hAe⟩ := and_small a 3 (by omega)
    obtain ⟨B, hBb, hBe⟩ := and_small b 1 (by omega)
    obtain ⟨C, hC, hCe⟩ := and_small c 3 (by omega)
    rw [show ((3 : Nat) : Int) = 3 from rfl] at hAe hCe
    rw [show ((1 : Nat) : Int) = 1 from rfl] at hBe
    have HAE := Lib.hid hAe
    have HBE := Lib.hid hBe
    have HCE := Lib.hid hCe
    clear hAe hBe hCe
    go_enter Tryd.func5, Tryd.ntmps5
    go_wp2_with fail
    refine (alive10 _ HE.out).mono ?_
    rintro e w1 ⟨rfl, b1⟩
    go_wp2_with fail
    clear he
    obtain ⟨W2, hW2⟩ : ∃ W2, W2 = w1.alloc (.cells #[.string u, .string t] 9) := ⟨_, rfl⟩
    rw [← hW2]
    have c0 : W2.cell? ⟨w1.heap.size, 0, none⟩ = some (.string u) := by rw [hW2]; simp
    have c1 : W2.cell? ⟨w1.heap.size, 1, none⟩ = some (.string t) := by rw [hW2]; simp
    have hB2 : Below w.heap.size w W2 := by rw [hW2]; exact b1.alloc b1.size _
    clear hW2
    go_loop [48] (fun u48 => ∃ j : Nat, j ≤ 2 ∧ u48 = .int .i64 j ∧ (0 < j → Letters u.data.toList) ∧ (1 < j → Letters t.data.toList)) (fun u48 => 2 - (intOf u48).toNat)
    case atStart => exact ⟨0, by omega, rfl, fun h => absurd h (by omega), fun h => absurd h (by omega)⟩
    case round =>
      obtain ⟨j, hj, rfl, hla, hlb⟩ := hrel
      have HLA := Lib.hid hla
      have HLB := Lib.hid hlb
      clear hla hlb
      by_cases hjt : j < 2
      · obtain ⟨x, hx, hxz, hxl⟩ : ∃ x : ByteArray, W2.cell? ⟨w1.heap.size, j, none⟩ = some (.string x) ∧ x.size ≤ 40 ∧ (Letters x.data.toList → (0 < j + 1 → Letters u.data.toList) ∧ (1 < j + 1 → Letters t.data.toList)) := by
          have : j = 0 ∨ j = 1 := by omega
          rcases this with rfl | rfl
          · exact ⟨u, c0, h1, fun h => ⟨fun _ => h, fun h => absurd h (by omega)⟩⟩
          · exact ⟨t, c1, h2, fun h => ⟨fun _ => HLA.out (by omega), fun _ => h⟩⟩
        have HXL := Lib.hid hxl
        clear hxl
        go_wp2_with fail
        go_loop [15] (fun u15 => ∃ i : Nat, i ≤ x.size ∧ u15 = .int .i64 i ∧ Letters (x.data.toList.take i)) (fun u15 => x.size - (intOf u15).toNat)
        case atStart => exact ⟨0, Nat.zero_le _, rfl, fun b hb => by simp at hb⟩
        case round =>
          obtain ⟨i, hi, rfl, hl⟩ := hrel
          have HL := Lib.hid hl
          clear hl
          by_cases hlt : i < x.size
          · have hg := Lib.data_getElem? x i hlt
            obtain ⟨d, hd⟩ : ∃ d, x[i] = d := ⟨_, rfl⟩
            rw [hd] at hg
            have HG := Lib.hid hg
            clear hg
            by_cases t1 : (d.toNat : Int) < 97
            · go_wp2_with fail
              go_ret
              exact ⟨rfl, hB2⟩
            · by_cases t2 : (122 : Int) < (d.toNat : Int)
              · go_wp2_with fail
                go_ret
                exact ⟨rfl, hB2⟩
              · have HN := Lib.hid (letters_take HL.out HG.out (by omega))
                go_wp2_with fail
                go_round
                case rel => exact ⟨i + 1, by omega, by go_num, HN.out⟩
                case measure => simp [intOf]; omega
          · obtain rfl : i = x.size := by omega
            have HN := Lib.hid (HXL.out (by have := HL.out; rwa [take_all] at this))
            go_wp2_with fail
            go_round
            case rel => exact ⟨j + 1, by omega, by go_num, HN.out.1, HN.out.2⟩
            case measure => simp [intOf]; omega
      · obtain rfl : j = 2 := by omega
        have hlu := HLA.out (by omega)
        have hlt := HLB.out (by omega)
        have hne : u.data.toList ≠ [] := by intro h; rw [Lib.size_eq, h] at h0; exact absurd h0 (by simp)
        obtain ⟨GA, ga1, ga2, ga3, _⟩ := gap_cell W2 A (by omega)
        obtain ⟨GB, gb1, gb2, gb3, gb4⟩ := gap_cell W2 (1 + B) (by omega)
        obtain ⟨GC, gc1, gc2, gc3, _⟩ := gap_cell W2 C (by omega)
        have gb4' := gb4 (by omega)
        have hAe := HAE.out
        have hBe := HBE.out
        have hCe := HCE.out
        have hAb : (A : Int) < 4 := by omega
        have hCb : (C : Int) < 4 := by omega
        have hBb1 : (1 : Int) + (B : Int) < 4 := by omega
        have hBt : ((1 : Int) + (B : Int)).toNat = 1 + B := by omega
        have hBw : IntKind.i64.wrap ((1 : Int) + (B : Int)) = (1 : Int) + (B : Int) := IntWalk.i64_in _ (by omega)
        have hB3 : Below w.heap.size w (W2.alloc (.cells #[.string ⟨#[]⟩, .string ⟨#[32]⟩, .string ⟨#[10]⟩, .string ⟨#[32, 9, 32]⟩] 9)) := hB2.alloc hB2.size _
        by_cases ht0 : t.size = 0
        · have he := empty_yes ht0
          have he2 : (!t.toList.isEmpty) = false := by rw [he]; rfl
          have htl : t.data.toList = [] := List.eq_nil_of_length_eq_zero (by rw [← Lib.size_eq]; exact ht0)
          have k1 : ∀ (Y : ByteArray) W', Y.data.toList = 40 :: (GA.data.toList ++ (u.data.toList ++ (GC.data.toList ++ [41]))) → Env W' → Calls Tryd.prog 24 #[.string (Y ++ m)] W' fun x w' => x = .returned (.tuple #[.string u, .string t, .int .i64 Y.size, .bool true]) ∧ Below W'.heap.size W' w' := fun Y W' hY hW' => by
            have hl : (Y ++ m).data.toList = 40 :: (GA.data.toList ++ (u.data.toList ++ (GC.data.toList ++ 41 :: m.data.toList))) := by rw [app_list, hY]; simp
            have hYs : Y.size = GA.data.toList.length + u.data.toList.length + GC.data.toList.length + 2 := by rw [Lib.size_eq, hY]; simp; omega
            have := inside_any (Y ++ m) W' hW' (by rw [Lib.size_eq, app_list, List.length_append, ← Lib.size_eq, ← Lib.size_eq, hYs, ← Lib.size_eq, ← Lib.size_eq, ← Lib.size_eq]; omega)
            rw [hl, inside_bare _ _ _ _ ga2 hlu hne gc2, ← hYs, ← htl] at this
            simp only [Lib.mk_data] at this
            exact this
          have K1 := Lib.hid k1
          clear k1 htl hlu hlt hne gb4 gb4' ga2 gb2 gc2
          go_wp2_with fail
          refine (K1.out _ _ (by simp only [app_list]; simp) (HE.out.below hB3)).mono ?_
          rintro x w3 ⟨rfl, b3⟩
          have B3 := below_step hB3 b3
          go_wp2_with fail
          go_ret
          exact ⟨ret_bool (by first | rfl | simp), B3⟩
        · have he := empty_no (s := t) (by omega)
          have he2 : (!t.toList.isEmpty) = true := by rw [he]; rfl
          have k1 : ∀ (Y : ByteArray) W', Y.data.toList = 40 :: (GA.data.toList ++ (u.data.toList ++ (GB.data.toList ++ 34 :: (t.data.toList ++ 34 :: (GC.data.toList ++ [41]))))) → Env W' → Calls Tryd.prog 24 #[.string (Y ++ m)] W' fun x w' => x = .returned (.tuple #[.string u, .string t, .int .i64 Y.size, .bool true]) ∧ Below W'.heap.size W' w' := fun Y W' hY hW' => by
            have hl : (Y ++ m).data.toList = 40 :: (GA.data.toList ++ (u.data.toList ++ (GB.data.toList ++ 34 :: (t.data.toList ++ 34 :: (GC.data.toList ++ 41 :: m.data.toList))))) := by rw [app_list, hY]; simp
            have hYs : Y.size = GA.data.toList.length + u.data.toList.length + GB.data.toList.length + t.data.toList.length + GC.data.toList.length + 4 := by rw [Lib.size_eq, hY]; simp; omega
            have := inside_any (Y ++ m) W' hW' (by rw [Lib.size_eq, app_list, List.length_append, ← Lib.size_eq, ← Lib.size_eq, hYs, ← Lib.size_eq, ← Lib.size_eq, ← Lib.size_eq, ← Lib.size_eq, ← Lib.size_eq]; omega)
            rw [hl, inside_titled _ _ _ _ _ _ ga2 hlu hne gb2 gb4' hlt gc2, ← hYs] at this
            simp only [Lib.mk_data] at this
            exact this
          have K1 := Lib.hid k1
          clear k1 hlu hlt hne gb4 gb4' ga2 gb2 gc2
          go_wp2_with fail
          refine (K1.out _ _ (by simp only [app_list]; simp) (HE.out.below hB3)).mono ?_
          rintro x w3 ⟨rfl, b3⟩
          have B3 := below_step hB3 b3
          go_wp2_with fail
          go_ret
          exact ⟨ret_bool (by first | rfl | simp), B3⟩
  · have hcs : u.size = 0 ∨ (0 < u.size ∧ (40 : Int) < (u.size : Int)) ∨ (0 < u.size ∧ ¬ (40 : Int) < (u.size : Int) ∧ (40 : Int) < (t.size : Int)) ∨ (0 < u.size ∧ ¬ (40 : Int) < (u.size : Int) ∧ ¬ (40 : Int) < (t.size : Int) ∧ (30 : Int) < (m.size : Int)) := by omega
    clear hr
    rcases hcs with t1 | ⟨t1, t2⟩ | ⟨t1, t2, t3⟩ | ⟨t1, t2, t3, t4⟩
    · have he := empty_yes t1
      go_enter Tryd.func5, Tryd.ntmps5
      go_wp2_with fail
      refine (alive10 _ hE).mono ?_
      rintro e w1 ⟨rfl, b1⟩
      go_wp2_with fail
      go_ret
      exact ⟨rfl, b1⟩
    all_goals
      have he := empty_no t1
      go_enter Tryd.func5, Tryd.ntmps5
      go_wp2_with fail
      refine (alive10 _ hE).mono ?_
      rintro e w1 ⟨rfl, b1⟩
      go_wp2_with fail
      go_ret
      exact ⟨rfl, b1⟩

end Go.Proofs.YtmllkffdejojbaaDoor
