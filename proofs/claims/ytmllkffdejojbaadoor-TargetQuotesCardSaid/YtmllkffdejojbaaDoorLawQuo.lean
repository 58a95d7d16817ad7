/-
  TargetQuotes: a title ends at the first sign of its own that no backslash stands ahead of: the walk of the law.
-/
import Derived.Test.YtmllkffdejojbaaDoorAlive10
import Derived.Test.YtmllkffdejojbaaDoorTgtLaw2
import Derived.Test.YtmllkffdejojbaaDoorLawPlain
import Derived.Test.YtmllkffdejojbaaDoorOneByte
import Derived.IntWalk
namespace Go.Proofs.YtmllkffdejojbaaDoor
open Go.RowKit
set_option maxRecDepth 100000
set_option linter.unusedVariables false
set_option linter.unusedSimpArgs false

set_option maxHeartbeats 4000000 in
theorem law_quotes (a b : ByteArray) (k : Int) (hk : (Lit.int .i64 k).wf = true) (w : World) (hE : Env w) :
    Calls Tryd.prog 7 #[.string a, .string b, .int .i64 k] w fun e w' => e = .returned (.bool true) ∧ Below w.heap.size w w' := by
  by_cases hr : a.size ≤ 30 ∧ b.size ≤ 30
  · obtain ⟨h1, h2⟩ := hr
    have h1' : ¬ (30 : Int) < (a.size : Int) := by omega
    have h2' : ¬ (30 : Int) < (b.size : Int) := by omega
    have HE := Lib.hid hE
    clear hE
    have hm1 : k.tmod 3 < 3 := Int.tmod_lt_of_pos k (by decide)
    have hm2 : -3 < k.tmod 3 := Int.lt_tmod_of_pos k (by decide)
    have hm3 : (k.tmod 3 + 3).tmod 3 = (k.tmod 3 + 3) % 3 := Int.tmod_eq_emod_of_nonneg (by omega)
    obtain ⟨K, hK, hK3⟩ : ∃ K : Nat, ((k.tmod 3 + 3).tmod 3 = (K : Int)) ∧ K < 3 := ⟨((k.tmod 3 + 3).tmod 3).toNat, by omega, by omega⟩
    clear hm3
    have hw1 : IntKind.i64.wrap (k.tmod 3 + 3) = k.tmod 3 + 3 := IntWalk.i64_in _ (by omega)
    have hw2 : (0 : Int) ≤ (K : Int) := by omega
    have hw3 : (K : Int) < 3 := by omega
    go_enter Tryd.func7, Tryd.ntmps7
    go_wp2_with fail
    refine (alive10 _ HE.out).mono ?_
    rintro e w1 ⟨rfl, b1⟩
    go_wp2_with fail
    go_quiet (fail)
    obtain ⟨q, hq1, hq2, hq⟩ : ∃ q : UInt8, (∀ h, (ByteArray.mk #[34, 39, 40])[K]'h = q) ∧ (∀ h, (ByteArray.mk #[34, 39, 41])[K]'h = endOf q) ∧ IsQuote q := by
      have : K = 0 ∨ K = 1 ∨ K = 2 := by omega
      rcases this with rfl | rfl | rfl
      · exact ⟨34, fun _ => rfl, fun _ => rfl, Or.inl rfl⟩
      · exact ⟨39, fun _ => rfl, fun _ => rfl, Or.inr (Or.inl rfl)⟩
      · exact ⟨40, fun _ => rfl, fun _ => rfl, Or.inr (Or.inr rfl)⟩
    rw [hq1, hq2]
    have HQ := Lib.hid hq
    clear hq1 hq2 hq hw1 hw2 hw3 hK hm1 hm2
    obtain ⟨e, he⟩ : ∃ e, endOf q = e := ⟨_, rfl⟩
    rw [he]
    have HEN := Lib.hid he
    clear he
    obtain ⟨W, hW⟩ : ∃ W, W = w1.drewN nq := ⟨_, rfl⟩
    rw [← hW]
    have hBW : Below w.heap.size w W := by rw [hW]; exact below_step b1 (below_drewN _ _)
    clear hW
    go_wp2_with fail
    obtain ⟨W2, hW2⟩ : ∃ W2, W2 = W.alloc (.cells #[.string a, .string b] 9) := ⟨_, rfl⟩
    rw [← hW2]
    have c0 : W2.cell? ⟨W.heap.size, 0, none⟩ = some (.string a) := by rw [hW2]; simp
    have c1 : W2.cell? ⟨W.heap.size, 1, none⟩ = some (.string b) := by rw [hW2]; simp
    have hB2 : Below w.heap.size w W2 := by rw [hW2]; exact hBW.alloc hBW.size _
    clear hW2
    go_loop [46] (fun u46 => ∃ j : Nat, j ≤ 2 ∧ u46 = .int .i64 j ∧ (0 < j → Letters a.data.toList) ∧ (1 < j → Letters b.data.toList)) (fun u46 => 2 - (intOf u46).toNat)
    case atStart => exact ⟨0, by omega, rfl, fun h => absurd h (by omega), fun h => absurd h (by omega)⟩
    case round =>
      obtain ⟨j, hj, rfl, hla, hlb⟩ := hrel
      have HLA := Lib.hid hla
      have HLB := Lib.hid hlb
      clear hla hlb
      by_cases hjt : j < 2
      · obtain ⟨x, hx, hxz, hxl⟩ : ∃ x : ByteArray, W2.cell? ⟨W.heap.size, j, none⟩ = some (.string x) ∧ x.size ≤ 30 ∧ (Letters x.data.toList → (0 < j + 1 → Letters a.data.toList) ∧ (1 < j + 1 → Letters b.data.toList)) := by
          have : j = 0 ∨ j = 1 := by omega
          rcases this with rfl | rfl
          · exact ⟨a, c0, h1, fun h => ⟨fun _ => h, fun h => absurd h (by omega)⟩⟩
          · exact ⟨b, c1, h2, fun h => ⟨fun _ => HLA.out (by omega), fun _ => h⟩⟩
        have HXL := Lib.hid hxl
        clear hxl
        go_wp2_with fail
        go_loop [11] (fun u11 => ∃ i : Nat, i ≤ x.size ∧ u11 = .int .i64 i ∧ Letters (x.data.toList.take i)) (fun u11 => x.size - (intOf u11).toNat)
        case atStart => exact ⟨0, Nat.zero_le _, rfl, fun b hb => by simp at hb⟩
        case round =>
          obtain ⟨i, hi, rfl, hl⟩ := hrel
          have HL := Lib.hid hl
          clear hl
          by_cases hlt : i < x.size
          · have hg := Lib.data_getElem? x i hlt
            obtain ⟨c, hc⟩ : ∃ c, x[i] = c := ⟨_, rfl⟩
            rw [hc] at hg
            have HG := Lib.hid hg
            clear hg
            by_cases t1 : (c.toNat : Int) < 97
            · go_wp2_with fail
              go_ret
              exact ⟨rfl, hB2⟩
            · by_cases t2 : (122 : Int) < (c.toNat : Int)
              · go_wp2_with fail
                go_ret
                exact ⟨rfl, hB2⟩
              · have HN := Lib.hid (letters_take HL.out HG.out (by omega))
                go_wp2_with fail
                go_round
                case rel => exact ⟨i + 1, by omega, by go_num, HN.out⟩
                case measure => simp [intOf]; omega
          · obtain rfl : i = x.size := by omega
            have HN := Lib.hid (HXL.out (by have := HL.out; rwa [take_all] at this))
            go_wp2_with fail
            go_round
            case rel => exact ⟨j + 1, by omega, by go_num, HN.out.1, HN.out.2⟩
            case measure => simp [intOf]; omega
      · obtain rfl : j = 2 := by omega
        have hA := HLA.out (by omega)
        have hBb := HLB.out (by omega)
        have HA := Lib.hid hA
        have HBb := Lib.hid hBb
        clear hA hBb
        have cvq := one_byte
        go_wp2_with fail
        obtain ⟨Z, hZ⟩ : ∃ Z : ByteArray, Z = (ByteArray.mk #[q]) ++ a ++ ⟨#[92]⟩ ++ ⟨#[e]⟩ ++ b ++ ⟨#[e]⟩ := ⟨_, rfl⟩
        have hZl : Z.data.toList = q :: (a.data.toList ++ 92 :: e :: (b.data.toList ++ [e])) := by rw [hZ]; simp
        have hZs : Z.size = a.size + b.size + 4 := by rw [Lib.size_eq, hZl, Lib.size_eq a, Lib.size_eq b]; simp; omega
        obtain ⟨T, hT⟩ : ∃ T : ByteArray, T = a ++ ⟨#[e]⟩ ++ b := ⟨_, rfl⟩
        have hTl : T.data.toList = a.data.toList ++ e :: b.data.toList := by rw [hT]; simp
        have c2 : ∀ W', Env W' → Calls Tryd.prog 26 #[.string (Z ++ a)] W' fun x w' => x = .returned (.tuple #[.string T, .int .i64 Z.size, .bool true]) ∧ Below W'.heap.size W' w' := fun W' hW' => by
          have hl : (Z ++ a).data.toList = q :: (a.data.toList ++ 92 :: endOf q :: (b.data.toList ++ endOf q :: a.data.toList)) := by rw [HEN.out, app_list, hZl]; simp
          have := title_any (Z ++ a) W' hW' (by rw [Lib.size_eq, app_list, hZl, List.length_append, ← Lib.size_eq a]; simp; omega)
          rw [hl, title_sign q _ _ _ HQ.out HA.out HBb.out, HEN.out, ← hTl] at this
          simp only [Lib.mk_data] at this
          rw [show a.data.toList.length + b.data.toList.length + 4 = Z.size by rw [hZs, Lib.size_eq a, Lib.size_eq b]] at this
          exact this
        have c3 : ∀ (Y : ByteArray) W', Y.data.toList = q :: (a.data.toList ++ 92 :: e :: b.data.toList) → Env W' → Calls Tryd.prog 26 #[.string Y] W' fun x w' => x = .returned (.tuple #[.string ⟨#[]⟩, .int .i64 0, .bool false]) ∧ Below W'.heap.size W' w' := fun Y W' hY hW' => by
          have := title_any Y W' hW' (by rw [Lib.size_eq, hY]; simp; omega)
          rw [hY, ← HEN.out, title_open q _ _ HQ.out HA.out HBb.out] at this
          exact this
        have C2 := Lib.hid c2
        have C3 := Lib.hid c3
        have HT := Lib.hid hT
        have HZL := Lib.hid hZl
        have HZE := Lib.hid hZ
        have hcut : (Z.extract 0 (a.size + b.size + 3)).data.toList = q :: (a.data.toList ++ 92 :: e :: b.data.toList) := by
          rw [Lib.extract_data, hZl]
          simp only [List.drop_zero, Nat.sub_zero]
          rw [show q :: (a.data.toList ++ 92 :: e :: (b.data.toList ++ [e])) = (q :: (a.data.toList ++ 92 :: e :: b.data.toList)) ++ [e] by simp]
          exact List.take_left' (by simp; omega)
        have HCUT := Lib.hid hcut
        have hz1 : (Z.size : Int) - 1 = ((Z.size - 1 : Nat) : Int) := by omega
        have HZ1 := Lib.hid hz1
        clear c2 c3 hT hTl hZl hcut hz1 c0 c1
        rw [← hZ]
        clear hZ
        have hB5 : Below w.heap.size w (((W2.alloc (.cells #[.int .u8 (q.toNat : Int)] 5)).alloc (.cells #[.int .u8 (e.toNat : Int)] 5)).alloc (.cells #[.int .u8 (e.toNat : Int)] 5)) :=
          ((hB2.alloc hB2.size _).alloc (by have := hB2.size; simp; omega) _).alloc (by have := hB2.size; simp; omega) _
        refine (C2.out _ (HE.out.below hB5)).mono ?_
        rintro x w3 ⟨rfl, b3⟩
        have B3 := below_step hB5 b3
        clear hB5
        rw [HT.out]
        go_wp2_with fail
        refine (C3.out _ _ HCUT.out (HE.out.below B3)).mono ?_
        rintro x w4 ⟨rfl, b4⟩
        have B4 := below_step B3 b4
        go_wp2_with fail
        go_ret
        exact ⟨ret_bool (by first | rfl | simp), B4.alloc B4.size _⟩
  · have hc : (30 : Int) < (a.size : Int) ∨ (¬ (30 : Int) < (a.size : Int) ∧ (30 : Int) < (b.size : Int)) := by omega
    clear hr
    rcases hc with t1 | ⟨t1, t2⟩
    all_goals
      go_enter Tryd.func7, Tryd.ntmps7
      go_wp2_with fail
      refine (alive10 _ hE).mono ?_
      rintro e w1 ⟨rfl, b1⟩
      go_wp2_with fail
      go_ret
      exact ⟨rfl, b1⟩

end Go.Proofs.YtmllkffdejojbaaDoor
