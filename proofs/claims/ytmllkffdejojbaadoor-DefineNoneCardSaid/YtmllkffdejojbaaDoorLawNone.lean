/-
  DefineNone: what lacks a sign, a name, or what it stands for, defines nothing: the walk of the law.
-/
import Derived.Test.YtmllkffdejojbaaDoorAlive11
import Derived.Test.YtmllkffdejojbaaDoorLawPlain
import Derived.IntWalk
namespace Go.Proofs.YtmllkffdejojbaaDoor
open Go.RowKit
set_option maxRecDepth 100000
set_option linter.unusedVariables false
set_option linter.unusedSimpArgs false

theorem bad_at (m : ByteArray) (hm : m.size ≤ 20) (K : Nat) (hK : K < 13) : ∃ S : ByteArray, (∀ h, [Value.string ((ByteArray.mk #[120]) ++ m), Value.string ((ByteArray.mk #[91, 120]) ++ m), Value.string ((ByteArray.mk #[91, 120]) ++ m ++ (ByteArray.mk #[93])), Value.string ((ByteArray.mk #[91, 120]) ++ m ++ (ByteArray.mk #[93, 32, 58, 32, 47, 117])), Value.string ((ByteArray.mk #[91, 93, 58, 32, 47, 117])), Value.string ((ByteArray.mk #[91, 32, 93, 58, 32, 47, 117])), Value.string ((ByteArray.mk #[91, 94, 93, 58, 32, 116])), Value.string ((ByteArray.mk #[91, 94, 120]) ++ m ++ (ByteArray.mk #[93, 58, 32])), Value.string ((ByteArray.mk #[91, 120]) ++ m ++ (ByteArray.mk #[93, 58, 32])), Value.string ((ByteArray.mk #[91, 120]) ++ m ++ (ByteArray.mk #[93, 58, 32, 47, 117, 32, 39, 116])), Value.string ((ByteArray.mk #[91, 120]) ++ m ++ (ByteArray.mk #[93, 58, 32, 47, 117, 32, 39, 116, 39, 32, 122])), Value.string ((ByteArray.mk #[32, 91, 120, 93, 58, 32, 47, 117])), Value.string ((ByteArray.mk #[91, 120]) ++ m ++ (ByteArray.mk #[93, 58, 32, 47, 117, 32, 122]))][K]'h = Value.string S) ∧ S.data.toList = badLine K m.data.toList ∧ S.size ≤ 60 := by
  have hml : m.data.toList.length ≤ 20 := by rw [← Lib.size_eq]; exact hm
  have : K = 0 ∨ K = 1 ∨ K = 2 ∨ K = 3 ∨ K = 4 ∨ K = 5 ∨ K = 6 ∨ K = 7 ∨ K = 8 ∨ K = 9 ∨ K = 10 ∨ K = 11 ∨ K = 12 := by omega
  rcases this with rfl | rfl | rfl | rfl | rfl | rfl | rfl | rfl | rfl | rfl | rfl | rfl | rfl
  all_goals
    refine ⟨_, fun _ => rfl, ?_, ?_⟩
    · first | rfl | (simp only [app_list]; simp [badLine])
    · first | decide | (rw [Lib.size_eq]; simp only [app_list, List.length_append]; simp; omega)

set_option maxHeartbeats 4000000 in
theorem law_none (k : Int) (m : ByteArray) (hk : (Lit.int .i64 k).wf = true) (w : World) (hE : Env w) :
    Calls Tryd.prog 10 #[.int .i64 k, .string m] w fun e w' => e = .returned (.bool true) ∧ Below w.heap.size w w' := by
  by_cases hr : m.size ≤ 20
  · have h1' : ¬ (20 : Int) < (m.size : Int) := by omega
    have HE := Lib.hid hE
    clear hE
    go_enter Tryd.func10, Tryd.ntmps10
    go_wp2_with fail
    refine (alive11 _ HE.out).mono ?_
    rintro e w1 ⟨rfl, b1⟩
    go_wp2_with fail
    go_loop [5] (fun u5 => ∃ i : Nat, i ≤ m.size ∧ u5 = .int .i64 i ∧ Letters (m.data.toList.take i)) (fun u5 => m.size - (intOf u5).toNat)
    case atStart => exact ⟨0, Nat.zero_le _, rfl, fun b hb => by simp at hb⟩
    case round =>
      obtain ⟨i, hi, rfl, hl⟩ := hrel
      have HL := Lib.hid hl
      clear hl
      by_cases hlt : i < m.size
      · have hg := Lib.data_getElem? m i hlt
        obtain ⟨c, hc⟩ : ∃ c, m[i] = c := ⟨_, rfl⟩
        rw [hc] at hg
        have HG := Lib.hid hg
        clear hg
        by_cases t1 : (c.toNat : Int) < 97
        · go_wp2_with fail
          go_ret
          exact ⟨rfl, b1⟩
        · by_cases t2 : (122 : Int) < (c.toNat : Int)
          · go_wp2_with fail
            go_ret
            exact ⟨rfl, b1⟩
          · have HN := Lib.hid (letters_take HL.out HG.out (by omega))
            go_wp2_with fail
            go_round
            case rel => exact ⟨i + 1, by omega, by go_num, HN.out⟩
            case measure => simp [intOf]; omega
      · obtain rfl : i = m.size := by omega
        have hlm : Letters m.data.toList := by have := HL.out; rwa [take_all] at this
        have hm1 : k.tmod 13 < 13 := Int.tmod_lt_of_pos k (by decide)
        have hm2 : -13 < k.tmod 13 := Int.lt_tmod_of_pos k (by decide)
        have hm3 : (k.tmod 13 + 13).tmod 13 = (k.tmod 13 + 13) % 13 := Int.tmod_eq_emod_of_nonneg (by omega)
        obtain ⟨K, hK, hK13⟩ : ∃ K : Nat, ((k.tmod 13 + 13).tmod 13 = (K : Int)) ∧ K < 13 := ⟨((k.tmod 13 + 13).tmod 13).toNat, by omega, by omega⟩
        clear hm3
        have hw1 : IntKind.i64.wrap (k.tmod 13 + 13) = k.tmod 13 + 13 := IntWalk.i64_in _ (by omega)
        have hw2 : (0 : Int) ≤ (K : Int) := by omega
        have hw3 : (K : Int) < 13 := by omega
        obtain ⟨S, hS, hSl, hSz⟩ := bad_at m hr K hK13
        have c1 := fun W hW => line_any S W hW (by omega)
        rw [hSl, bad_none K _ hlm hK13] at c1
        simp only [DefL.val, DefL.none, defV] at c1
        have C1 := Lib.hid c1
        clear c1 hSl hlm HL
        go_wp2_with fail
        clear hS
        refine (C1.out _ (HE.out.below (b1.alloc b1.size _))).mono ?_
        rintro e w2 ⟨rfl, b2⟩
        have B2 := below_step (b1.alloc b1.size _) b2
        clear b2
        go_wp2_with fail
        go_ret
        exact ⟨ret_bool (by first | rfl | simp), B2.alloc B2.size _⟩
  · have h1' : (20 : Int) < (m.size : Int) := by omega
    go_enter Tryd.func10, Tryd.ntmps10
    go_wp2_with fail
    refine (alive11 _ hE).mono ?_
    rintro e w1 ⟨rfl, b1⟩
    go_wp2_with fail
    go_ret
    exact ⟨rfl, b1⟩

end Go.Proofs.YtmllkffdejojbaaDoor
