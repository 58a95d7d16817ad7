/-
  The reference's Take: it answers as the program's does.
-/
import Derived.Test.YtnlmfoccdmkncaaGreatDoorRfLine
import Derived.Test.YtnlmfoccdmkncaaGreatDoorDefD
namespace Go.Proofs.YtnlmfoccdmkncaaGreatDoor
open Go.RowKit
set_option maxRecDepth 100000
set_option linter.unusedVariables false
set_option linter.unusedSimpArgs false

theorem cut_at (S : ByteArray) (k : Nat) (hk : k ≤ S.size) (hn : (10 : UInt8) ∉ S.data.toList.take k) (he : k = S.size ∨ ∃ hh, S[k]'hh = 10) : (cutAt 10 S.data.toList).1 = S.data.toList.take k ∧ (cutAt 10 S.data.toList).2.1 = S.data.toList.drop (k + 1) := by
  rcases he with he | ⟨hh, he⟩
  · subst he
    rw [take_all] at hn ⊢
    rw [cut_miss 10 _ hn, drop_end _ _ (by omega)]
    exact ⟨rfl, rfl⟩
  · have hd := drop_at S k hh
    rw [he] at hd
    have hs : S.data.toList = S.data.toList.take k ++ 10 :: S.data.toList.drop (k + 1) := by
      conv => lhs; rw [← List.take_append_drop k S.data.toList]
      rw [hd]
    rw [hs, cut_hit 10 _ _ hn]
    simp only
    rw [← hs]
    exact ⟨rfl, rfl⟩

theorem def_oneCell' (d : DefL) : ∀ u ∈ [Value.string ⟨d.name.toArray⟩, .string ⟨d.url.toArray⟩, .string ⟨d.title.toArray⟩, .string ⟨d.text.toArray⟩, .bool d.note], u.oneCell' = true := by
  intro u hu; simp at hu; rcases hu with rfl | rfl | rfl | rfl | rfl <;> rfl

def TakePost (s : ByteArray) (w : World) (e : Ending) (w' : World) : Prop := ∃ v, e = .returned (.tuple #[v, .string ⟨(takeL (s.size + 1) s.data.toList []).2.toArray⟩]) ∧
      w'.ownsRow w.heap.size 26 5 v (takeL (s.size + 1) s.data.toList []).1.length (defCells (takeL (s.size + 1) s.data.toList []).1) ∧ Below w.heap.size w w'

set_option maxHeartbeats 8000000 in
theorem rtake_any (s : ByteArray) (w : World) (hE : Env w) (hs : s.size ≤ 1000000) :
    Calls Tryz.prog 11 #[.string s] w (TakePost s w) := by
  obtain ⟨i0, hi, hz0, hz1, hz2⟩ := info_parts infoDef
  have HE := Lib.hid hE
  clear hE
  go_enter Tryz.func11, Tryz.ntmps11
  go_wp2_with fail
  go_loopw [0, 4] (fun u0 u4 wr => ∃ (S : ByteArray) (out : List DefL) (f : Nat), u0 = .string S ∧ wr.ownsRow w.heap.size 26 5 u4 out.length (defCells out) ∧ Below w.heap.size w wr ∧
    takeL f S.data.toList out = takeL (s.size + 1) s.data.toList [] ∧ S.size < f ∧ out.length + S.size ≤ s.size) (fun u0 _ _ => strSize u0)
  case atStart => exact ⟨s, [], s.size + 1, rfl, World.ownsRow_nil _ _ _ _, Below.refl _ _, rfl, by omega, by simp⟩
  case round =>
    obtain ⟨S, out, f, rfl, hown, hB, hT, hf, hol⟩ := hrel
    obtain ⟨f, rfl⟩ : ∃ g, f = g + 1 := ⟨f - 1, by omega⟩
    have HT := Lib.hid hT
    have HB := Lib.hid hB
    have HO := Lib.hid hown
    clear hT hB hown
    obtain ⟨L, hL⟩ : ∃ L, out.length = L := ⟨_, rfl⟩
    rw [hL] at hol HO
    have HLn := Lib.hid hL
    clear hL
    by_cases hS0 : 0 < S.size
    · have he := empty_no hS0
      have hne : S.data.toList ≠ [] := by intro h0; rw [Lib.size_eq, h0] at hS0; exact absurd hS0 (by simp)
      have HNE := Lib.hid hne
      clear hne
      obtain ⟨wo, rfl⟩ : ∃ wo : World, wo = wr := ⟨_, rfl⟩
      go_upto_block 2 with (fail)
      go_cut [5] (fun u5 wc => ∃ k : Nat, u5 = .int .i64 k ∧ k ≤ S.size ∧ (cutAt 10 S.data.toList).1 = S.data.toList.take k ∧ (cutAt 10 S.data.toList).2.1 = S.data.toList.drop (k + 1) ∧ wc = wo)
      case first =>
        go_wp2_with fail
        go_loop [5] (fun u5 => ∃ k : Nat, k ≤ S.size ∧ u5 = .int .i64 k ∧ (10 : UInt8) ∉ S.data.toList.take k) (fun u5 => S.size - (intOf u5).toNat)
        case atStart => exact ⟨0, Nat.zero_le _, rfl, by simp⟩
        case round =>
          obtain ⟨k, hk, rfl, hno⟩ := hrel
          have HNO := Lib.hid hno
          clear hno
          by_cases hlt : k < S.size
          · have hltI : (k : Int) < (S.size : Int) := by omega
            obtain ⟨c, hc⟩ : ∃ c, S[k] = c := ⟨_, rfl⟩
            by_cases h10 : c = 10
            · have t1 : ((c.toNat : Int) != 10) = false := by rw [h10]; rfl
              have HC := Lib.hid (cut_at S k hk HNO.out (.inr ⟨hlt, by rw [hc, h10]⟩))
              clear h10
              go_wp2_with fail
              go_meet
              case rel => exact ⟨k, rfl, hk, HC.out.1, HC.out.2, rfl⟩
            · have t1 : ((c.toNat : Int) != 10) = true := is_noB (d := 10) h10
              have HN := Lib.hid (show (10 : UInt8) ∉ S.data.toList.take (k + 1) by
                rw [take_succ S k hlt, hc]
                intro hm
                rcases List.mem_append.1 hm with hm | hm
                · exact HNO.out hm
                · exact h10 (List.mem_singleton.1 hm).symm)
              clear h10
              go_wp2_with fail
              go_round
              case rel => exact ⟨k + 1, by omega, by go_num, HN.out⟩
              case measure => simp [intOf]; omega
          · obtain rfl : k = S.size := by omega
            have HC := Lib.hid (cut_at S S.size hk HNO.out (.inl rfl))
            go_wp2_with fail
            go_meet
            case rel => exact ⟨S.size, rfl, hk, HC.out.1, HC.out.2, rfl⟩
      case rest =>
      obtain ⟨k, rfl, hk, hc1, hc2, rfl⟩ := hcut
      obtain ⟨A, hA⟩ : ∃ X : ByteArray, S.extract 0 k = X := ⟨_, rfl⟩
      have hAl : A.data.toList = S.data.toList.take k := by rw [← hA, ext_take]
      have hAz : A.size ≤ S.size := by rw [← hA]; simp; omega
      have hln := fun W hW => rline_any A W hW (by omega)
      have hT := HT.out
      rw [takeL, if_neg HNE.out, hc1, hc2, ← hAl] at hT
      obtain ⟨d, is, hd⟩ : ∃ d is, lineL A.data.toList = (d, is) := ⟨_, _, rfl⟩
      unfold LinePost at hln
      rw [hd] at hln hT
      simp only [DefL.val, defV] at hln hT
      have HL := Lib.hid hln
      have HT2 := Lib.hid hT
      clear hln hT HT hAl hc1 hc2 hd
      go_wp2_with fail
      refine (HL.out _ (HE.out.below HB.out)).mono ?_
      rintro e w3 ⟨rfl, b3⟩
      have hB3 := below_step HB.out b3
      have hown3 := own_below HO.out b3
      clear b3 hA
      cases is
      · have HT3 := Lib.hid (HT2.out.symm.trans (if_neg (by simp)))
        clear HT2
        go_wp2_with fail
        go_ret2
        refine ⟨u4, ?_, ?_, hB3.alloc hB3.size _⟩
        · rw [HT3.out]; show Ending.returned (.tuple #[u4, .string S]) = _; simp only [Lib.mk_data]
        · rw [HT3.out, HLn.out]; exact hown3.alloc _
      · have HT3 := Lib.hid ((if_pos rfl).symm.trans HT2.out)
        clear HT2
        have hmin : ∃ R : ByteArray, R.data.toList = S.data.toList.drop (k + 1) ∧ R.size < S.size ∧ S.extract (min ((k : Int) + 1) (S.size : Int)).toNat S.size = R := by
          by_cases hlt : k < S.size
          · have e1 : (min ((k : Int) + 1) (S.size : Int)).toNat = k + 1 := by omega
            rw [e1]
            exact ⟨_, ext_drop S (k + 1), by simp; omega, rfl⟩
          · have e1 : (min ((k : Int) + 1) (S.size : Int)).toNat = S.size := by omega
            rw [e1]
            refine ⟨_, ?_, by simp; omega, rfl⟩
            rw [ext_drop, drop_end _ _ (Nat.le_refl _), drop_end _ _ (by omega)]
        obtain ⟨R, hRl, hRz, hm⟩ := hmin
        rw [← hRl] at HT3
        clear hRl
        have hLs : L + 1 ≤ s.size := by omega
        have HW := Lib.hid hB3
        clear hB3
        · have hB3 := HW.out
          go_wp2_with (first
            | (at_builtin; refine wpList_append_own _ rfl _ _ 40 rfl w.heap.size 26 i0 (.agg #[.string ⟨#[]⟩, .string ⟨#[]⟩, .string ⟨#[]⟩, .string ⟨#[]⟩, .bool false]) 5 72 Tryz.underlying40 hi hz0 hz1 hz2 rfl (by decide) _ _ _ rfl ((hown3.alloc _).alloc _) ⟨w3.heap.size + 1, 0, none⟩ 1 1 [.string ⟨d.name.toArray⟩, .string ⟨d.url.toArray⟩, .string ⟨d.title.toArray⟩, .string ⟨d.text.toArray⟩, .bool d.note] rfl rfl (cells_new _ _ _ _ (by simp)) (def_oneCell' d) (by unfold maxLen; omega) (by omega) (by have := hB3.size; simp; omega) ?_))
          intro v' w4 hown4 hgrow _
          have hB4 := ((hB3.alloc hB3.size (.cells #[.string ⟨d.name.toArray⟩, .string ⟨d.url.toArray⟩, .string ⟨d.title.toArray⟩, .string ⟨d.text.toArray⟩, .bool d.note] 26)).alloc (by have := hB3.size; simp; omega) (.cells #[.string ⟨d.name.toArray⟩, .string ⟨d.url.toArray⟩, .string ⟨d.title.toArray⟩, .string ⟨d.text.toArray⟩, .bool d.note] 26)).grown hgrow (by have := hB3.size; simp; omega) (fun j hj => (hown3.lt j hj).1)
          have HR := Lib.hid (And.intro hown4 hB4)
          clear hgrow hown3 hB3 hown4 hB4
          go_wp2_with fail
          go_roundw
          case rel => exact ⟨R, out ++ [d], f, rfl, by rw [defCells_snoc, List.length_append, HLn.out]; exact HR.out.1, HR.out.2, HT3.out, by omega, by rw [List.length_append, HLn.out]; simp; omega⟩
          case measure => simp only [strSize]; omega
    · have he := empty_yes (s := S) (by omega)
      have hnil : S.data.toList = [] := List.eq_nil_of_length_eq_zero (by rw [← Lib.size_eq]; omega)
      have HT3 := Lib.hid (show takeL (s.size + 1) s.data.toList [] = (out, S.data.toList) by rw [← HT.out, takeL, if_pos hnil])
      clear HT hnil
      go_wp2_with fail
      go_ret2
      refine ⟨u4, ?_, ?_, HB.out⟩
      · rw [HT3.out]; show Ending.returned (.tuple #[u4, .string S]) = _; simp only [Lib.mk_data]
      · rw [HT3.out, HLn.out]; exact HO.out

end Go.Proofs.YtnlmfoccdmkncaaGreatDoor
