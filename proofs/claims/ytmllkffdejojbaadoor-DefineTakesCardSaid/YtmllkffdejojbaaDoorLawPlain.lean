/-
  TargetPlain: a url of letters is itself, in sharp brackets too: the walk of the law.
-/
import Derived.Test.YtmllkffdejojbaaDoorAlive10
import Derived.Test.YtmllkffdejojbaaDoorTgtLaw2
namespace Go.Proofs.YtmllkffdejojbaaDoor
open Go.RowKit
set_option maxRecDepth 100000
set_option linter.unusedVariables false
set_option linter.unusedSimpArgs false

theorem letters_take {l : List UInt8} {k : Nat} {c : UInt8} (h : Letters (l.take k)) (hk : l[k]? = some c) (hc : 97 ≤ c.toNat ∧ c.toNat ≤ 122) : Letters (l.take (k + 1)) := by
  obtain ⟨hlt, he⟩ := List.getElem?_eq_some_iff.1 hk
  rw [List.take_succ_eq_append_getElem hlt, he]
  refine h.append (fun b hb => ?_)
  rw [List.mem_singleton.1 hb]
  exact hc

set_option maxHeartbeats 4000000 in
theorem law_plain (u m : ByteArray) (w : World) (hE : Env w) :
    Calls Tryd.prog 8 #[.string u, .string m] w fun e w' => e = .returned (.bool true) ∧ Below w.heap.size w w' := by
  by_cases hr : 0 < u.size ∧ u.size ≤ 60 ∧ m.size ≤ 40
  · obtain ⟨h1, h2, h3⟩ := hr
    have he := empty_no h1
    have h2' : ¬ (60 : Int) < (u.size : Int) := by omega
    have h3' : ¬ (40 : Int) < (m.size : Int) := by omega
    have HE := Lib.hid hE
    clear hE
    go_enter Tryd.func8, Tryd.ntmps8
    go_wp2_with fail
    refine (alive10 _ HE.out).mono ?_
    rintro e w1 ⟨rfl, b1⟩
    go_wp2_with fail
    clear he
    go_loop [5] (fun u5 => ∃ k : Nat, k ≤ u.size ∧ u5 = .int .i64 k ∧ Letters (u.data.toList.take k)) (fun u5 => u.size - (intOf u5).toNat)
    case atStart => exact ⟨0, Nat.zero_le _, rfl, fun b hb => by simp at hb⟩
    case round =>
      obtain ⟨k, hk, rfl, hl⟩ := hrel
      have HL := Lib.hid hl
      clear hl
      by_cases hlt : k < u.size
      · have hg := Lib.data_getElem? u k hlt
        obtain ⟨c, hc⟩ : ∃ c, u[k] = c := ⟨_, rfl⟩
        rw [hc] at hg
        have HG := Lib.hid hg
        clear hg
        by_cases c1 : (c.toNat : Int) < 97
        · go_wp2_with fail
          go_ret
          exact ⟨rfl, b1⟩
        · by_cases c2 : (122 : Int) < (c.toNat : Int)
          · go_wp2_with fail
            go_ret
            exact ⟨rfl, b1⟩
          · have HN := Lib.hid (letters_take HL.out HG.out (by omega))
            go_wp2_with fail
            go_round
            case rel => exact ⟨k + 1, by omega, by go_num, HN.out⟩
            case measure => simp [intOf]; omega
      · obtain rfl : k = u.size := by omega
        have hlu : Letters u.data.toList := by have := HL.out; rwa [take_all] at this
        have hne : u.data.toList ≠ [] := by intro h; rw [Lib.size_eq, h] at h1; exact absurd h1 (by simp)
        obtain ⟨uu, huu⟩ : ∃ uu : ByteArray, uu = u ++ ⟨#[32]⟩ ++ u := ⟨_, rfl⟩
        have huul : uu.data.toList = u.data.toList ++ 32 :: u.data.toList := by rw [huu, app_list, app_list]; simp
        have hul : (u.data.toList).length = u.size := by rw [Lib.size_eq]
        have c1 : ∀ (Z : ByteArray) W, Z.data.toList = u.data.toList ++ 32 :: m.data.toList → Env W → Calls Tryd.prog 25 #[.string Z] W fun e w' => e = .returned (.tuple #[.string u, .int .i64 u.size, .bool true]) ∧ Below W.heap.size W w' := fun Z W hZ hW => by
          have := dest_any Z W hW (by rw [Lib.size_eq, hZ]; simp; omega)
          rw [hZ, dest_letters _ _ 32 hlu hne (Or.inl (by decide))] at this
          simp only [Lib.mk_data, hul] at this
          exact this
        have c2 : ∀ (Z : ByteArray) W, Z.data.toList = 60 :: (u.data.toList ++ 32 :: u.data.toList ++ 62 :: m.data.toList) → Env W → Calls Tryd.prog 25 #[.string Z] W fun e w' => e = .returned (.tuple #[.string uu, .int .i64 ((2 * u.size + 3 : Nat) : Int), .bool true]) ∧ Below W.heap.size W w' := fun Z W hZ hW => by
          have := dest_any Z W hW (by rw [Lib.size_eq, hZ]; simp; omega)
          rw [hZ, dest_sharp _ _ hlu, ← huul] at this
          simp only [Lib.mk_data, hul] at this
          exact this
        have c3 : ∀ W, Env W → Calls Tryd.prog 27 #[.string u] W fun e w' => e = .returned (.string u) ∧ Below W.heap.size W w' := fun W hW => by
          have := unesc_any u W hW (by omega)
          rw [unesc_plain _ hlu.plain, Lib.mk_data] at this
          exact this
        have c4 : ∀ W, Calls Tryd.prog 23 #[.string u] W fun e w' => e = .returned (.string u) ∧ Below W.heap.size W w' := fun W => by
          have := encode_any u W (by omega)
          rw [encode_letters _ hlu, Lib.mk_data] at this
          exact this
        have C1 := Lib.hid c1
        have C2 := Lib.hid c2
        have C3 := Lib.hid c3
        have C4 := Lib.hid c4
        have HUU := Lib.hid huu
        have hm2 : IntKind.i64.wrap (2 * (u.size : Int)) = 2 * (u.size : Int) := wrap_small _ (by omega) (by omega)
        have he2 : (((2 * u.size + 3 : Nat) : Int) == 2 * (u.size : Int) + 3) = true := by simp
        clear c1 c2 c3 c4 huul hul hne hlu huu
        go_wp2_with fail
        refine (C1.out _ _ (by rw [app_list, app_list]; simp) (HE.out.below b1)).mono ?_
        rintro e w2 ⟨rfl, b2⟩
        have B2 := below_step b1 b2
        go_wp2_with fail
        refine (C2.out _ _ (by simp only [app_list]; simp) (HE.out.below B2)).mono ?_
        rintro e w3 ⟨rfl, b3⟩
        have B3 := below_step B2 b3
        rw [HUU.out]
        go_wp2_with fail
        refine (C3.out _ (HE.out.below B3)).mono ?_
        rintro e w4 ⟨rfl, b4⟩
        have B4 := below_step B3 b4
        go_wp2_with fail
        refine (C4.out _).mono ?_
        rintro e w5 ⟨rfl, b5⟩
        have B5 := below_step B4 b5
        go_wp2_with fail
        go_ret
        exact ⟨ret_bool (by first | rfl | simp), B5⟩
  · have hc : u.size = 0 ∨ (0 < u.size ∧ (60 : Int) < (u.size : Int)) ∨ (0 < u.size ∧ ¬ (60 : Int) < (u.size : Int) ∧ (40 : Int) < (m.size : Int)) := by omega
    clear hr
    rcases hc with t1 | ⟨t1, t2⟩ | ⟨t1, t2, t3⟩
    · have he := empty_yes t1
      go_enter Tryd.func8, Tryd.ntmps8
      go_wp2_with fail
      refine (alive10 _ hE).mono ?_
      rintro e w1 ⟨rfl, b1⟩
      go_wp2_with fail
      go_ret
      exact ⟨rfl, b1⟩
    all_goals
      have he := empty_no t1
      go_enter Tryd.func8, Tryd.ntmps8
      go_wp2_with fail
      refine (alive10 _ hE).mono ?_
      rintro e w1 ⟨rfl, b1⟩
      go_wp2_with fail
      go_ret
      exact ⟨rfl, b1⟩

end Go.Proofs.YtmllkffdejojbaaDoor
