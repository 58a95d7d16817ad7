/-
  DefineFolds: names that fold alike are one name: the walk of the law.
-/
import Derived.Test.YtmllkffdejojbaaDoorAlive11
namespace Go.Proofs.YtmllkffdejojbaaDoor
open Go.RowKit
set_option maxRecDepth 100000
set_option linter.unusedVariables false
set_option linter.unusedSimpArgs false

theorem name_nil {l : List UInt8} (h : (nameL l).2 = false) : (nameL l).1 = [] := by
  unfold nameL at h ⊢
  split
  · rfl
  · rename_i h1
    rw [if_neg h1] at h
    split
    · rfl
    · rename_i h2
      rw [if_neg h2] at h
      cases h

set_option maxHeartbeats 4000000 in
theorem law_folds (a : ByteArray) (w : World) (hE : Env w) :
    Calls Tryd.prog 9 #[.string a] w fun e w' => e = .returned (.bool true) ∧ Below w.heap.size w w' := by
  by_cases hr : a.size ≤ 50
  · have h1' : ¬ (50 : Int) < (a.size : Int) := by omega
    obtain ⟨F, hF, hFz⟩ := ba_at (nameL a.data.toList).1
    obtain ⟨ok, hok⟩ : ∃ b, (nameL a.data.toList).2 = b := ⟨_, rfl⟩
    have e1 : nameL a.data.toList = (F.data.toList, ok) := by rw [hF, ← hok]
    have hFz2 : F.size ≤ 60 := by
      rw [hFz]
      unfold nameL
      split
      · simp
      · split
        · simp
        · rename_i h; simp only; omega
    have c1 := fun W hW => name_any a W hW (by omega)
    rw [e1] at c1
    have c2 : ∀ (Y : ByteArray) W, Y.data.toList = 32 :: (a.data.toList ++ [9, 32]) → Env W → Calls Tryd.prog 29 #[.string Y] W fun e w' => e = .returned (.tuple #[.string F, .bool ok]) ∧ Below W.heap.size W w' := fun Y W hY hW => by
      have := name_any Y W hW (by rw [Lib.size_eq, hY, List.length_cons, List.length_append, ← Lib.size_eq]; simp; omega)
      rw [hY, name_around, e1] at this
      simp only [Lib.mk_data] at this
      exact this
    simp only [Lib.mk_data] at c1
    have HE := Lib.hid hE
    have C1 := Lib.hid c1
    have C2 := Lib.hid c2
    clear c1 c2 hE
    cases ok
    · obtain ⟨G, hG, _⟩ := ba_at (nameL F.data.toList).1
      obtain ⟨on, hon⟩ : ∃ b, (nameL F.data.toList).2 = b := ⟨_, rfl⟩
      have e3 : nameL F.data.toList = (G.data.toList, on) := by rw [hG, ← hon]
      have c3 := fun W hW => name_any F W hW (by omega)
      rw [e3] at c3
      simp only [Lib.mk_data] at c3
      have C3 := Lib.hid c3
      clear c3 e3 hG hon e1 hF hFz
      go_enter Tryd.func9, Tryd.ntmps9
      go_wp2_with fail
      refine (alive11 _ HE.out).mono ?_
      rintro e w1 ⟨rfl, b1⟩
      go_wp2_with fail
      refine (C1.out _ (HE.out.below b1)).mono ?_
      rintro e w2 ⟨rfl, b2⟩
      have B2 := below_step b1 b2
      go_wp2_with fail
      refine (C2.out _ _ (by simp only [app_list]; simp) (HE.out.below B2)).mono ?_
      rintro e w3 ⟨rfl, b3⟩
      have B3 := below_step B2 b3
      go_wp2_with fail
      refine (C3.out _ (HE.out.below B3)).mono ?_
      rintro e w4 ⟨rfl, b4⟩
      have B4 := below_step B3 b4
      go_wp2_with fail
      go_ret
      exact ⟨rfl, B4⟩
    · obtain ⟨k1, k2⟩ := name_twice a.data.toList hok
      rw [e1] at k1 k2
      simp only at k1 k2
      have c3 := fun W hW => name_any F W hW (by omega)
      rw [k1] at c3
      have c4 := fun W hW => fold_any a W hW (by omega)
      rw [← k2] at c4
      simp only [Lib.mk_data] at c3 c4
      have C3 := Lib.hid c3
      have C4 := Lib.hid c4
      clear c3 c4 k1 k2 e1 hF hFz
      go_enter Tryd.func9, Tryd.ntmps9
      go_wp2_with fail
      refine (alive11 _ HE.out).mono ?_
      rintro e w1 ⟨rfl, b1⟩
      go_wp2_with fail
      refine (C1.out _ (HE.out.below b1)).mono ?_
      rintro e w2 ⟨rfl, b2⟩
      have B2 := below_step b1 b2
      go_wp2_with fail
      refine (C2.out _ _ (by simp only [app_list]; simp) (HE.out.below B2)).mono ?_
      rintro e w3 ⟨rfl, b3⟩
      have B3 := below_step B2 b3
      go_wp2_with fail
      refine (C3.out _ (HE.out.below B3)).mono ?_
      rintro e w4 ⟨rfl, b4⟩
      have B4 := below_step B3 b4
      go_wp2_with fail
      refine (C4.out _ (HE.out.below B4)).mono ?_
      rintro e w5 ⟨rfl, b5⟩
      have B5 := below_step B4 b5
      go_wp2_with fail
      go_ret
      exact ⟨ret_bool (by first | rfl | simp), B5⟩
  · have h1' : (50 : Int) < (a.size : Int) := by omega
    go_enter Tryd.func9, Tryd.ntmps9
    go_wp2_with fail
    refine (alive11 _ hE).mono ?_
    rintro e w1 ⟨rfl, b1⟩
    go_wp2_with fail
    go_ret
    exact ⟨rfl, b1⟩

end Go.Proofs.YtmllkffdejojbaaDoor
