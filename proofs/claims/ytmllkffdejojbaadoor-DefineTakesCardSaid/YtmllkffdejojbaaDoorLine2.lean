/-
  define.Line: its ways with a definition; the whole contract.
-/
import Derived.Test.YtmllkffdejojbaaDoorLine
import Derived.Test.YtmllkffdejojbaaDoorSetDef
namespace Go.Proofs.YtmllkffdejojbaaDoor
open Go.RowKit
set_option maxRecDepth 100000
set_option linter.unusedVariables false
set_option linter.unusedSimpArgs false


theorem setDef_size (w : World) (k : Nat) (u0 u1 u2 u3 u4 : Value) : (World.setDef w k u0 u1 u2 u3 u4).heap.size = w.heap.size := by
  unfold World.setDef
  simp only [World.size_setCell]

theorem zeroAt (w : World) : DefAt (w.alloc (.cells #[.string ⟨#[]⟩, .string ⟨#[]⟩, .string ⟨#[]⟩, .string ⟨#[]⟩, .bool false] 40)) w.heap.size (.string ⟨#[]⟩) (.string ⟨#[]⟩) (.string ⟨#[]⟩) (.string ⟨#[]⟩) (.bool false) := by
  unfold DefAt; simp

theorem setDef_belowAt {w W : World} {n k : Nat} (h : Below n w W) (hk : n ≤ k) (u0 u1 u2 u3 u4 : Value) : Below n w (World.setDef W k u0 u1 u2 u3 u4) :=
  h.trans ((setDef_below W k u0 u1 u2 u3 u4).mono hk)

set_option maxHeartbeats 4000000 in
theorem line_note (s C N X R R2 R3 T F : ByteArray) (may : Bool) (w : World) (hE : Env w) (hs : s.size ≤ 1000000000)
    (h1 : preAt 91 s.data.toList = (C.data.toList, true)) (hCz : C.size ≤ s.size) (h2 : cutAt 93 C.data.toList = (N.data.toList, R.data.toList, true))
    (h3 : preAt 58 R.data.toList = (R2.data.toList, true)) (g : Bool) (h4 : behindL R2.data.toList = (R3.data.toList, g)) (h5 : preAt 94 N.data.toList = (X.data.toList, true))
    (hXz : X.size ≤ s.size) (hRz : R3.size ≤ s.size) (h6 : plainL R3.data.toList = T.data.toList) (h7 : nameL X.data.toList = (F.data.toList, may)) :
    Calls Tryd.prog 31 #[.string s] w fun e w' => e = .returned (.tuple #[(lineL s.data.toList).1.val, .bool (lineL s.data.toList).2]) ∧ Below w.heap.size w w' := by
  have HL := Lib.hid (show lineL s.data.toList = if T.data.toList ≠ [] ∧ may = true then (⟨F.data.toList, [], [], T.data.toList, true⟩, true) else (DefL.none, false) by
    unfold lineL
    rw [h1]; simp only
    rw [h2]; simp only
    rw [h3]; simp only
    rw [if_neg (by simp), if_pos (by simp)]
    rw [h4]; simp only
    unfold lineOf
    rw [h5]; simp only
    rw [h6, h7]; simp only
    rw [if_pos trivial])
  have hp := fun W => pre_any 91 s W
  rw [h1] at hp
  have hq := fun W hW => cut_any 93 C W hW (by omega)
  rw [h2] at hq
  have hr := fun W => pre_any 58 R W
  rw [h3] at hr
  have hb := fun W => behind_any R2 W
  rw [h4] at hb
  have hc := fun W => pre_any 94 N W
  rw [h5] at hc
  have ht := fun W => plain_any R3 W (by omega)
  rw [h6] at ht
  have hn := fun W hW => name_any X W hW (by omega)
  rw [h7] at hn
  simp only [Lib.mk_data] at hp hq hr hb hc ht hn
  have HE := Lib.hid hE
  have HP := Lib.hid hp
  have HQ := Lib.hid hq
  have HR := Lib.hid hr
  have HB := Lib.hid hb
  have HC := Lib.hid hc
  have HT := Lib.hid ht
  have HN := Lib.hid hn
  clear hp hq hr hb hc ht hn h1 h2 h3 h4 h5 h6 h7 hE
  have hb1 : Below w.heap.size w (w.alloc (.cells #[.string ⟨#[]⟩, .string ⟨#[]⟩, .string ⟨#[]⟩, .string ⟨#[]⟩, .bool false] 40)) := (Below.refl _ w).alloc (Nat.le_refl _) _
  have hz0 := zeroAt w
  go_enter Tryd.func31, Tryd.ntmps31
  go_wp2_with fail
  obtain ⟨W1, hW1⟩ : ∃ W1, w.alloc (.cells #[.string ⟨#[]⟩, .string ⟨#[]⟩, .string ⟨#[]⟩, .string ⟨#[]⟩, .bool false] 40) = W1 := ⟨_, rfl⟩
  have hsz1 : w.heap.size < W1.heap.size := by rw [← hW1, World.size_alloc]; omega
  rw [hW1] at hz0 hb1 ⊢
  clear hW1
  refine (HP.out _).mono ?_
  rintro e _ ⟨rfl, rfl⟩
  go_wp2_with fail
  refine (HQ.out _ (HE.out.below hb1)).mono ?_
  rintro e w3 ⟨rfl, b3⟩
  have hz3 := hz0.below b3 hsz1
  have hsz3 : w.heap.size < w3.heap.size := by have := b3.size; omega
  have hb3 := below_step hb1 b3
  clear hb1 b3 hz0 hsz1
  go_wp2_with fail
  refine (HR.out _).mono ?_
  rintro e _ ⟨rfl, rfl⟩
  go_wp2_with fail
  refine (HB.out _).mono ?_
  rintro e w4 ⟨rfl, b4⟩
  have hz4 := hz3.below b4 hsz3
  have hsz4 : w.heap.size < w4.heap.size := by have := b4.size; omega
  have hb4 := below_step hb3 b4
  clear hb3 b4 hz3 hsz3
  go_wp2_with fail
  have hd5 := zeroAt w4
  have hz5 := hz4.below ((Below.refl w4.heap.size w4).alloc (Nat.le_refl _) (.cells #[.string ⟨#[]⟩, .string ⟨#[]⟩, .string ⟨#[]⟩, .string ⟨#[]⟩, .bool false] 40)) hsz4
  have hb5 := hb4.alloc hb4.size (.cells #[.string ⟨#[]⟩, .string ⟨#[]⟩, .string ⟨#[]⟩, .string ⟨#[]⟩, .bool false] 40)
  obtain ⟨W5, hW5⟩ : ∃ W5, w4.alloc (.cells #[.string ⟨#[]⟩, .string ⟨#[]⟩, .string ⟨#[]⟩, .string ⟨#[]⟩, .bool false] 40) = W5 := ⟨_, rfl⟩
  have hsz5 : w4.heap.size < W5.heap.size := by rw [← hW5, World.size_alloc]; omega
  rw [hW5] at hd5 hz5 hb5 ⊢
  clear hW5 hz4 hb4
  obtain ⟨D, hD⟩ : ∃ D, w4.heap.size = D := ⟨_, rfl⟩
  rw [hD] at hd5 hsz5 hsz4 ⊢
  clear hD
  refine (HC.out _).mono ?_
  rintro e _ ⟨rfl, rfl⟩
  go_wp2_with fail
  refine (HT.out _).mono ?_
  rintro e w6 ⟨rfl, b6⟩
  have hd6 := hd5.below b6 hsz5
  have hz6 := hz5.below b6 (by omega)
  have hsz6 : D < w6.heap.size := by have := b6.size; omega
  have hb6 := below_step hb5 b6
  clear hb5 b6 hd5 hz5 hsz5
  have HZ6 := Lib.hid hz6
  have HD6 := Lib.hid hd6
  obtain ⟨c0, c1, c2, c3, c4, f0, f1, f2, f3, f4⟩ := hd6
  go_wp2_with fail
  clear c0 c1 c2 c3 c4 f0 f1 f2 f3 f4
  obtain ⟨W7, hW7⟩ : ∃ W7, World.setDef w6 D (.string ⟨#[]⟩) (.string ⟨#[]⟩) (.string ⟨#[]⟩) (.string T) (.bool true) = W7 := ⟨_, rfl⟩
  have hd7 := setDef_at HD6.out (.string ⟨#[]⟩) (.string ⟨#[]⟩) (.string ⟨#[]⟩) (.string T) (.bool true)
  have hz7 := setDef_other HZ6.out hsz4 (.string ⟨#[]⟩) (.string ⟨#[]⟩) (.string ⟨#[]⟩) (.string T) (.bool true)
  have hb7 := setDef_belowAt hb6 (Nat.le_of_lt hsz4) (.string ⟨#[]⟩) (.string ⟨#[]⟩) (.string ⟨#[]⟩) (.string T) (.bool true)
  have hsz7 := setDef_size w6 D (.string ⟨#[]⟩) (.string ⟨#[]⟩) (.string ⟨#[]⟩) (.string T) (.bool true)
  rw [hW7] at hd7 hz7 hb7 hsz7
  unfold World.setDef at hW7
  rw [hW7]
  clear hW7 HZ6 HD6 hb6
  refine (HN.out _ (HE.out.below hb7)).mono ?_
  rintro e w8 ⟨rfl, b8⟩
  have hd8 := hd7.below b8 (by omega)
  have hz8 := hz7.below b8 (by omega)
  have hb8 := below_step hb7 b8
  clear hd7 hz7 hb7 b8 hsz7 hsz6
  by_cases hT0 : 0 < T.size
  · have he := empty_no hT0
    have hne : T.data.toList ≠ [] := by intro h; rw [Lib.size_eq, h] at hT0; exact absurd hT0 (by simp)
    have he2 : (!T.toList.isEmpty) = true := by rw [he]; rfl
    cases may
    · have HL2 := Lib.hid (HL.out.trans (if_neg (by simp)))
      clear hne
      clear hd8
      obtain ⟨c0, c1, c2, c3, c4, f0, f1, f2, f3, f4⟩ := hz8
      go_wp2_with fail
      refine bodyPost_ret (v := .tuple #[.agg #[.string ⟨#[]⟩, .string ⟨#[]⟩, .string ⟨#[]⟩, .string ⟨#[]⟩, .bool false], .bool false]) (by simp [results, Tryd.results31, go_sem, c0, c1, c2, c3, c4, f0, f1, f2, f3, f4]) rfl ⟨?_, below_def hb8⟩
      exact ret_line (n := ⟨#[]⟩) (u := ⟨#[]⟩) (t := ⟨#[]⟩) (x := ⟨#[]⟩) HL2.out
    · have HL2 := Lib.hid (HL.out.trans (if_pos ⟨hne, rfl⟩))
      clear hne
      obtain ⟨c0, c1, c2, c3, c4, f0, f1, f2, f3, f4⟩ := hz8
      obtain ⟨d0, d1, d2, d3, d4, g0, g1, g2, g3, g4⟩ := hd8
      have hne1 : w.heap.size ≠ D := by omega
      have hne2 : D ≠ w.heap.size := by omega
      go_wp2_with fail
      refine bodyPost_ret (v := .tuple #[.agg #[.string F, .string ⟨#[]⟩, .string ⟨#[]⟩, .string T, .bool true], .bool true]) (by simp [results, Tryd.results31, go_sem, c0, c1, c2, c3, c4, f0, f1, f2, f3, f4, d0, d1, d2, d3, d4, g0, g1, g2, g3, g4, hne1, hne2]) rfl ⟨?_, ?_⟩
      · exact ret_line (n := F) (u := ⟨#[]⟩) (t := ⟨#[]⟩) (x := T) HL2.out
      · exact below_def (hb8.setCell (p := ⟨D, 0, none⟩) (by simp; omega) _)
  · have he := empty_yes (s := T) (by omega)
    have hnil : T.data.toList = [] := List.eq_nil_of_length_eq_zero (by rw [← Lib.size_eq]; omega)
    have he2 : (!T.toList.isEmpty) = false := by rw [he]; rfl
    have HL2 := Lib.hid (HL.out.trans (if_neg (by simp [hnil])))
    clear hnil
    clear hd8
    obtain ⟨c0, c1, c2, c3, c4, f0, f1, f2, f3, f4⟩ := hz8
    go_wp2_with fail
    refine bodyPost_ret (v := .tuple #[.agg #[.string ⟨#[]⟩, .string ⟨#[]⟩, .string ⟨#[]⟩, .string ⟨#[]⟩, .bool false], .bool false]) (by simp [results, Tryd.results31, go_sem, c0, c1, c2, c3, c4, f0, f1, f2, f3, f4]) rfl ⟨?_, below_def hb8⟩
    exact ret_line (n := ⟨#[]⟩) (u := ⟨#[]⟩) (t := ⟨#[]⟩) (x := ⟨#[]⟩) HL2.out

set_option maxHeartbeats 4000000 in
theorem line_link (s C N R R2 R3 U V F : ByteArray) (is may : Bool) (w : World) (hE : Env w) (hs : s.size ≤ 1000000000)
    (h1 : preAt 91 s.data.toList = (C.data.toList, true)) (hCz : C.size ≤ s.size) (h2 : cutAt 93 C.data.toList = (N.data.toList, R.data.toList, true))
    (h3 : preAt 58 R.data.toList = (R2.data.toList, true)) (g : Bool) (h4 : behindL R2.data.toList = (R3.data.toList, g)) (h5 : preAt 94 N.data.toList = (N.data.toList, false))
    (hNz : N.size ≤ s.size) (hRz : R3.size ≤ s.size) (h6 : linkL R3.data.toList = (U.data.toList, V.data.toList, is)) (h7 : nameL N.data.toList = (F.data.toList, may)) :
    Calls Tryd.prog 31 #[.string s] w fun e w' => e = .returned (.tuple #[(lineL s.data.toList).1.val, .bool (lineL s.data.toList).2]) ∧ Below w.heap.size w w' := by
  have HL := Lib.hid (show lineL s.data.toList = if is = true ∧ may = true then (⟨F.data.toList, U.data.toList, V.data.toList, [], false⟩, true) else (DefL.none, false) by
    unfold lineL
    rw [h1]; simp only
    rw [h2]; simp only
    rw [h3]; simp only
    rw [if_neg (by simp), if_pos (by simp)]
    rw [h4]; simp only
    unfold lineOf
    rw [h5]; simp only
    rw [h6, h7]; simp only
    rw [if_neg (by simp)])
  have hp := fun W => pre_any 91 s W
  rw [h1] at hp
  have hq := fun W hW => cut_any 93 C W hW (by omega)
  rw [h2] at hq
  have hr := fun W => pre_any 58 R W
  rw [h3] at hr
  have hb := fun W => behind_any R2 W
  rw [h4] at hb
  have hc := fun W => pre_any 94 N W
  rw [h5] at hc
  have ht := fun W hW => link_any R3 W hW (by omega)
  rw [h6] at ht
  have hn := fun W hW => name_any N W hW (by omega)
  rw [h7] at hn
  simp only [Lib.mk_data, defV] at hp hq hr hb hc ht hn
  have HE := Lib.hid hE
  have HP := Lib.hid hp
  have HQ := Lib.hid hq
  have HR := Lib.hid hr
  have HB := Lib.hid hb
  have HC := Lib.hid hc
  have HT := Lib.hid ht
  have HN := Lib.hid hn
  clear hp hq hr hb hc ht hn h1 h2 h3 h4 h5 h6 h7 hE
  have hb1 : Below w.heap.size w (w.alloc (.cells #[.string ⟨#[]⟩, .string ⟨#[]⟩, .string ⟨#[]⟩, .string ⟨#[]⟩, .bool false] 40)) := (Below.refl _ w).alloc (Nat.le_refl _) _
  have hz0 := zeroAt w
  go_enter Tryd.func31, Tryd.ntmps31
  go_wp2_with fail
  obtain ⟨W1, hW1⟩ : ∃ W1, w.alloc (.cells #[.string ⟨#[]⟩, .string ⟨#[]⟩, .string ⟨#[]⟩, .string ⟨#[]⟩, .bool false] 40) = W1 := ⟨_, rfl⟩
  have hsz1 : w.heap.size < W1.heap.size := by rw [← hW1, World.size_alloc]; omega
  rw [hW1] at hz0 hb1 ⊢
  clear hW1
  refine (HP.out _).mono ?_
  rintro e _ ⟨rfl, rfl⟩
  go_wp2_with fail
  refine (HQ.out _ (HE.out.below hb1)).mono ?_
  rintro e w3 ⟨rfl, b3⟩
  have hz3 := hz0.below b3 hsz1
  have hsz3 : w.heap.size < w3.heap.size := by have := b3.size; omega
  have hb3 := below_step hb1 b3
  clear hb1 b3 hz0 hsz1
  go_wp2_with fail
  refine (HR.out _).mono ?_
  rintro e _ ⟨rfl, rfl⟩
  go_wp2_with fail
  refine (HB.out _).mono ?_
  rintro e w4 ⟨rfl, b4⟩
  have hz4 := hz3.below b4 hsz3
  have hsz4 : w.heap.size < w4.heap.size := by have := b4.size; omega
  have hb4 := below_step hb3 b4
  clear hb3 b4 hz3 hsz3
  go_wp2_with fail
  have hd5 := zeroAt w4
  have hz5 := hz4.below ((Below.refl w4.heap.size w4).alloc (Nat.le_refl _) (.cells #[.string ⟨#[]⟩, .string ⟨#[]⟩, .string ⟨#[]⟩, .string ⟨#[]⟩, .bool false] 40)) hsz4
  have hb5 := hb4.alloc hb4.size (.cells #[.string ⟨#[]⟩, .string ⟨#[]⟩, .string ⟨#[]⟩, .string ⟨#[]⟩, .bool false] 40)
  obtain ⟨W5, hW5⟩ : ∃ W5, w4.alloc (.cells #[.string ⟨#[]⟩, .string ⟨#[]⟩, .string ⟨#[]⟩, .string ⟨#[]⟩, .bool false] 40) = W5 := ⟨_, rfl⟩
  have hsz5 : w4.heap.size < W5.heap.size := by rw [← hW5, World.size_alloc]; omega
  rw [hW5] at hd5 hz5 hb5 ⊢
  clear hW5 hz4 hb4
  obtain ⟨D, hD⟩ : ∃ D, w4.heap.size = D := ⟨_, rfl⟩
  rw [hD] at hd5 hsz5 hsz4 ⊢
  clear hD
  refine (HC.out _).mono ?_
  rintro e _ ⟨rfl, rfl⟩
  go_wp2_with fail
  refine (HT.out _ (HE.out.below hb5)).mono ?_
  rintro e w6 ⟨rfl, b6⟩
  have hd6 := hd5.below b6 hsz5
  have hz6 := hz5.below b6 (by omega)
  have hsz6 : D < w6.heap.size := by have := b6.size; omega
  have hb6 := below_step hb5 b6
  clear hb5 b6 hd5 hz5 hsz5
  have HZ6 := Lib.hid hz6
  have HD6 := Lib.hid hd6
  obtain ⟨c0, c1, c2, c3, c4, f0, f1, f2, f3, f4⟩ := hd6
  go_wp2_with fail
  clear c0 c1 c2 c3 c4 f0 f1 f2 f3 f4
  obtain ⟨W7, hW7⟩ : ∃ W7, World.setDef w6 D (.string ⟨#[]⟩) (.string U) (.string V) (.string ⟨#[]⟩) (.bool false) = W7 := ⟨_, rfl⟩
  have hd7 := setDef_at HD6.out (.string ⟨#[]⟩) (.string U) (.string V) (.string ⟨#[]⟩) (.bool false)
  have hz7 := setDef_other HZ6.out hsz4 (.string ⟨#[]⟩) (.string U) (.string V) (.string ⟨#[]⟩) (.bool false)
  have hb7 := setDef_belowAt hb6 (Nat.le_of_lt hsz4) (.string ⟨#[]⟩) (.string U) (.string V) (.string ⟨#[]⟩) (.bool false)
  have hsz7 := setDef_size w6 D (.string ⟨#[]⟩) (.string U) (.string V) (.string ⟨#[]⟩) (.bool false)
  rw [hW7] at hd7 hz7 hb7 hsz7
  unfold World.setDef at hW7
  rw [hW7]
  clear hW7 HZ6 HD6 hb6
  refine (HN.out _ (HE.out.below hb7)).mono ?_
  rintro e w8 ⟨rfl, b8⟩
  have hd8 := hd7.below b8 (by omega)
  have hz8 := hz7.below b8 (by omega)
  have hb8 := below_step hb7 b8
  clear hd7 hz7 hb7 b8 hsz7 hsz6
  cases is
  · have HL2 := Lib.hid (HL.out.trans (if_neg (by simp)))
    clear hd8
    obtain ⟨c0, c1, c2, c3, c4, f0, f1, f2, f3, f4⟩ := hz8
    go_wp2_with fail
    refine bodyPost_ret (v := .tuple #[.agg #[.string ⟨#[]⟩, .string ⟨#[]⟩, .string ⟨#[]⟩, .string ⟨#[]⟩, .bool false], .bool false]) (by simp [results, Tryd.results31, go_sem, c0, c1, c2, c3, c4, f0, f1, f2, f3, f4]) rfl ⟨?_, below_def hb8⟩
    exact ret_line (n := ⟨#[]⟩) (u := ⟨#[]⟩) (t := ⟨#[]⟩) (x := ⟨#[]⟩) HL2.out
  · cases may
    · have HL2 := Lib.hid (HL.out.trans (if_neg (by simp)))
      clear hd8
      obtain ⟨c0, c1, c2, c3, c4, f0, f1, f2, f3, f4⟩ := hz8
      go_wp2_with fail
      refine bodyPost_ret (v := .tuple #[.agg #[.string ⟨#[]⟩, .string ⟨#[]⟩, .string ⟨#[]⟩, .string ⟨#[]⟩, .bool false], .bool false]) (by simp [results, Tryd.results31, go_sem, c0, c1, c2, c3, c4, f0, f1, f2, f3, f4]) rfl ⟨?_, below_def hb8⟩
      exact ret_line (n := ⟨#[]⟩) (u := ⟨#[]⟩) (t := ⟨#[]⟩) (x := ⟨#[]⟩) HL2.out
    · have HL2 := Lib.hid (HL.out.trans (if_pos ⟨rfl, rfl⟩))
      obtain ⟨c0, c1, c2, c3, c4, f0, f1, f2, f3, f4⟩ := hz8
      obtain ⟨d0, d1, d2, d3, d4, g0, g1, g2, g3, g4⟩ := hd8
      have hne1 : w.heap.size ≠ D := by omega
      have hne2 : D ≠ w.heap.size := by omega
      go_wp2_with fail
      refine bodyPost_ret (v := .tuple #[.agg #[.string F, .string U, .string V, .string ⟨#[]⟩, .bool false], .bool true]) (by simp [results, Tryd.results31, go_sem, c0, c1, c2, c3, c4, f0, f1, f2, f3, f4, d0, d1, d2, d3, d4, g0, g1, g2, g3, g4, hne1, hne2]) rfl ⟨?_, ?_⟩
      · exact ret_line (n := F) (u := U) (t := V) (x := ⟨#[]⟩) HL2.out
      · exact below_def (hb8.setCell (p := ⟨D, 0, none⟩) (by simp; omega) _)

theorem cut_len (c : UInt8) (l : List UInt8) : (cutAt c l).1.length ≤ l.length ∧ (cutAt c l).2.1.length ≤ l.length := by
  unfold cutAt Lib.cut
  split
  · simp only [List.length_take, List.length_drop]; omega
  · simp
theorem preAt_len (c : UInt8) (l : List UInt8) : (preAt c l).1.length ≤ l.length := by
  unfold preAt Lib.trimPrefix
  simp only
  split <;> simp

theorem ba_at (l : List UInt8) : ∃ X : ByteArray, X.data.toList = l ∧ X.size = l.length := ⟨⟨l.toArray⟩, rfl, by rw [Lib.size_eq]⟩

theorem preAt_false {c : UInt8} {l : List UInt8} (h : (preAt c l).2 = false) : (preAt c l).1 = l := by
  unfold preAt at h ⊢
  simp only at h ⊢
  unfold Lib.trimPrefix
  rw [h, if_neg (by simp)]

/-- THE DEFINITION THAT A LINE IS. -/
theorem line_any (s : ByteArray) (w : World) (hE : Env w) (hs : s.size ≤ 1000000000) :
    Calls Tryd.prog 31 #[.string s] w fun e w' => e = .returned (.tuple #[(lineL s.data.toList).1.val, .bool (lineL s.data.toList).2]) ∧ Below w.heap.size w w' := by
  cases hb : (preAt 91 s.data.toList).2 with
  | false => exact line_none s w hE hs hb
  | true =>
    obtain ⟨C, hC, hCz⟩ := ba_at (preAt 91 s.data.toList).1
    have hCl := preAt_len 91 s.data.toList
    rw [← hCz, ← Lib.size_eq] at hCl
    obtain ⟨N, hN, hNz⟩ := ba_at (cutAt 93 C.data.toList).1
    obtain ⟨R, hR, hRz⟩ := ba_at (cutAt 93 C.data.toList).2.1
    have hcl := cut_len 93 C.data.toList
    rw [← hNz, ← hRz, ← Lib.size_eq] at hcl
    obtain ⟨R2, hR2, hR2z⟩ := ba_at (preAt 58 R.data.toList).1
    have hR2l := preAt_len 58 R.data.toList
    rw [← hR2z, ← Lib.size_eq] at hR2l
    have e1 : preAt 91 s.data.toList = (C.data.toList, true) := by rw [hC, ← hb]
    have e2 : cutAt 93 C.data.toList = (N.data.toList, R.data.toList, (cutAt 93 C.data.toList).2.2) := by rw [hN, hR]
    have e3 : preAt 58 R.data.toList = (R2.data.toList, (preAt 58 R.data.toList).2) := by rw [hR2]
    cases h2 : (cutAt 93 C.data.toList).2.2 with
    | false => exact line_none2 s C N R R2 false _ w hE hs e1 hCl (by rw [← h2]; exact e2) e3 (Or.inl rfl)
    | true =>
      cases h3 : (preAt 58 R.data.toList).2 with
      | false => exact line_none2 s C N R R2 true false w hE hs e1 hCl (by rw [← h2]; exact e2) (by rw [← h3]; exact e3) (Or.inr ⟨rfl, rfl⟩)
      | true =>
        rw [h2] at e2
        rw [h3] at e3
        obtain ⟨R3, hR3, hR3z⟩ := ba_at (behindL R2.data.toList).1
        have hR3l := behind_le R2.data.toList
        rw [← hR3z, ← Lib.size_eq] at hR3l
        have e4 : behindL R2.data.toList = (R3.data.toList, (behindL R2.data.toList).2) := by rw [hR3]
        cases h5 : (preAt 94 N.data.toList).2 with
        | true =>
          obtain ⟨X, hX, hXz⟩ := ba_at (preAt 94 N.data.toList).1
          have hXl := preAt_len 94 N.data.toList
          rw [← hXz, ← Lib.size_eq] at hXl
          obtain ⟨T, hT, _⟩ := ba_at (plainL R3.data.toList)
          obtain ⟨F, hF, _⟩ := ba_at (nameL X.data.toList).1
          exact line_note s C N X R R2 R3 T F (nameL X.data.toList).2 w hE hs e1 hCl e2 e3 _ e4 (by rw [hX, ← h5]) (by omega) (by omega) hT.symm (by rw [hF])
        | false =>
          have e5 := preAt_false h5
          obtain ⟨U, hU, _⟩ := ba_at (linkL R3.data.toList).1
          obtain ⟨V, hV, _⟩ := ba_at (linkL R3.data.toList).2.1
          obtain ⟨F, hF, _⟩ := ba_at (nameL N.data.toList).1
          exact line_link s C N R R2 R3 U V F (linkL R3.data.toList).2.2 (nameL N.data.toList).2 w hE hs e1 hCl e2 e3 _ e4 (Prod.ext e5 h5) (by omega) (by omega) (by rw [hU, hV]) (by rw [hF])

end Go.Proofs.YtmllkffdejojbaaDoor
