/-
  define.link: the target and the title of a definition.
-/
import Derived.Test.YtmllkffdejojbaaDoorName
import Derived.Test.YtmllkffdejojbaaDoorInside
namespace Go.Proofs.YtmllkffdejojbaaDoor
open Go.RowKit
set_option maxRecDepth 100000
set_option linter.unusedVariables false
set_option linter.unusedSimpArgs false

/-- A definition, as the model keeps it. -/
def defV (n u t x : List UInt8) (b : Bool) : Value := .agg #[.string ⟨n.toArray⟩, .string ⟨u.toArray⟩, .string ⟨t.toArray⟩, .string ⟨x.toArray⟩, .bool b]

def linkL (l : List UInt8) : List UInt8 × List UInt8 × Bool :=
  if (dest l).2.2 = false then ([], [], false)
  else if (behindL (l.drop (dest l).2.1)).1 = [] then ((dest l).1, [], true)
  else if (title (behindL (l.drop (dest l).2.1)).1).2.2 = true ∧ (behindL (l.drop (dest l).2.1)).2 = true ∧ plainL ((behindL (l.drop (dest l).2.1)).1.drop (title (behindL (l.drop (dest l).2.1)).1).2.1) = [] then ((dest l).1, (title (behindL (l.drop (dest l).2.1)).1).1, true)
  else ([], [], false)

theorem ret_def {p : List UInt8 × List UInt8 × Bool} {u t : ByteArray} {b : Bool} (h : p = (u.data.toList, t.data.toList, b)) : Ending.returned (.tuple #[.agg #[.string ⟨#[]⟩, .string u, .string t, .string ⟨#[]⟩, .bool false], .bool b]) = .returned (.tuple #[defV [] p.1 p.2.1 [] false, .bool p.2.2]) := by
  rw [h]; unfold defV; rw [Lib.mk_data, Lib.mk_data]

/-- The cell in which a definition is handed back, still as it was laid. -/
theorem zero_def {w w2 : World} {n : Nat} (hb : Below n (w.alloc (.cells #[.string ⟨#[]⟩, .string ⟨#[]⟩, .string ⟨#[]⟩, .string ⟨#[]⟩, .bool false] 40)) w2) (hn : n = w.heap.size + 1 := by simp) :
    w2.cell? ⟨w.heap.size, 0, none⟩ = some (.string ⟨#[]⟩) ∧ w2.cell? ⟨w.heap.size, 1, none⟩ = some (.string ⟨#[]⟩) ∧ w2.cell? ⟨w.heap.size, 2, none⟩ = some (.string ⟨#[]⟩) ∧ w2.cell? ⟨w.heap.size, 3, none⟩ = some (.string ⟨#[]⟩) ∧ w2.cell? ⟨w.heap.size, 4, none⟩ = some (.bool false) ∧
    w2.frozen? ⟨w.heap.size, 0, none⟩ = false ∧ w2.frozen? ⟨w.heap.size, 1, none⟩ = false ∧ w2.frozen? ⟨w.heap.size, 2, none⟩ = false ∧ w2.frozen? ⟨w.heap.size, 3, none⟩ = false ∧ w2.frozen? ⟨w.heap.size, 4, none⟩ = false ∧ w.heap.size < w2.heap.size := by
  subst hn
  refine ⟨(hb.cell (p := ⟨w.heap.size, 0, none⟩) (by simp)).trans (by simp), (hb.cell (p := ⟨w.heap.size, 1, none⟩) (by simp)).trans (by simp), (hb.cell (p := ⟨w.heap.size, 2, none⟩) (by simp)).trans (by simp), (hb.cell (p := ⟨w.heap.size, 3, none⟩) (by simp)).trans (by simp), (hb.cell (p := ⟨w.heap.size, 4, none⟩) (by simp)).trans (by simp), (hb.frozen (p := ⟨w.heap.size, 0, none⟩) (by simp)).trans (by simp), (hb.frozen (p := ⟨w.heap.size, 1, none⟩) (by simp)).trans (by simp), (hb.frozen (p := ⟨w.heap.size, 2, none⟩) (by simp)).trans (by simp), (hb.frozen (p := ⟨w.heap.size, 3, none⟩) (by simp)).trans (by simp), (hb.frozen (p := ⟨w.heap.size, 4, none⟩) (by simp)).trans (by simp), ?_⟩
  have := hb.size; simp at this; omega

theorem below_def {w w2 : World} {u0 u1 u2 u3 u4 : Value} (h : Below w.heap.size w w2) : Below w.heap.size w (((((w2.setCell ⟨w.heap.size, 0, none⟩ u0).setCell ⟨w.heap.size, 1, none⟩ u1).setCell ⟨w.heap.size, 2, none⟩ u2).setCell ⟨w.heap.size, 3, none⟩ u3).setCell ⟨w.heap.size, 4, none⟩ u4) :=
  ((((h.setCell (by simp) _).setCell (by simp) _).setCell (by simp) _).setCell (by simp) _).setCell (by simp) _

theorem behind_le (l : List UInt8) : (behindL l).1.length ≤ l.length := (List.dropWhile_sublist _).length_le

set_option maxHeartbeats 4000000 in
theorem link_any (s : ByteArray) (w : World) (hE : Env w) (hs : s.size ≤ 1000000000) :
    Calls Tryd.prog 59 #[.string s] w fun e w' => e = .returned (.tuple #[defV [] (linkL s.data.toList).1 (linkL s.data.toList).2.1 [] false, .bool (linkL s.data.toList).2.2]) ∧ Below w.heap.size w w' := by
  have hle := dest_le s.data.toList
  rw [← Lib.size_eq] at hle
  have hd := fun W hW => dest_any s W hW hs
  have HL : ∃ x, linkL s.data.toList = x := ⟨_, rfl⟩
  obtain ⟨L, HL⟩ := HL
  have HLD := Lib.hid HL
  have HL2 := HL
  unfold linkL at HL2
  obtain ⟨d1, d2, d3, hdd⟩ : ∃ a b c, dest s.data.toList = (a, b, c) := ⟨_, _, _, rfl⟩
  rw [hdd] at hd hle HL2
  simp only at hd hle HL2
  obtain ⟨D, hD⟩ : ∃ D : ByteArray, D = ⟨d1.toArray⟩ := ⟨_, rfl⟩
  have hDl : d1 = D.data.toList := by rw [hD]
  rw [← hD] at hd
  rw [hDl] at HL2
  have HE := Lib.hid hE
  have HD := Lib.hid hd
  have HQ := Lib.hid HL2
  clear hE hd hdd HL HL2 hD hDl
  rw [HLD.out]
  clear HLD
  have hb1 : Below w.heap.size w (w.alloc (.cells #[.string ⟨#[]⟩, .string ⟨#[]⟩, .string ⟨#[]⟩, .string ⟨#[]⟩, .bool false] 40)) := (Below.refl _ w).alloc (Nat.le_refl _) _
  cases d3
  · go_enter Tryd.func59, Tryd.ntmps59
    go_wp2_with fail
    refine (HD.out _ (HE.out.below hb1)).mono ?_
    rintro e w2 ⟨rfl, b2⟩
    obtain ⟨c0, c1, c2, c3, c4, f0, f1, f2, f3, f4, hsz⟩ := zero_def b2
    have hb2 := below_step hb1 b2
    clear hb1 b2
    go_wp2_with fail
    refine bodyPost_ret (v := .tuple #[.agg #[.string ⟨#[]⟩, .string ⟨#[]⟩, .string ⟨#[]⟩, .string ⟨#[]⟩, .bool false], .bool false]) (by simp [results, Tryd.results59, go_sem, c0, c1, c2, c3, c4, f0, f1, f2, f3, f4]) rfl ⟨?_, below_def hb2⟩
    exact ret_def (t := ⟨#[]⟩) (u := ⟨#[]⟩) HQ.out.symm
  · obtain ⟨S, hS⟩ : ∃ S : ByteArray, s.extract d2 s.size = S := ⟨_, rfl⟩
    have hSl : S.data.toList = s.data.toList.drop d2 := by rw [← hS, Lib.extract_to_end]
    have hSz : S.size ≤ s.size := by rw [Lib.size_eq, hSl, Lib.size_eq]; simp
    have hbh := fun W => behind_any S W
    have hxl := behind_le (s.data.toList.drop d2)
    obtain ⟨x, g, hx⟩ : ∃ a b, behindL (s.data.toList.drop d2) = (a, b) := ⟨_, _, rfl⟩
    rw [hSl, hx] at hbh
    have hq := HQ.out
    rw [hx] at hq hxl
    simp only [Bool.true_eq_false, if_false] at hbh hq hxl
    obtain ⟨X, hX⟩ : ∃ X : ByteArray, X = ⟨x.toArray⟩ := ⟨_, rfl⟩
    have hXl : x = X.data.toList := by rw [hX]
    rw [← hX] at hbh
    rw [hXl] at hq hxl
    rw [← hSl, ← Lib.size_eq, ← Lib.size_eq] at hxl
    have HB := Lib.hid hbh
    clear hbh hx hX hXl hSl HQ
    by_cases hX0 : 0 < X.size
    · have he := empty_no hX0
      have hne : X.data.toList ≠ [] := by intro h; rw [Lib.size_eq, h] at hX0; exact absurd hX0 (by simp)
      rw [if_neg hne] at hq
      have ht := fun W hW => title_any X W hW (by omega)
      have htl := title_le X.data.toList
      obtain ⟨t1, n, is, htt⟩ : ∃ a b c, title X.data.toList = (a, b, c) := ⟨_, _, _, rfl⟩
      rw [htt] at ht hq htl
      simp only at ht hq htl
      rw [← Lib.size_eq] at htl
      obtain ⟨T, hT⟩ : ∃ T : ByteArray, T = ⟨t1.toArray⟩ := ⟨_, rfl⟩
      have hTl : t1 = T.data.toList := by rw [hT]
      rw [← hT] at ht
      rw [hTl] at hq
      have HT := Lib.hid ht
      clear ht htt hT hTl hne
      cases is
      · rw [if_neg (by simp)] at hq
        have HQ := Lib.hid hq
        clear hq
        go_enter Tryd.func59, Tryd.ntmps59
        go_wp2_with fail
        refine (HD.out _ (HE.out.below hb1)).mono ?_
        rintro e w2 ⟨rfl, b2⟩
        have hb2 := below_step hb1 b2
        go_wp2_with fail
        refine (HB.out _).mono ?_
        rintro e w3 ⟨rfl, b3⟩
        have hb3 := below_step hb2 b3
        go_wp2_with fail
        refine (HT.out _ (HE.out.below hb3)).mono ?_
        rintro e w4 ⟨rfl, b4⟩
        have hb4 := below_step hb3 b4
        obtain ⟨c0, c1, c2, c3, c4, f0, f1, f2, f3, f4, hsz⟩ := zero_def (below_step (below_step b2 b3) b4)
        clear hb1 hb2 hb3 b2 b3 b4
        go_wp2_with fail
        refine bodyPost_ret (v := .tuple #[.agg #[.string ⟨#[]⟩, .string ⟨#[]⟩, .string ⟨#[]⟩, .string ⟨#[]⟩, .bool false], .bool false]) (by simp [results, Tryd.results59, go_sem, c0, c1, c2, c3, c4, f0, f1, f2, f3, f4]) rfl ⟨?_, below_def hb4⟩
        exact ret_def (t := ⟨#[]⟩) (u := ⟨#[]⟩) HQ.out.symm
      · cases g
        · rw [if_neg (by simp)] at hq
          have HQ := Lib.hid hq
          clear hq
          go_enter Tryd.func59, Tryd.ntmps59
          go_wp2_with fail
          refine (HD.out _ (HE.out.below hb1)).mono ?_
          rintro e w2 ⟨rfl, b2⟩
          have hb2 := below_step hb1 b2
          go_wp2_with fail
          refine (HB.out _).mono ?_
          rintro e w3 ⟨rfl, b3⟩
          have hb3 := below_step hb2 b3
          go_wp2_with fail
          refine (HT.out _ (HE.out.below hb3)).mono ?_
          rintro e w4 ⟨rfl, b4⟩
          have hb4 := below_step hb3 b4
          obtain ⟨c0, c1, c2, c3, c4, f0, f1, f2, f3, f4, hsz⟩ := zero_def (below_step (below_step b2 b3) b4)
          clear hb1 hb2 hb3 b2 b3 b4
          go_wp2_with fail
          refine bodyPost_ret (v := .tuple #[.agg #[.string ⟨#[]⟩, .string ⟨#[]⟩, .string ⟨#[]⟩, .string ⟨#[]⟩, .bool false], .bool false]) (by simp [results, Tryd.results59, go_sem, c0, c1, c2, c3, c4, f0, f1, f2, f3, f4]) rfl ⟨?_, below_def hb4⟩
          exact ret_def (t := ⟨#[]⟩) (u := ⟨#[]⟩) HQ.out.symm
        · obtain ⟨Z, hZ⟩ : ∃ Z : ByteArray, X.extract n X.size = Z := ⟨_, rfl⟩
          have hZl : Z.data.toList = X.data.toList.drop n := by rw [← hZ, Lib.extract_to_end]
          have hZz : Z.size ≤ X.size := by rw [Lib.size_eq, hZl, Lib.size_eq]; simp
          have hp := fun W => plain_any Z W (by omega)
          obtain ⟨P, hP⟩ : ∃ P : ByteArray, P = ⟨(plainL Z.data.toList).toArray⟩ := ⟨_, rfl⟩
          have hPl : plainL Z.data.toList = P.data.toList := by rw [hP]
          rw [← hP] at hp
          rw [← hZl, hPl] at hq
          have HP := Lib.hid hp
          clear hp hP hPl hZl
          by_cases hP0 : 0 < P.size
          · have he2 := empty_no hP0
            have hne : P.data.toList ≠ [] := by intro h; rw [Lib.size_eq, h] at hP0; exact absurd hP0 (by simp)
            rw [if_neg (by rintro ⟨_, _, h⟩; exact hne h)] at hq
            have HQ := Lib.hid hq
            clear hq hne
            go_enter Tryd.func59, Tryd.ntmps59
            go_wp2_with fail
            refine (HD.out _ (HE.out.below hb1)).mono ?_
            rintro e w2 ⟨rfl, b2⟩
            have hb2 := below_step hb1 b2
            go_wp2_with fail
            refine (HB.out _).mono ?_
            rintro e w3 ⟨rfl, b3⟩
            have hb3 := below_step hb2 b3
            go_wp2_with fail
            refine (HT.out _ (HE.out.below hb3)).mono ?_
            rintro e w4 ⟨rfl, b4⟩
            have hb4 := below_step hb3 b4
            go_wp2_with fail
            refine (HP.out _).mono ?_
            rintro e w5 ⟨rfl, b5⟩
            have hb5 := below_step hb4 b5
            obtain ⟨c0, c1, c2, c3, c4, f0, f1, f2, f3, f4, hsz⟩ := zero_def (below_step (below_step (below_step b2 b3) b4) b5)
            clear hb1 hb2 hb3 hb4 b2 b3 b4 b5
            go_wp2_with fail
            refine bodyPost_ret (v := .tuple #[.agg #[.string ⟨#[]⟩, .string ⟨#[]⟩, .string ⟨#[]⟩, .string ⟨#[]⟩, .bool false], .bool false]) (by simp [results, Tryd.results59, go_sem, c0, c1, c2, c3, c4, f0, f1, f2, f3, f4]) rfl ⟨?_, below_def hb5⟩
            exact ret_def (t := ⟨#[]⟩) (u := ⟨#[]⟩) HQ.out.symm
          · have he2 := empty_yes (s := P) (by omega)
            have hnil : P.data.toList = [] := List.eq_nil_of_length_eq_zero (by rw [← Lib.size_eq]; omega)
            rw [if_pos ⟨rfl, rfl, hnil⟩] at hq
            have HQ := Lib.hid hq
            clear hq hnil
            go_enter Tryd.func59, Tryd.ntmps59
            go_wp2_with fail
            refine (HD.out _ (HE.out.below hb1)).mono ?_
            rintro e w2 ⟨rfl, b2⟩
            have hb2 := below_step hb1 b2
            go_wp2_with fail
            refine (HB.out _).mono ?_
            rintro e w3 ⟨rfl, b3⟩
            have hb3 := below_step hb2 b3
            go_wp2_with fail
            refine (HT.out _ (HE.out.below hb3)).mono ?_
            rintro e w4 ⟨rfl, b4⟩
            have hb4 := below_step hb3 b4
            go_wp2_with fail
            refine (HP.out _).mono ?_
            rintro e w5 ⟨rfl, b5⟩
            have hb5 := below_step hb4 b5
            obtain ⟨c0, c1, c2, c3, c4, f0, f1, f2, f3, f4, hsz⟩ := zero_def (below_step (below_step (below_step b2 b3) b4) b5)
            clear hb1 hb2 hb3 hb4 b2 b3 b4 b5
            go_wp2_with fail
            refine bodyPost_ret (v := .tuple #[.agg #[.string ⟨#[]⟩, .string D, .string T, .string ⟨#[]⟩, .bool false], .bool true]) (by simp [results, Tryd.results59, go_sem, c0, c1, c2, c3, c4, f0, f1, f2, f3, f4]) rfl ⟨?_, below_def hb5⟩
            exact ret_def HQ.out.symm
    · have he := empty_yes (s := X) (by omega)
      have hnil : X.data.toList = [] := List.eq_nil_of_length_eq_zero (by rw [← Lib.size_eq]; omega)
      rw [if_pos hnil] at hq
      have HQ := Lib.hid hq
      clear hq hnil
      go_enter Tryd.func59, Tryd.ntmps59
      go_wp2_with fail
      refine (HD.out _ (HE.out.below hb1)).mono ?_
      rintro e w2 ⟨rfl, b2⟩
      have hb2 := below_step hb1 b2
      go_wp2_with fail
      refine (HB.out _).mono ?_
      rintro e w3 ⟨rfl, b3⟩
      have hb3 := below_step hb2 b3
      obtain ⟨c0, c1, c2, c3, c4, f0, f1, f2, f3, f4, hsz⟩ := zero_def (below_step b2 b3)
      clear hb1 hb2 b2 b3
      go_wp2_with fail
      refine bodyPost_ret (v := .tuple #[.agg #[.string ⟨#[]⟩, .string D, .string ⟨#[]⟩, .string ⟨#[]⟩, .bool false], .bool true]) (by simp [results, Tryd.results59, go_sem, c0, c1, c2, c3, c4, f0, f1, f2, f3, f4]) rfl ⟨?_, below_def hb3⟩
      exact ret_def (t := ⟨#[]⟩) HQ.out.symm

end Go.Proofs.YtmllkffdejojbaaDoor
