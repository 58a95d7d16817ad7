/-
  target.Unescape: a text without its escapes.
-/
import Derived.Test.YtmllkffdejojbaaDoorGrow
import Derived.Test.YtmllkffdejojbaaDoorBld
namespace Go.Proofs.YtmllkffdejojbaaDoor
open Go.RowKit
set_option maxRecDepth 100000
set_option linter.unusedVariables false
set_option linter.unusedSimpArgs false

theorem unesc_sign (f : Nat) (d : UInt8) (l : List UInt8) (h : asciiP d = true) : unescF (f + 1) (92 :: d :: l) = d :: unescF f l := by
  conv => lhs; unfold unescF
  rw [if_pos ⟨rfl, by simp [h]⟩]
  rfl
theorem unesc_slash (f : Nat) (l : List UInt8) (h : ∀ d r, l = d :: r → asciiP d = false) : unescF (f + 1) (92 :: l) = 92 :: unescF f l := by
  conv => lhs; unfold unescF
  rw [if_neg, entAt_other _ _ (by decide), if_neg (by simp)]
  rintro ⟨_, h2⟩
  cases l with
  | nil => simp at h2
  | cons d r => simp [h d r rfl] at h2
theorem unesc_ent (f : Nat) (c : UInt8) (l : List UInt8) (hc : c ≠ 92) (h : 0 < (entAt (c :: l)).2) : unescF (f + 1) (c :: l) = (entAt (c :: l)).1 ++ unescF f ((c :: l).drop (entAt (c :: l)).2) := by
  conv => lhs; unfold unescF
  rw [if_neg (fun h => hc h.1), if_pos h]
theorem unesc_self (f : Nat) (c : UInt8) (l : List UInt8) (hc : c ≠ 92) (h : ¬ 0 < (entAt (c :: l)).2) : unescF (f + 1) (c :: l) = c :: unescF f l := by
  conv => lhs; unfold unescF
  rw [if_neg (fun h => hc h.1), if_neg h]
theorem unesc_end (f : Nat) : unescF f [] = [] := by cases f <;> rfl

def UnRel (s : ByteArray) (w : World) (i : Nat) (wr : World) : Prop := ∃ (f : Nat) (acc : List UInt8), Lib.IsBuilderF 62 5 w.heap.size w.heap.size (Lib.byteCells acc) wr ∧ Below w.heap.size w wr ∧ acc ++ unescF f (s.data.toList.drop i) = unesc s.data.toList ∧ s.size ≤ i + f ∧ acc.length ≤ 4 * i

theorem UnRel.step {s : ByteArray} {w wr w1 : World} {i f n : Nat} {acc x : List UInt8} (hB : Below w.heap.size w wr) (hacc : acc ++ unescF (f + 1) (s.data.toList.drop i) = unesc s.data.toList) (hf : s.size ≤ i + (f + 1)) (hl : acc.length ≤ 4 * i)
    (hu : unescF (f + 1) (s.data.toList.drop i) = x ++ unescF f (s.data.toList.drop (i + n))) (hn : 1 ≤ n) (hx : x.length ≤ 4)
    (hI : Lib.IsBuilderF 62 5 w.heap.size w.heap.size (Lib.byteCells (acc ++ x)) w1) (hb1 : Below w.heap.size w w1) : UnRel s w (i + n) w1 :=
  ⟨f, acc ++ x, hI, hb1, by rw [List.append_assoc, ← hu]; exact hacc, by omega, by simp only [List.length_append]; omega⟩

set_option maxHeartbeats 4000000 in
theorem unesc_any (s : ByteArray) (w : World) (hE : Env w) (hz : s.size ≤ 1000000000) :
    Calls Tryd.prog 27 #[.string s] w fun e w' => e = .returned (.string ⟨(unesc s.data.toList).toArray⟩) ∧ Below w.heap.size w w' := by
  have HE := Lib.hid hE
  clear hE
  go_enter Tryd.func27, Tryd.ntmps27
  go_wp2_with fail
  go_loopw [4] (fun u4 wr => ∃ i : Nat, i ≤ 3000000000 ∧ u4 = .int .i64 i ∧ UnRel s w i wr) (fun u4 _ => s.size - (intOf u4).toNat)
  case atStart => exact ⟨0, by omega, rfl, s.size, [], Lib.IsBuilderF.of (Lib.fresh_isBuilder 62 5 w), (Below.refl _ _).alloc (Nat.le_refl _) _, by unfold unesc; rw [← Lib.size_eq]; rfl, by omega, by simp⟩
  case round =>
    obtain ⟨i, hi9, rfl, f, acc, hI, hB, hacc, hf, hal⟩ := hrel
    by_cases hlt : i < s.size
    · obtain ⟨f, rfl⟩ : ∃ g, f = g + 1 := ⟨f - 1, by omega⟩
      have hda := drop_at s i hlt
      obtain ⟨c, hc⟩ : ∃ c, s[i] = c := ⟨_, rfl⟩
      rw [hc] at hda
      obtain ⟨S, hS⟩ : ∃ S : ByteArray, s.extract i s.size = S := ⟨_, rfl⟩
      have hSl : S.data.toList = s.data.toList.drop i := by rw [← hS, Lib.extract_to_end]
      have hSz : S.size ≤ 1000000000 := by rw [Lib.size_eq, hSl]; simp; omega
      have hat := at_any S wr (HE.out.below hB) hSz
      have hes := entAt_size (s.data.toList.drop i)
      rw [hSl] at hat
      obtain ⟨p, hp⟩ : ∃ p, entAt (s.data.toList.drop i) = p := ⟨_, rfl⟩
      rw [hp] at hat hes
      have hdl : (s.data.toList.drop i).length ≤ 1000000000 := by simp; omega
      obtain ⟨he1, he2⟩ := hes
      have hp2 : p.2 ≤ 1000000011 := by omega
      have HAT := Lib.hid hat
      have HP := Lib.hid hp
      have HD := Lib.hid hda
      have HACC := Lib.hid hacc
      clear hat hp hda hacc hSl he2 hdl
      have hbl : (Lib.byteCells acc).length ≤ 12000000000 := by rw [Lib.byteCells_length]; omega
      by_cases c1 : c.toNat = 92
      · have hc92 : c = 92 := UInt8.toNat.inj (by simpa using c1)
        have ht : ((c.toNat : Int) == 92) = true := by simp; omega
        have hp0 : p.2 = 0 := by have := HP.out; rw [HD.out, hc92, entAt_other _ _ (by decide)] at this; rw [← this]
        have HC := Lib.hid hc92
        clear c1 hc92
        have hp0' : ¬ (0 : Int) < (p.2 : Int) := by omega
        by_cases c2 : i + 1 < s.size
        · have hdb := drop_at s (i + 1) c2
          obtain ⟨d, hd⟩ : ∃ d, s[i + 1] = d := ⟨_, rfl⟩
          rw [hd] at hdb
          have HDB := Lib.hid hdb
          clear hdb
          have hI64 : IntKind.i64.wrap ((i : Int) + 1) = ((i + 1 : Nat) : Int) := by rw [wrap_small _ (by omega) (by omega)]; omega
          have hlt1 : ((i + 1 : Nat) : Int) < (s.size : Int) := by omega
          cases hsd : asciiP d
          · have hu : unescF (f + 1) (s.data.toList.drop i) = [c] ++ unescF f (s.data.toList.drop (i + 1)) := by
              rw [HD.out, HC.out, unesc_slash _ _ (fun d' r' h => by rw [HDB.out] at h; cases h; exact hsd)]; rfl
            have HU := Lib.hid hu
            have HSD := Lib.hid hsd
            clear hu hsd
            go_wp2_with fail
            refine (HAT.out).mono ?_
            rintro e w1 ⟨rfl, hb1⟩
            have hI1 := bld_below hI hb1
            have hB1 := below_step hB hb1
            go_wp2_with fail
            refine (ascii_any d _).mono ?_
            rintro e w2 ⟨rfl, hb2⟩
            have hI2 := bld_below hI1 hb2
            have hB2 := below_step hB1 hb2
            rw [HSD.out]
            go_wp2_with fail
            refine (bld_byte w.heap.size w.heap.size _ _ _ hI2 (by omega) hB2.size).mono ?_
            rintro e w3 ⟨rfl, h3, hb3, k3⟩
            have hB3 := hB2.trans hb3
            go_wp2_with fail
            go_roundw
            case rel => exact ⟨i + 1, by omega, by go_num, UnRel.step (n := 1) hB HACC.out hf hal HU.out (by omega) (by simp) (by rw [Lib.byteCells_append]; exact Or.inr h3) hB3⟩
            case measure => simp [intOf]; omega
          · have hu : unescF (f + 1) (s.data.toList.drop i) = [d] ++ unescF f (s.data.toList.drop (i + 2)) := by
              rw [HD.out, HC.out, HDB.out, unesc_sign _ _ _ hsd]; rfl
            have HU := Lib.hid hu
            have HSD := Lib.hid hsd
            clear hu hsd
            go_wp2_with fail
            refine (HAT.out).mono ?_
            rintro e w1 ⟨rfl, hb1⟩
            have hI1 := bld_below hI hb1
            have hB1 := below_step hB hb1
            go_wp2_with fail
            refine (ascii_any d _).mono ?_
            rintro e w2 ⟨rfl, hb2⟩
            have hI2 := bld_below hI1 hb2
            have hB2 := below_step hB1 hb2
            rw [HSD.out]
            go_wp2_with fail
            refine (bld_byte w.heap.size w.heap.size _ _ _ hI2 (by omega) hB2.size).mono ?_
            rintro e w3 ⟨rfl, h3, hb3, k3⟩
            have hB3 := hB2.trans hb3
            go_wp2_with fail
            go_roundw
            case rel => exact ⟨i + 2, by omega, by go_num, UnRel.step (n := 2) hB HACC.out hf hal HU.out (by omega) (by simp) (by rw [Lib.byteCells_append]; exact Or.inr h3) hB3⟩
            case measure => simp [intOf]; omega
        · have hu : unescF (f + 1) (s.data.toList.drop i) = [c] ++ unescF f (s.data.toList.drop (i + 1)) := by
            rw [HD.out, HC.out, unesc_slash _ _ (fun d' r' h => by rw [drop_end s (i + 1) (by omega)] at h; cases h)]; rfl
          have HU := Lib.hid hu
          clear hu
          have hlt1 : ¬ (i : Int) + 1 < (s.size : Int) := by omega
          go_wp2_with fail
          refine (HAT.out).mono ?_
          rintro e w1 ⟨rfl, hb1⟩
          have hI1 := bld_below hI hb1
          have hB1 := below_step hB hb1
          go_wp2_with fail
          refine (bld_byte w.heap.size w.heap.size _ _ _ hI1 (by omega) hB1.size).mono ?_
          rintro e w3 ⟨rfl, h3, hb3, k3⟩
          have hB3 := hB1.trans hb3
          go_wp2_with fail
          go_roundw
          case rel => exact ⟨i + 1, by omega, by go_num, UnRel.step (n := 1) hB HACC.out hf hal HU.out (by omega) (by simp) (by rw [Lib.byteCells_append]; exact Or.inr h3) hB3⟩
          case measure => simp [intOf]; omega
      · have ht : ((c.toNat : Int) == 92) = false := by simp; omega
        have hc92 : c ≠ 92 := fun e => c1 (by rw [e]; rfl)
        clear c1
        by_cases hp0 : 0 < p.2
        · have hu : unescF (f + 1) (s.data.toList.drop i) = p.1 ++ unescF f (s.data.toList.drop (i + p.2)) := by
            rw [HD.out, unesc_ent _ _ _ hc92 (by rw [← HD.out, HP.out]; exact hp0), ← HD.out, HP.out, List.drop_drop]
          have HU := Lib.hid hu
          have HC := Lib.hid hc92
          clear hu hc92
          have hp0' : (0 : Int) < (p.2 : Int) := by omega
          have hsz : (ByteArray.mk p.1.toArray).size ≤ 4 := by rw [Lib.size_eq]; exact he1
          go_wp2_with fail
          refine (HAT.out).mono ?_
          rintro e w1 ⟨rfl, hb1⟩
          have hI1 := bld_below hI hb1
          have hB1 := below_step hB hb1
          go_wp2_with fail
          refine (bld_string w.heap.size w.heap.size _ _ _ hI1 (by omega) hB1.size).mono ?_
          rintro e w3 ⟨rfl, h3, hb3, k3⟩
          have hB3 := hB1.trans hb3
          go_wp2_with fail
          go_roundw
          case rel => exact ⟨i + p.2, by omega, by go_num, UnRel.step (n := p.2) hB HACC.out hf hal HU.out (by omega) he1 (by rw [Lib.byteCells_append]; exact Or.inr h3) hB3⟩
          case measure => simp [intOf]; omega
        · have hu : unescF (f + 1) (s.data.toList.drop i) = [c] ++ unescF f (s.data.toList.drop (i + 1)) := by
            rw [HD.out, unesc_self _ _ _ hc92 (by rw [← HD.out, HP.out]; exact hp0)]; rfl
          have HU := Lib.hid hu
          have HC := Lib.hid hc92
          clear hu hc92
          have hp0' : ¬ (0 : Int) < (p.2 : Int) := by omega
          go_wp2_with fail
          refine (HAT.out).mono ?_
          rintro e w1 ⟨rfl, hb1⟩
          have hI1 := bld_below hI hb1
          have hB1 := below_step hB hb1
          go_wp2_with fail
          refine (bld_byte w.heap.size w.heap.size _ _ _ hI1 (by omega) hB1.size).mono ?_
          rintro e w3 ⟨rfl, h3, hb3, k3⟩
          have hB3 := hB1.trans hb3
          go_wp2_with fail
          go_roundw
          case rel => exact ⟨i + 1, by omega, by go_num, UnRel.step (n := 1) hB HACC.out hf hal HU.out (by omega) (by simp) (by rw [Lib.byteCells_append]; exact Or.inr h3) hB3⟩
          case measure => simp [intOf]; omega
    · rw [drop_end s i (by omega), unesc_end, List.append_nil] at hacc
      subst hacc
      go_wp2_with fail
      refine (Tryd.Builder_String_any_k w.heap.size w.heap.size _ wr hI hB.size).mono ?_
      rintro e w2 ⟨rfl, _, hb2, _⟩
      go_wp2_with fail
      go_ret
      exact ⟨rfl, hB.trans hb2⟩

end Go.Proofs.YtmllkffdejojbaaDoor
