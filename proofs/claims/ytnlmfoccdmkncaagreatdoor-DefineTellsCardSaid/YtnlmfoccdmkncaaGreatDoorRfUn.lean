/-
  The reference's Unescape: it answers as the program's does.
-/
import Derived.Test.YtnlmfoccdmkncaaGreatDoorRfEnt
import Derived.Test.YtnlmfoccdmkncaaGreatDoorDefD
namespace Go.Proofs.YtnlmfoccdmkncaaGreatDoor
open Go.RowKit
set_option maxRecDepth 100000
set_option linter.unusedVariables false
set_option linter.unusedSimpArgs false

def UnR (s acc : ByteArray) (i : Nat) : Prop := ∃ f : Nat, acc.data.toList ++ unescF f (s.data.toList.drop i) = unesc s.data.toList ∧ s.size ≤ i + f ∧ acc.size ≤ 4 * i

theorem unR_step {s acc : ByteArray} {i n : Nat} (h : UnR s acc i) (hi : i < s.size) (x : ByteArray) (hu : ∀ f, unescF (f + 1) (s.data.toList.drop i) = x.data.toList ++ unescF f (s.data.toList.drop (i + n))) (hn : 1 ≤ n) (hx : x.size ≤ 4) : UnR s (acc ++ x) (i + n) := by
  obtain ⟨f, h1, h2, h3⟩ := h
  obtain ⟨f, rfl⟩ : ∃ g, f = g + 1 := ⟨f - 1, by omega⟩
  refine ⟨f, ?_, by omega, ?_⟩
  · rw [app_list, List.append_assoc, ← hu]; exact h1
  · rw [Lib.size_eq, app_list, List.length_append, ← Lib.size_eq, ← Lib.size_eq]; omega
theorem un_ent {s : ByteArray} {i : Nat} {c : UInt8} {l : List UInt8} {x : ByteArray} {n : Nat} (hd : s.data.toList.drop i = c :: l) (hc : c ≠ 92) (he : entAt (c :: l) = (x.data.toList, n)) (hn : 0 < n) (f : Nat) : unescF (f + 1) (s.data.toList.drop i) = x.data.toList ++ unescF f (s.data.toList.drop (i + n)) := by
  rw [hd, unesc_ent f c l hc (by rw [he]; exact hn), he]
  simp only
  rw [← hd, List.drop_drop]
theorem un_self {s : ByteArray} {i : Nat} {c : UInt8} {l : List UInt8} {x : ByteArray} (hd : s.data.toList.drop i = c :: l) (hx : x.data.toList = [c]) (h : (c = 92 ∧ ∀ d r, l = d :: r → asciiP d = false) ∨ (c ≠ 92 ∧ (entAt (c :: l)).2 = 0)) (f : Nat) : unescF (f + 1) (s.data.toList.drop i) = x.data.toList ++ unescF f (s.data.toList.drop (i + 1)) := by
  have h1 : s.data.toList.drop (i + 1) = l := by rw [← List.drop_drop, hd]; rfl
  rw [h1, hx, hd]
  rcases h with ⟨rfl, h⟩ | ⟨hc, h⟩
  · exact unesc_slash f l h
  · exact unesc_self f c l hc (by rw [h]; exact Nat.lt_irrefl 0)


set_option maxHeartbeats 8000000 in
theorem runesc_any (s : ByteArray) (w : World) (hs : s.size ≤ 1000000) :
    Calls Tryz.prog 83 #[.string s] w fun e w' => e = .returned (.string ⟨(unesc s.data.toList).toArray⟩) ∧ Below w.heap.size w w' := by
  go_enter Tryz.func83, Tryz.ntmps83
  go_wp2_with fail
  go_loopw [3, 4] (fun u3 u4 wr => ∃ (acc : ByteArray) (i : Nat), i ≤ 3000000 ∧ u3 = .string acc ∧ u4 = .int .i64 i ∧ UnR s acc i ∧ Below w.heap.size w wr) (fun _ u4 _ => s.size - (intOf u4).toNat)
  case atStart => exact ⟨⟨#[]⟩, 0, by omega, rfl, rfl, ⟨s.size, by unfold unesc; rw [← Lib.size_eq]; rfl, by omega, by decide⟩, Below.refl _ _⟩
  case round =>
    obtain ⟨acc, i, hi9, rfl, rfl, hun, hbw⟩ := hrel
    have haz : acc.size ≤ 12000000 := by obtain ⟨f, _, _, h3⟩ := hun; omega
    have HUN := Lib.hid hun
    clear hun
    by_cases hlt : i < s.size
    · have hltI : (i : Int) < (s.size : Int) := by omega
      have hda := drop_at s i hlt
      obtain ⟨c, hc⟩ : ∃ c, s[i] = c := ⟨_, rfl⟩
      rw [hc] at hda
      obtain ⟨S, hS⟩ : ∃ S : ByteArray, s.extract i s.size = S := ⟨_, rfl⟩
      have hSl : S.data.toList = s.data.toList.drop i := by rw [← hS, Lib.extract_to_end]
      have hSz : S.size ≤ 1000000 := by rw [Lib.size_eq, hSl]; simp; omega
      obtain ⟨O, hO⟩ : ∃ O : ByteArray, s.extract i (i + 1) = O := ⟨_, rfl⟩
      have hOl : O.data.toList = [c] := by
        rw [← hO, Lib.extract_data, hda, show i + 1 - i = 1 by omega]; rfl
      have hOz : O.size = 1 := by rw [Lib.size_eq, hOl]; rfl
      have hent := fun W => rentity_any S W hSz
      have hes := entAt_size (s.data.toList.drop i)
      rw [hSl] at hent
      obtain ⟨x, n, hp⟩ : ∃ x n, entAt (s.data.toList.drop i) = (x, n) := ⟨_, _, rfl⟩
      rw [hp] at hent hes
      simp only at hent hes
      obtain ⟨E, hE⟩ : ∃ E : ByteArray, ⟨x.toArray⟩ = E := ⟨_, rfl⟩
      have hEl : E.data.toList = x := by rw [← hE]
      have hEz : E.size ≤ 4 := by rw [Lib.size_eq, hEl]; exact hes.1
      have hn9 : n ≤ 1000011 := by have := hes.2; simp at this; omega
      rw [hE] at hent
      rw [hda] at hp
      have HENT := Lib.hid hent
      have HDA := Lib.hid hda
      have HP := Lib.hid (show entAt (c :: s.data.toList.drop (i + 1)) = (E.data.toList, n) by rw [hp, hEl])
      have HOL := Lib.hid hOl
      clear hent hes hda hp hSl hEl hE hOl
      have hcl := c.toNat_lt
      by_cases c1 : c = 92
      · have t1 : ((c.toNat : Int) == 92) = true := by rw [c1]; rfl
        have HC := Lib.hid c1
        have hn0 : n = 0 := by have := HP.out; rw [c1, entAt_other _ _ (by decide)] at this; exact (congrArg Prod.snd this).symm
        have HENTU : Hid (0 < n → ∀ f, unescF (f + 1) (s.data.toList.drop i) = E.data.toList ++ unescF f (s.data.toList.drop (i + n))) := Lib.hid (fun h => absurd h (by omega))
        clear c1
        by_cases c2 : i + 1 < s.size
        · have c2I : (i : Int) + 1 < (s.size : Int) := by omega
          have hdb := drop_at s (i + 1) c2
          obtain ⟨d, hd⟩ : ∃ d, s[i + 1] = d := ⟨_, rfl⟩
          rw [hd] at hdb
          obtain ⟨b, hb⟩ : ∃ b, asciiP d = b := ⟨_, rfl⟩
          have hra := fun W => rascii_any d W
          rw [hb] at hra
          have HRA := Lib.hid hra
          cases b
          · have HSELF : Hid (n = 0 → ∀ f, unescF (f + 1) (s.data.toList.drop i) = O.data.toList ++ unescF f (s.data.toList.drop (i + 1))) := Lib.hid (fun _ => un_self HDA.out HOL.out (.inl ⟨HC.out, fun d' r h => by rw [hdb] at h; cases h; exact hb⟩))
            clear hdb hb hra hn0
            go_wp2_with fail
            refine (HRA.out _).mono ?_
            rintro e w' ⟨rfl, rfl⟩
            go_wp2_with fail
            refine (HENT.out _).mono ?_
            rintro e w2 ⟨rfl, b2⟩
            have hb2 := below_step hbw b2
            clear b2 hbw
            by_cases hp0 : 0 < n
            · have hpI : (0 : Int) < (n : Int) := by omega
              have HN := Lib.hid (unR_step HUN.out hlt E (HENTU.out hp0) hp0 hEz)
              have v1 : ¬ (9223372036854775807 < acc.size + E.size) := by omega
              go_wp2_with fail
              go_roundw
              case rel => exact ⟨_, i + n, by omega, rfl, by go_num, HN.out, hb2⟩
              case measure => simp [intOf]; omega
            · have hpI : ¬ (0 : Int) < (n : Int) := by omega
              have HN := Lib.hid (unR_step HUN.out hlt O (HSELF.out (by omega)) (Nat.le_refl 1) (by rw [hOz]; omega))
              have v1 : ¬ (9223372036854775807 < acc.size + O.size) := by rw [hOz]; omega
              go_wp2_with fail
              go_roundw
              case rel => exact ⟨_, i + 1, by omega, rfl, by go_num, HN.out, hb2⟩
              case measure => simp [intOf]; omega
          · obtain ⟨O2, hO2⟩ : ∃ O2 : ByteArray, s.extract (i + 1) (i + 2) = O2 := ⟨_, rfl⟩
            have hO2l : O2.data.toList = [d] := by
              rw [← hO2, Lib.extract_data, hdb, show i + 2 - (i + 1) = 1 by omega]; rfl
            have hO2z : O2.size = 1 := by rw [Lib.size_eq, hO2l]; rfl
            have HN := Lib.hid (unR_step (n := 2) HUN.out hlt O2 (fun f => by
              rw [HDA.out, HC.out, hdb, unesc_sign f d _ hb, hO2l, show s.data.toList.drop (i + 2) = s.data.toList.drop (i + 1 + 1) from rfl]
              rfl) (by omega) (by rw [hO2z]; omega))
            have v1 : ¬ (9223372036854775807 < acc.size + O2.size) := by rw [hO2z]; omega
            clear hdb hb hra hn0 hO2l
            go_wp2_with fail
            refine (HRA.out _).mono ?_
            rintro e w' ⟨rfl, rfl⟩
            go_wp2_with fail
            go_roundw
            case rel => exact ⟨_, i + 2, by omega, rfl, by go_num, HN.out, hbw⟩
            case measure => simp [intOf]; omega
        · have c2I : ¬ (i : Int) + 1 < (s.size : Int) := by omega
          have HSELF : Hid (n = 0 → ∀ f, unescF (f + 1) (s.data.toList.drop i) = O.data.toList ++ unescF f (s.data.toList.drop (i + 1))) := Lib.hid (fun _ => un_self HDA.out HOL.out (.inl ⟨HC.out, fun d' r h => by rw [drop_end s (i + 1) (by omega)] at h; cases h⟩))
          clear hn0
          go_wp2_with fail
          refine (HENT.out _).mono ?_
          rintro e w2 ⟨rfl, b2⟩
          have hb2 := below_step hbw b2
          clear b2 hbw
          by_cases hp0 : 0 < n
          · have hpI : (0 : Int) < (n : Int) := by omega
            have HN := Lib.hid (unR_step HUN.out hlt E (HENTU.out hp0) hp0 hEz)
            have v1 : ¬ (9223372036854775807 < acc.size + E.size) := by omega
            go_wp2_with fail
            go_roundw
            case rel => exact ⟨_, i + n, by omega, rfl, by go_num, HN.out, hb2⟩
            case measure => simp [intOf]; omega
          · have hpI : ¬ (0 : Int) < (n : Int) := by omega
            have HN := Lib.hid (unR_step HUN.out hlt O (HSELF.out (by omega)) (Nat.le_refl 1) (by rw [hOz]; omega))
            have v1 : ¬ (9223372036854775807 < acc.size + O.size) := by rw [hOz]; omega
            go_wp2_with fail
            go_roundw
            case rel => exact ⟨_, i + 1, by omega, rfl, by go_num, HN.out, hb2⟩
            case measure => simp [intOf]; omega
      · have t1 : ((c.toNat : Int) == 92) = false := by rw [show (92 : Int) = ((92 : Nat) : Int) from rfl, byte_dec c 92 (by decide)]; simpa using c1
        have HENTU : Hid (0 < n → ∀ f, unescF (f + 1) (s.data.toList.drop i) = E.data.toList ++ unescF f (s.data.toList.drop (i + n))) := Lib.hid (fun h => un_ent HDA.out c1 HP.out h)
        have HSELF : Hid (n = 0 → ∀ f, unescF (f + 1) (s.data.toList.drop i) = O.data.toList ++ unescF f (s.data.toList.drop (i + 1))) := Lib.hid (fun h => un_self HDA.out HOL.out (.inr ⟨c1, by rw [HP.out]; exact h⟩))
        clear c1
        go_wp2_with fail
        refine (HENT.out _).mono ?_
        rintro e w2 ⟨rfl, b2⟩
        have hb2 := below_step hbw b2
        clear b2 hbw
        by_cases hp0 : 0 < n
        · have hpI : (0 : Int) < (n : Int) := by omega
          have HN := Lib.hid (unR_step HUN.out hlt E (HENTU.out hp0) hp0 hEz)
          have v1 : ¬ (9223372036854775807 < acc.size + E.size) := by omega
          go_wp2_with fail
          go_roundw
          case rel => exact ⟨_, i + n, by omega, rfl, by go_num, HN.out, hb2⟩
          case measure => simp [intOf]; omega
        · have hpI : ¬ (0 : Int) < (n : Int) := by omega
          have HN := Lib.hid (unR_step HUN.out hlt O (HSELF.out (by omega)) (Nat.le_refl 1) (by rw [hOz]; omega))
          have v1 : ¬ (9223372036854775807 < acc.size + O.size) := by rw [hOz]; omega
          go_wp2_with fail
          go_roundw
          case rel => exact ⟨_, i + 1, by omega, rfl, by go_num, HN.out, hb2⟩
          case measure => simp [intOf]; omega
    · have HN := Lib.hid (show acc.data.toList = unesc s.data.toList by
        obtain ⟨f, h1, _, _⟩ := HUN.out
        rw [drop_end s i (by omega), unesc_end, List.append_nil] at h1
        exact h1)
      go_wp2_with fail
      go_ret
      exact ⟨ret_strs HN.out, hbw⟩

end Go.Proofs.YtnlmfoccdmkncaaGreatDoor
