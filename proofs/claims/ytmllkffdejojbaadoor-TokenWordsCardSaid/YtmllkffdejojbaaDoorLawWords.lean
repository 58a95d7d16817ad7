/-
  TokenWords: text without signs is Words, and they are that text: the walk of the law.
-/
import Derived.Test.YtmllkffdejojbaaDoorLawEnts
namespace Go.Proofs.YtmllkffdejojbaaDoor
open Go.RowKit
set_option maxRecDepth 100000
set_option linter.unusedVariables false
set_option linter.unusedSimpArgs false

theorem must_ba (X : ByteArray) (W : World) : Calls Tryd.prog 36 #[.iface 88 (.string X)] W fun e w' => e = .returned (.string X) ∧ w' = W := by
  have := must_word X.data.toList W
  simp only [Tok.val, Lib.mk_data] at this
  exact this

/-- All tokens of a text of words. -/
theorem words_any (s : ByteArray) (ws : List (List UInt8)) (w : World) (hE : Env w) (hs : s.size ≤ 1000000) (h : allL (s.size + 1) s.data.toList = ws.map Tok.word) :
    Calls Tryd.prog 34 #[.string s] w fun e w' => ∃ ao g cap, e = .returned (.slice ao ws.length cap) ∧ (0 < ws.length → ao = some ⟨g, 0, none⟩ ∧ g < w'.heap.size) ∧ (∀ j, j < ws.length → w'.cell? ⟨g, j, none⟩ = some (.iface 88 (.string ⟨(ws.getD j []).toArray⟩))) ∧ Below w.heap.size w w' := by
  refine (all_tok s w hE hs).mono ?_
  rintro e w' ⟨v, rfl, hown, hb⟩
  rw [h, List.length_map] at hown
  rcases hown.2 with ⟨rfl, e0⟩ | ⟨g, cap, cur, rfl, hg, hh, r⟩
  · refine ⟨none, 0, 0, by rw [e0], fun h => absurd h (by omega), fun j hj => absurd hj (by omega), hb⟩
  · refine ⟨_, g, cap, rfl, fun _ => ⟨rfl, (Array.getElem?_eq_some_iff.1 hh).1⟩, fun j hj => ?_, hb⟩
    rw [hown.cellAt j (by omega), List.getElem?_map, List.getElem?_map, List.getElem?_eq_getElem hj]
    simp only [Option.map_some, Tok.val]
    rw [List.getD_eq_getElem?_getD, List.getElem?_eq_getElem hj]
    rfl

def WordsL (l : List UInt8) : Prop := ∀ b ∈ l, wordB b = true
theorem words_take {l : List UInt8} {k : Nat} {c : UInt8} (h : WordsL (l.take k)) (hk : l[k]? = some c) (hc : wordB c = true) : WordsL (l.take (k + 1)) := by
  intro b hb
  obtain ⟨hlt, he⟩ := List.getElem?_eq_some_iff.1 hk
  rw [List.take_succ_eq_append_getElem hlt] at hb
  rcases List.mem_append.1 hb with e | e
  · exact h b e
  · rw [List.mem_singleton.1 e, he]; exact hc
theorem word_cases (c : UInt8) : ((97 : Int) ≤ c.toNat ∧ (c.toNat : Int) ≤ 122 ∧ wordB c = true) ∨ (c = 32) ∨ (c = 46) ∨ ((128 : Int) ≤ c.toNat ∧ wordB c = true) ∨ ((97 : Int) ≤ c.toNat ∧ ¬ (c.toNat : Int) ≤ 122 ∧ ¬ (128 : Int) ≤ c.toNat) ∨ (¬ (97 : Int) ≤ c.toNat ∧ c ≠ 32 ∧ c ≠ 46) := by
  by_cases h1 : (97 : Int) ≤ c.toNat
  · by_cases h2 : (c.toNat : Int) ≤ 122
    · refine Or.inl ⟨h1, h2, ?_⟩
      unfold wordB
      have a : (97 : UInt8) ≤ c := by rw [UInt8.le_iff_toNat_le]; have : (97 : UInt8).toNat = 97 := rfl; omega
      have b : c ≤ 122 := by rw [UInt8.le_iff_toNat_le]; have : (122 : UInt8).toNat = 122 := rfl; omega
      simp [a, b]
    · by_cases h3 : (128 : Int) ≤ c.toNat
      · refine Or.inr (Or.inr (Or.inr (Or.inl ⟨h3, ?_⟩)))
        unfold wordB
        have a : (128 : UInt8) ≤ c := by rw [UInt8.le_iff_toNat_le]; have : (128 : UInt8).toNat = 128 := rfl; omega
        simp [a]
      · exact Or.inr (Or.inr (Or.inr (Or.inr (Or.inl ⟨h1, h2, h3⟩))))
  · by_cases h2 : c = 32
    · exact Or.inr (Or.inl h2)
    · by_cases h3 : c = 46
      · exact Or.inr (Or.inr (Or.inl h3))
      · exact Or.inr (Or.inr (Or.inr (Or.inr (Or.inr ⟨h1, h2, h3⟩))))

set_option maxHeartbeats 8000000 in
theorem law_words (s : ByteArray) (w : World) (hE : Env w) :
    Calls Tryd.prog 13 #[.string s] w fun e w' => e = .returned (.bool true) ∧ Below w.heap.size w w' := by
  by_cases hr : s.size ≤ 200
  · have h1' : ¬ (200 : Int) < (s.size : Int) := by omega
    have HE := Lib.hid hE
    clear hE
    go_enter Tryd.func13, Tryd.ntmps13
    go_wp2_with fail
    refine (alive12 _ HE.out).mono ?_
    rintro e w1 ⟨rfl, b1⟩
    go_wp2_with fail
    go_loop [3] (fun u3 => ∃ i : Nat, i ≤ s.size ∧ u3 = .int .i64 i ∧ WordsL (s.data.toList.take i)) (fun u3 => s.size - (intOf u3).toNat)
    case atStart => exact ⟨0, Nat.zero_le _, rfl, fun b hb => by simp at hb⟩
    case round =>
      obtain ⟨i, hi, rfl, hl⟩ := hrel
      have HL := Lib.hid hl
      clear hl
      by_cases hlt : i < s.size
      · have hg := Lib.data_getElem? s i hlt
        obtain ⟨c, hc⟩ : ∃ c, s[i] = c := ⟨_, rfl⟩
        rw [hc] at hg
        have HG := Lib.hid hg
        clear hg
        have ne : ∀ k : UInt8, c ≠ k → ((c.toNat : Int) == (k.toNat : Int)) = false := fun k hk => by
          rw [beq_eq_false_iff_ne]
          intro e
          refine hk ?_
          have h1 : c.toNat = k.toNat := by omega
          rw [← UInt8.ofNat_toNat (x := c), h1, UInt8.ofNat_toNat]
        rcases word_cases c with ⟨t1, t2, hw⟩ | rfl | rfl | ⟨t1, hw⟩ | ⟨t1, t2, t3⟩ | ⟨t1, t2, t3⟩
        · clear ne
          have HN := Lib.hid (words_take HL.out HG.out hw)
          go_wp2_with fail
          go_round
          case rel => exact ⟨i + 1, by omega, by go_num, HN.out⟩
          case measure => simp [intOf]; omega
        · clear ne
          have hw : wordB 32 = true := by decide
          have HN := Lib.hid (words_take HL.out HG.out hw)
          go_wp2_with fail
          go_round
          case rel => exact ⟨i + 1, by omega, by go_num, HN.out⟩
          case measure => simp [intOf]; omega
        · clear ne
          have hw : wordB 46 = true := by decide
          have HN := Lib.hid (words_take HL.out HG.out hw)
          go_wp2_with fail
          go_round
          case rel => exact ⟨i + 1, by omega, by go_num, HN.out⟩
          case measure => simp [intOf]; omega
        · have q1 : (97 : Int) ≤ c.toNat := by omega
          have q2 : ¬ (c.toNat : Int) ≤ 122 := by omega
          have q3 : ((c.toNat : Int) == 32) = false := by rw [beq_eq_false_iff_ne]; omega
          have q4 : ((c.toNat : Int) == 46) = false := by rw [beq_eq_false_iff_ne]; omega
          clear ne
          have HN := Lib.hid (words_take HL.out HG.out hw)
          go_wp2_with fail
          go_round
          case rel => exact ⟨i + 1, by omega, by go_num, HN.out⟩
          case measure => simp [intOf]; omega
        · have q3 : ((c.toNat : Int) == 32) = false := by rw [beq_eq_false_iff_ne]; omega
          have q4 : ((c.toNat : Int) == 46) = false := by rw [beq_eq_false_iff_ne]; omega
          clear ne
          go_wp2_with fail
          go_ret
          exact ⟨rfl, b1⟩
        · have q3 : ((c.toNat : Int) == 32) = false := ne 32 t2
          have q4 : ((c.toNat : Int) == 46) = false := ne 46 t3
          have q5 : ¬ (128 : Int) ≤ c.toNat := by omega
          clear ne
          go_wp2_with fail
          go_ret
          exact ⟨rfl, b1⟩
      · obtain rfl : i = s.size := by omega
        have hwl : WordsL s.data.toList := by have := HL.out; rwa [take_all] at this
        obtain ⟨ws, hws, hfl, hwz⟩ := all_words (s.size + 1) s.data.toList (by rw [← Lib.size_eq]; omega) hwl
        have ca := fun W hW => words_any s ws W hW (by omega) hws
        have hlen : ∀ k, ((ws.take k).flatten).length ≤ s.size := fun k => by
          rw [Lib.size_eq, ← hfl]
          have := congrArg List.length (show (ws.take k).flatten ++ (ws.drop k).flatten = ws.flatten by rw [← List.flatten_append, List.take_append_drop])
          rw [List.length_append] at this
          omega
        have CA := Lib.hid ca
        have HFL := Lib.hid hfl
        have HLEN := Lib.hid hlen
        clear ca hwl hws hfl hlen HL
        have g0 := tok_field0
        go_wp2_with fail
        refine (CA.out _ (HE.out.below b1)).mono ?_
        rintro e w2 ⟨ao, g, cap, rfl, ha, hcells, b2⟩
        have B2 := below_step b1 b2
        obtain ⟨n, hn⟩ : ∃ n, ws.length = n := ⟨_, rfl⟩
        have HWN := Lib.hid hn
        rw [← Lib.size_eq, hn] at hwz
        rw [hn] at ha hcells
        rw [hn]
        have HA := Lib.hid ha
        have HCE := Lib.hid hcells
        clear ha hcells hn CA b2
        go_wp2_with fail
        go_loopw [5, 47] (fun u5 u47 wr => ∃ (k : Nat) (S : ByteArray), k ≤ n ∧ u47 = .int .i64 k ∧ u5 = .string S ∧ S.data.toList = (ws.take k).flatten ∧ Below w2.heap.size w2 wr) (fun _ u47 _ => n - (intOf u47).toNat)
        case atStart => exact ⟨0, ⟨#[]⟩, Nat.zero_le _, rfl, rfl, rfl, Below.refl _ _⟩
        case round =>
          obtain ⟨k, S, hk, rfl, rfl, hS, hB⟩ := hrel
          have HS := Lib.hid hS
          have hSz : S.size ≤ s.size := by rw [Lib.size_eq, hS]; exact HLEN.out k
          clear hS
          by_cases hkn : k < n
          · obtain ⟨hao, hgl⟩ := HA.out (by omega)
            have hcell := (hB.cell (p := ⟨g, k, none⟩) hgl).trans (HCE.out k hkn)
            obtain ⟨X, hX, hXz⟩ := ba_ex (ws.getD k [])
            rw [← hX] at hcell
            simp only [Lib.mk_data] at hcell
            have hX2 : (ws.take (k + 1)).flatten = (ws.take k).flatten ++ X.data.toList := by
              rw [List.take_succ_eq_append_getElem (by rw [HWN.out]; exact hkn), List.flatten_append, hX, List.getD_eq_getElem?_getD, List.getElem?_eq_getElem (by rw [HWN.out]; exact hkn)]
              simp
            have hXs : X.size ≤ s.size := by
              have h1 := HLEN.out (k + 1)
              rw [hX2, List.length_append, ← Lib.size_eq] at h1
              omega
            have HX2 := Lib.hid hX2
            subst hao
            clear hX hXz hX2
            go_wp2_with fail
            refine (tok_word X _).mono ?_
            rintro e w3 ⟨rfl, b3⟩
            have B3 := below_step hB b3
            go_wp2_with fail
            refine (must_ba X _).mono ?_
            rintro e w' ⟨rfl, hw'⟩
            obtain rfl := hw'.symm
            go_wp2_with fail
            go_roundw
            case rel => exact ⟨k + 1, _, by omega, by go_num, rfl, by rw [app_list, HS.out, HX2.out], B3⟩
            case measure => simp [intOf]; omega
          · obtain rfl : k = n := by omega
            have hSe : S = s := ba_eq (by rw [HS.out, ← HFL.out, List.take_of_length_le (by rw [HWN.out]; exact Nat.le_refl _)])
            subst hSe
            go_wp2_with fail
            go_ret
            exact ⟨ret_bool (by first | rfl | (simp; done)), below_step B2 hB⟩
  · have h1' : (200 : Int) < (s.size : Int) := by omega
    go_enter Tryd.func13, Tryd.ntmps13
    go_wp2_with fail
    refine (alive12 _ hE).mono ?_
    rintro e w1 ⟨rfl, b1⟩
    go_wp2_with fail
    go_ret
    exact ⟨rfl, b1⟩

end Go.Proofs.YtmllkffdejojbaaDoor
