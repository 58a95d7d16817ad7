/-
  InlineEscapes: with a backslash ahead of each sign a text is itself, as words: the walk of the law.
-/
import Derived.Test.YtahljcbmckldhaaGreatDoorInlG
namespace Go.Proofs.YtahljcbmckldhaaGreatDoor
open Go.RowKit
set_option maxRecDepth 100000
set_option linter.unusedVariables false
set_option linter.unusedSimpArgs false


theorem esc_snoc (l : List UInt8) (i : Nat) (c : UInt8) (h : l[i]? = some c) : escL (l.take (i + 1)) = escL (l.take i) ++ escB c := by
  obtain ⟨hlt, he⟩ := List.getElem?_eq_some_iff.1 h
  rw [List.take_succ_eq_append_getElem hlt, he, esc_append]
  unfold escL
  simp
theorem shown_take {l : List UInt8} {k : Nat} {c : UInt8} (h : ∀ x ∈ l.take k, Shown x) (hk : l[k]? = some c) (hc : Shown c) : ∀ x ∈ l.take (k + 1), Shown x := by
  obtain ⟨hlt, he⟩ := List.getElem?_eq_some_iff.1 hk
  rw [List.take_succ_eq_append_getElem hlt, he]
  intro x hx
  rcases List.mem_append.1 hx with hx | hx
  · exact h x hx
  · rw [List.mem_singleton.1 hx]; exact hc
theorem esc_len (l : List UInt8) : (escL l).length ≤ 2 * l.length := by
  induction l with
  | nil => simp [escL]
  | cons c l ih =>
    unfold escL at ih ⊢
    rw [List.flatMap_cons, List.length_append, List.length_cons]
    have : (escB c).length ≤ 2 := by unfold escB; split <;> simp
    omega

set_option maxHeartbeats 8000000 in
theorem law_iesc (s : ByteArray) (w : World) (hE : Env w) :
    Calls Tryz.prog 7 #[.string s] w fun e w' => e = .returned (.bool true) ∧ Below w.heap.size w w' := by
  by_cases h0 : 0 < s.size
  · have he := empty_no h0
    by_cases t3 : (60 : Int) < (s.size : Int)
    · go_enter Tryz.func7, Tryz.ntmps7
      go_wp2_with fail
      refine (alive15 _ hE).mono ?_
      rintro e w1 ⟨rfl, b1⟩
      go_wp2_with fail
      go_ret
      exact ⟨rfl, b1⟩
    · have HE := Lib.hid hE
      clear hE
      go_enter Tryz.func7, Tryz.ntmps7
      go_wp2_with fail
      refine (alive15 _ HE.out).mono ?_
      rintro e w1 ⟨rfl, b1⟩
      go_wp2_with fail
      go_loopw [3, 4] (fun u3 u4 wr => ∃ (i : Nat) (T : ByteArray), i ≤ s.size ∧ u4 = .int .i64 i ∧ u3 = .string T ∧ T.data.toList = escL (s.data.toList.take i) ∧ (∀ x ∈ s.data.toList.take i, Shown x) ∧ Below w.heap.size w wr) (fun _ u4 _ => s.size - (intOf u4).toNat)
      case atStart => exact ⟨0, ⟨#[]⟩, Nat.zero_le _, rfl, rfl, rfl, fun x hx => by simp at hx, b1⟩
      case round =>
        obtain ⟨i, T, hi, rfl, rfl, hT, hsh, hB⟩ := hrel
        have HTT := Lib.hid hT
        have HS := Lib.hid hsh
        have hTz : T.size ≤ 120 := by
          have h1 := esc_len (s.data.toList.take i)
          rw [Lib.size_eq, hT]
          rw [List.length_take, ← Lib.size_eq] at h1
          omega
        clear hT hsh
        by_cases hlt : i < s.size
        · have hg := Lib.data_getElem? s i hlt
          obtain ⟨d, hd⟩ : ∃ d, s[i] = d := ⟨_, rfl⟩
          rw [hd] at hg
          have HG := Lib.hid hg
          clear hg
          by_cases u1 : (d.toNat : Int) < 32
          · go_wp2_with fail
            go_ret
            exact ⟨rfl, hB⟩
          · by_cases u2 : (127 : Int) ≤ (d.toNat : Int)
            · go_wp2_with fail
              go_ret
              exact ⟨rfl, hB⟩
            · have HN := Lib.hid (shown_take HS.out HG.out ⟨by omega, by omega⟩)
              have HSN := Lib.hid (esc_snoc _ _ _ HG.out)
              obtain ⟨D, hD⟩ : ∃ D : ByteArray, s.extract i (i + 1) = D := ⟨_, rfl⟩
              have hDl : D.data.toList = [d] := by
                rw [← hD]
                have := HG.out
                obtain ⟨hlt2, he2⟩ := List.getElem?_eq_some_iff.1 this
                rw [Lib.extract_data, show i + 1 - i = 1 by omega, List.drop_eq_getElem_cons hlt2, he2]
                rfl
              have hDz : D.size = 1 := by rw [Lib.size_eq, hDl]; rfl
              have HD := Lib.hid (And.intro hD hDl)
              clear hDl hD
              go_wp2_with fail
              refine (ascii_any d wr).mono ?_
              rintro e w2 ⟨rfl, b2⟩
              have hB2 := hB.trans (b2.mono hB.size)
              have hsl : s.extract i (i + 1) = D := HD.out.1
              cases hp : asciiP d
              · have HP := Lib.hid hp
                clear hp
                go_wp2_with fail
                go_roundw
                case rel =>
                  refine ⟨i + 1, _, by omega, by go_num, rfl, ?_, HN.out, hB2⟩
                  simp only [app_list]
                  rw [HSN.out, HTT.out, HD.out.2]
                  simp [escB, HP.out]
                case measure => simp [intOf]; omega
              · have HP := Lib.hid hp
                clear hp
                go_wp2_with fail
                go_roundw
                case rel =>
                  refine ⟨i + 1, _, by omega, by go_num, rfl, ?_, HN.out, hB2⟩
                  simp only [app_list]
                  rw [HSN.out, HTT.out, HD.out.2]
                  simp [escB, HP.out]
                case measure => simp [intOf]; omega
        · obtain rfl : i = s.size := by omega
          have hsh := HS.out
          rw [take_all] at hsh
          have hs0 : s.data.toList ≠ [] := by intro h; rw [Lib.size_eq, h] at h0; exact absurd h0 (by simp)
          have hpl := esc_plain s.data.toList hs0 hsh
          have hTT := HTT.out
          rw [take_all] at hTT
          have k1 : Calls Tryz.prog 11 #[.string T] wr fun e w' => ∃ g cap, e = .returned (.slice (some ⟨g, 0, none⟩) 1 cap) ∧
              (w'.cell? ⟨g, 0, none⟩ = some (.int .i64 1) ∧ w'.cell? ⟨g, 1, none⟩ = some (.int .i64 0) ∧ w'.cell? ⟨g, 2, none⟩ = some (.string s) ∧ w'.cell? ⟨g, 3, none⟩ = some (.string ⟨#[]⟩) ∧ w'.cell? ⟨g, 4, none⟩ = some (.string ⟨#[]⟩)) ∧ Below wr.heap.size wr w' := by
            refine (raw_any T wr (HE.out.below hB) (by omega)).mono ?_
            rintro e w' ⟨v, rfl, hI, hb⟩
            rw [hTT, hpl] at hI
            obtain ⟨g, cap, rfl, hg, hc⟩ := inls_at hI (by simp)
            have := hc 0 _ rfl
            simp only [wordsI, Lib.mk_data] at this
            exact ⟨g, cap, rfl, this, hb⟩
          have K1 := Lib.hid k1
          clear k1 hpl hsh hs0 hTT HTT HS
          go_wp2_with fail
          refine K1.out.mono ?_
          rintro e w5 ⟨g, cap, rfl, ⟨a0, a1, a2, a3, a4⟩, b5⟩
          have B5 := hB.trans (b5.mono hB.size)
          go_wp2_with fail
          go_ret
          exact ⟨rfl, B5⟩
  · have he := empty_yes (s := s) (by omega)
    go_enter Tryz.func7, Tryz.ntmps7
    go_wp2_with fail
    refine (alive15 _ hE).mono ?_
    rintro e w1 ⟨rfl, b1⟩
    go_wp2_with fail
    go_ret
    exact ⟨rfl, b1⟩

end Go.Proofs.YtahljcbmckldhaaGreatDoor
