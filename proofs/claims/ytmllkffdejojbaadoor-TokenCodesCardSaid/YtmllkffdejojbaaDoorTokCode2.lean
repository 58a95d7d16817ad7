/-
  token.code: the walk.
-/
import Derived.Test.YtmllkffdejojbaaDoorTokCode
namespace Go.Proofs.YtmllkffdejojbaaDoor
open Go.RowKit
set_option maxRecDepth 100000
set_option linter.unusedVariables false
set_option linter.unusedSimpArgs false

theorem suf_one (l : List UInt8) (c : UInt8) : Lib.hasSuffix l [c] = decide (l.getLast? = some c) := by
  unfold Lib.hasSuffix
  rw [Bool.eq_iff_iff, decide_eq_true_eq, List.isSuffixOf_iff_suffix]
  constructor
  · rintro ⟨a, rfl⟩; simp
  · intro h
    obtain ⟨a, rfl⟩ := List.getLast?_eq_some_iff.1 h
    exact ⟨a, rfl⟩
theorem suf_at (c : UInt8) (s : ByteArray) (w : World) (hs : s.size ≤ 1000000000) :
    Calls Tryd.prog 104 #[.string s, .string ⟨#[c]⟩] w fun e w' => e = .returned (.bool (decide (s.data.toList.getLast? = some c))) ∧ w' = w := by
  have := Tryd.strings_HasSuffix s ⟨#[c]⟩ w (by omega)
  rw [show (ByteArray.mk #[c]).data.toList = [c] from rfl, suf_one] at this
  exact this

theorem dropAll (c : UInt8) : ∀ l : List UInt8, (l.dropWhile (· == c)).isEmpty = !(l.any (fun x => x != c))
  | [] => rfl
  | x :: l => by
    have ih := dropAll c l
    rw [List.dropWhile_cons, List.any_cons]
    by_cases h : x = c
    · subst h; simpa using ih
    · simp [h]
theorem trim_empty (l : List UInt8) (c : UInt8) : (Lib.trimB l c).isEmpty = !(l.any (fun x => x != c)) := by
  unfold Lib.trimB Lib.trimLeftB
  rw [dropAll]
  unfold Lib.trimRightB
  have h := dropAll c l.reverse
  rw [List.any_reverse] at h
  rw [List.any_reverse]
  cases ha : l.any (fun x => x != c)
  · rw [ha] at h
    have : l.reverse.dropWhile (· == c) = [] := by simpa using h
    rw [this]; rfl
  · congr 1
    rw [List.any_eq_true] at ha ⊢
    obtain ⟨x, hx, hxc⟩ := ha
    have key : ∀ m : List UInt8, x ∈ m → (x != c) = true → x ∈ m.dropWhile (· == c) := by
      intro m
      induction m with
      | nil => intro h _; cases h
      | cons y m ih =>
        intro hm hc
        rw [List.dropWhile_cons]
        split
        · rename_i hy
          refine ih ?_ hc
          rcases List.mem_cons.1 hm with e | e
          · exfalso; rw [← e] at hy; simp at hy hc; exact hc hy
          · exact e
        · exact hm
    exact ⟨x, key _ (List.mem_reverse.2 hx) hxc, hxc⟩

theorem trim_any (s : ByteArray) (w : World) (hs : s.size ≤ 1000000000) :
    Calls Tryd.prog 105 #[.string s, .string ⟨#[32]⟩] w fun e w' => ∃ Y : ByteArray, e = .returned (.string Y) ∧ Y.toList.isEmpty = !(s.data.toList.any (fun c => c != 32)) ∧ Below w.heap.size w w' := by
  refine (Tryd.strings_Trim_one s 32 (by decide) w (by omega)).mono ?_
  rintro e w' ⟨rfl, h⟩
  refine ⟨_, rfl, ?_, ?_⟩
  · rw [Lib.toList_data]; exact trim_empty _ _
  · rcases h with rfl | rfl
    · exact Below.refl _ _
    · exact (Below.refl _ _).drew

theorem any_len {l : List UInt8} (h1 : l.head? = some 32) (h2 : l.getLast? = some 32) (h3 : l.any (fun c => c != 32) = true) : 3 ≤ l.length := by
  match l, h1, h2, h3 with
  | [a], h1, _, h3 => simp at h1; subst h1; simp at h3
  | [a, b], h1, h2, h3 => simp at h1 h2; subst h1 h2; simp at h3
  | a :: b :: c :: l, _, _, _ => simp

/-- The relation of the loop. -/
def CodeRel (s : ByteArray) (n i : Nat) : Prop := ∃ f, codeGo f s.data.toList n i = codeL s.data.toList ∧ s.size < i + f

set_option maxHeartbeats 8000000 in
theorem code_tok (s : ByteArray) (w : World) (hE : Env w) (hs : s.size ≤ 1000000000) :
    Calls Tryd.prog 81 #[.string s] w fun e w' => e = .returned (.tuple #[(codeL s.data.toList).1.val, .int .i64 (codeL s.data.toList).2]) ∧ Below w.heap.size w w' := by
  have hc := fun W => among_small [96] (by decide) (by decide) s W hs
  have hle := among_le s.data.toList [96]
  rw [← Lib.size_eq] at hle
  have h0 : CodeRel s (amongL s.data.toList [96]) (amongL s.data.toList [96]) := ⟨s.size + 1, by rw [Lib.size_eq]; rfl, by omega⟩
  obtain ⟨n, hn⟩ : ∃ n, amongL s.data.toList [96] = n := ⟨_, rfl⟩
  rw [hn] at hc hle h0
  have HC := Lib.hid hc
  have H0 := Lib.hid h0
  have HE := Lib.hid hE
  clear hc hn h0 hE
  go_enter Tryd.func81, Tryd.ntmps81
  go_wp2_with fail
  refine (HC.out _).mono ?_
  rintro e w2 ⟨rfl, b2⟩
  go_wp2_with fail
  go_loopw [5] (fun u5 wr => ∃ i : Nat, u5 = .int .i64 i ∧ i ≤ s.size ∧ n ≤ i ∧ CodeRel s n i ∧ Below w.heap.size w wr) (fun u5 _ => s.size - (intOf u5).toNat)
  case atStart => exact ⟨n, rfl, hle, Nat.le_refl _, H0.out, b2⟩
  case round =>
    obtain ⟨i, rfl, hi, hni0, hrl, hB⟩ := hrel
    clear b2
    have HR := Lib.hid hrl
    clear hrl
    by_cases hit : i < s.size
    · obtain ⟨f, hf, hfi⟩ := HR.out
      obtain ⟨f, rfl⟩ : ∃ g, f = g + 1 := ⟨f - 1, by omega⟩
      rw [codeGo] at hf
      have hix := fun W => Tryd.strings_IndexByte (s.extract i s.size) 96 W
      rw [tail_list, show ((96 : Int).toNat.toUInt8) = 96 from rfl] at hix
      have hlt := indexByte_lt 96 (s.data.toList.drop i)
      obtain ⟨k, hk⟩ : ∃ k, Lib.indexByte (s.data.toList.drop i) 96 = k := ⟨_, rfl⟩
      rw [hk] at hix hf hlt
      have HIX := Lib.hid hix
      clear hix hk HR
      by_cases hk0 : k < 0
      · rw [if_pos hk0] at hf
        have HF := Lib.hid hf
        clear hf hlt
        go_wp2_with fail
        refine (HIX.out _).mono ?_
        rintro e _ ⟨rfl, rfl⟩
        go_wp2_with fail
        go_ret2
        exact ⟨ret_cword HF.out.symm (by rw [Lib.extract_data]; simp) rfl, hB⟩
      · rw [if_neg hk0] at hf
        obtain ⟨K, rfl⟩ : ∃ K : Nat, k = K := ⟨k.toNat, by omega⟩
        obtain ⟨hl1, hl2⟩ := hlt (by omega)
        rw [List.length_drop, ← Lib.size_eq, Int.toNat_natCast] at hl1
        rw [Int.toNat_natCast] at hl2 hf
        rw [List.getElem?_drop] at hl2
        have hca := fun W => among_small [96] (by decide) (by decide) (s.extract (i + K) s.size) W (by rw [tail_size]; omega)
        rw [tail_list] at hca
        have hml := among_le (s.data.toList.drop (i + K)) [96]
        rw [List.length_drop, ← Lib.size_eq] at hml
        have hm1 : 1 ≤ amongL (s.data.toList.drop (i + K)) [96] := by
          have hx : s.data.toList.drop (i + K) = 96 :: s.data.toList.drop (i + K + 1) := by
            obtain ⟨hlen, he⟩ := List.getElem?_eq_some_iff.1 hl2
            rw [List.drop_eq_getElem_cons hlen, he]
          rw [hx, among_cons]
          simp
        obtain ⟨m, hm⟩ : ∃ m, amongL (s.data.toList.drop (i + K)) [96] = m := ⟨_, rfl⟩
        rw [hm] at hca hf hml hm1
        have HCA := Lib.hid hca
        clear hca hm hl2
        have hKi : (i : Int) + (K : Int) ≤ (s.size : Int) := by omega
        by_cases hmn : m = n
        · have hmn' : ((m : Int) == (n : Int)) = true := by rw [beq_iff_eq]; omega
          rw [if_pos hmn] at hf
          have hni : n ≤ i + K := by omega
          have hni' : (n : Int) ≤ (i : Int) + (K : Int) := by omega
          have hlf := fun W hW => lf_any (s.extract n (i + K)) W hW (by rw [Lib.size_eq, Lib.extract_data, List.length_take]; omega)
          have hxl : (s.extract n (i + K)).data.toList = (s.data.toList.take (i + K)).drop n := by rw [Lib.extract_data, List.drop_take]
          rw [hxl] at hlf
          obtain ⟨X, hX, hXz⟩ := ba_ex (lfBlank ((s.data.toList.take (i + K)).drop n))
          rw [← hX] at hlf
          simp only [Lib.mk_data] at hlf
          have hXs : X.size ≤ 1000000000 := by rw [hXz, lf_len, List.length_drop, List.length_take, ← Lib.size_eq]; omega
          unfold codeText at hf
          rw [← hX] at hf
          have hp1 := fun W => pre_at 32 X W
          have hp2 := fun W => suf_at 32 X W hXs
          have hp3 := fun W => trim_any X W hXs
          have HLF := Lib.hid hlf
          clear hlf hX hXz hxl
          by_cases t1 : X.data.toList.head? = some 32
          · rw [decide_eq_true t1] at hp1
            by_cases t2 : X.data.toList.getLast? = some 32
            · rw [decide_eq_true t2] at hp2
              cases t3 : X.data.toList.any (fun c => c != 32)
              · rw [if_neg (by rw [t3]; simp)] at hf
                rw [t3] at hp3
                have HP3 := Lib.hid hp3
                have HF := Lib.hid hf
                have HP1 := Lib.hid hp1
                have HP2 := Lib.hid hp2
                clear hf hp1 hp2 hp3
                go_wp2_with fail
                refine (HIX.out _).mono ?_
                rintro e _ ⟨rfl, rfl⟩
                go_wp2_with fail
                refine (HCA.out _).mono ?_
                rintro e w3 ⟨rfl, b3⟩
                have B3 := below_step hB b3
                go_wp2_with fail
                refine (HLF.out _ (HE.out.below B3)).mono ?_
                rintro e w4 ⟨rfl, b4⟩
                have B4 := below_step B3 b4
                go_wp2_with fail
                refine (HP1.out _).mono ?_
                rintro e _ ⟨rfl, rfl⟩
                go_wp2_with fail
                refine (HP2.out _).mono ?_
                rintro e _ ⟨rfl, rfl⟩
                go_wp2_with fail
                refine (HP3.out _).mono ?_
                rintro e w5 ⟨Y, rfl, hY, b5⟩
                have hY1 : (!Y.toList.isEmpty) = _ := congrArg Bool.not hY
                simp only [Bool.not_not, Bool.not_true, Bool.not_false] at hY hY1
                go_wp2_with fail
                go_ret2
                exact ⟨ret_ccode HF.out.symm rfl (by omega), below_step B4 b5⟩
              · rw [if_pos ⟨t1, t2, t3⟩] at hf
                rw [t3] at hp3
                have hX3 := any_len t1 t2 t3
                rw [← Lib.size_eq] at hX3
                have hx3' : (1 : Int) ≤ (X.size : Int) - 1 := by omega
                have HP3 := Lib.hid hp3
                have HF := Lib.hid hf
                have HP1 := Lib.hid hp1
                have HP2 := Lib.hid hp2
                clear hf hp1 hp2 hp3
                go_wp2_with fail
                refine (HIX.out _).mono ?_
                rintro e _ ⟨rfl, rfl⟩
                go_wp2_with fail
                refine (HCA.out _).mono ?_
                rintro e w3 ⟨rfl, b3⟩
                have B3 := below_step hB b3
                go_wp2_with fail
                refine (HLF.out _ (HE.out.below B3)).mono ?_
                rintro e w4 ⟨rfl, b4⟩
                have B4 := below_step B3 b4
                go_wp2_with fail
                refine (HP1.out _).mono ?_
                rintro e _ ⟨rfl, rfl⟩
                go_wp2_with fail
                refine (HP2.out _).mono ?_
                rintro e _ ⟨rfl, rfl⟩
                go_wp2_with fail
                refine (HP3.out _).mono ?_
                rintro e w5 ⟨Y, rfl, hY, b5⟩
                have hY1 : (!Y.toList.isEmpty) = _ := congrArg Bool.not hY
                simp only [Bool.not_not, Bool.not_true, Bool.not_false] at hY hY1
                go_wp2_with fail
                go_ret2
                exact ⟨ret_ccode HF.out.symm (by rw [Lib.extract_data, List.dropLast_eq_take, ← List.drop_one, List.length_drop, ← Lib.size_eq]) (by omega), below_step B4 b5⟩
            · rw [decide_eq_false t2] at hp2
              rw [if_neg (by rintro ⟨_, h, _⟩; exact t2 h)] at hf
              have HF := Lib.hid hf
              have HP1 := Lib.hid hp1
              have HP2 := Lib.hid hp2
              clear hf hp1 hp2 hp3
              go_wp2_with fail
              refine (HIX.out _).mono ?_
              rintro e _ ⟨rfl, rfl⟩
              go_wp2_with fail
              refine (HCA.out _).mono ?_
              rintro e w3 ⟨rfl, b3⟩
              have B3 := below_step hB b3
              go_wp2_with fail
              refine (HLF.out _ (HE.out.below B3)).mono ?_
              rintro e w4 ⟨rfl, b4⟩
              have B4 := below_step B3 b4
              go_wp2_with fail
              refine (HP1.out _).mono ?_
              rintro e _ ⟨rfl, rfl⟩
              go_wp2_with fail
              refine (HP2.out _).mono ?_
              rintro e _ ⟨rfl, rfl⟩
              go_wp2_with fail
              go_ret2
              exact ⟨ret_ccode HF.out.symm rfl (by omega), B4⟩
          · rw [decide_eq_false t1] at hp1
            rw [if_neg (by rintro ⟨h, _, _⟩; exact t1 h)] at hf
            have HF := Lib.hid hf
            have HP1 := Lib.hid hp1
            have HP2 := Lib.hid hp2
            clear hf hp1 hp2 hp3
            go_wp2_with fail
            refine (HIX.out _).mono ?_
            rintro e _ ⟨rfl, rfl⟩
            go_wp2_with fail
            refine (HCA.out _).mono ?_
            rintro e w3 ⟨rfl, b3⟩
            have B3 := below_step hB b3
            go_wp2_with fail
            refine (HLF.out _ (HE.out.below B3)).mono ?_
            rintro e w4 ⟨rfl, b4⟩
            have B4 := below_step B3 b4
            go_wp2_with fail
            refine (HP1.out _).mono ?_
            rintro e _ ⟨rfl, rfl⟩
            go_wp2_with fail
            go_ret2
            exact ⟨ret_ccode HF.out.symm rfl (by omega), B4⟩
        · have hmn' : ((m : Int) == (n : Int)) = false := by rw [beq_eq_false_iff_ne]; omega
          rw [if_neg hmn] at hf
          have HF := Lib.hid hf
          clear hf
          go_wp2_with fail
          refine (HIX.out _).mono ?_
          rintro e _ ⟨rfl, rfl⟩
          go_wp2_with fail
          refine (HCA.out _).mono ?_
          rintro e w3 ⟨rfl, b3⟩
          go_wp2_with fail
          go_roundw
          case rel => exact ⟨i + K + m, by go_num, by omega, by omega, ⟨f, HF.out, by omega⟩, below_step hB b3⟩
          case measure => simp [intOf]; omega
    · obtain rfl : i = s.size := by omega
      obtain ⟨f, hf, hfi⟩ := HR.out
      obtain ⟨f, rfl⟩ : ∃ g, f = g + 1 := ⟨f - 1, by omega⟩
      rw [codeGo, drop_end s s.size (Nat.le_refl _), if_pos (by decide)] at hf
      have HF := Lib.hid hf
      clear hf HR
      go_wp2_with fail
      go_ret2
      exact ⟨ret_cword HF.out.symm (by rw [Lib.extract_data]; simp) rfl, hB⟩

end Go.Proofs.YtmllkffdejojbaaDoor
