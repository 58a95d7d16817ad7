/-
  target.Title: the title with which a text begins.
-/
import Derived.Test.YtmllkffdejojbaaDoorDest
import Derived.Test.YtmllkffdejojbaaDoorTgtLaw2
import Derived.Test.YtmllkffdejojbaaDoorIdxRune
namespace Go.Proofs.YtmllkffdejojbaaDoor
open Go.RowKit
set_option maxRecDepth 100000
set_option linter.unusedVariables false
set_option linter.unusedSimpArgs false

theorem containsRune_big (s : ByteArray) (r : Int) (w : World) (hs : AllAscii s.data.toList) (hz : s.size ≤ 1000000000) (h0 : 128 ≤ r) (h1 : r ≤ 2147483647) :
    Calls Tryd.prog 48 #[.string s, .int .i32 r] w fun e w' => e = .returned (.bool false) ∧ Below w.heap.size w w' := by
  go_enter Tryd.func48, Tryd.ntmps48
  go_wp2_with fail
  refine (indexRune_big s r w hs hz h0 h1).mono ?_
  rintro e w' ⟨rfl, hb⟩
  go_wp2_with fail
  go_ret
  exact ⟨rfl, hb⟩

/-- Is a rune in ASCII text? -/
theorem containsRune_nat (s : ByteArray) (r : Nat) (w : World) (hs : AllAscii s.data.toList) (hz : s.size ≤ 1000000000) (h1 : r ≤ 1114111) :
    Calls Tryd.prog 48 #[.string s, .int .i32 r] w fun e w' => e = .returned (.bool (s.data.toList.any (fun b => b.toNat == r))) ∧ Below w.heap.size w w' := by
  by_cases h : r < 128
  · refine (Tryd.strings_ContainsRune_ascii s r w (by omega) (by omega)).mono ?_
    rintro e w' ⟨rfl, rfl⟩
    refine ⟨ret_bool ?_, Below.refl _ _⟩
    have hl : ∀ l : List UInt8, decide (0 ≤ Lib.indexByte l ((r : Int).toNat.toUInt8)) = l.any (fun b => b.toNat == r) := by
      intro l
      induction l with
      | nil => rfl
      | cons b l ih =>
        have hb : (b == (r : Int).toNat.toUInt8) = (b.toNat == r) := by
          rw [Bool.eq_iff_iff]
          simp only [beq_iff_eq, Int.toNat_natCast]
          constructor
          · intro e; rw [e]; simp; omega
          · intro e; rw [← e]; simp
        unfold Lib.indexByte
        rw [List.any_cons, ← ih, hb]
        cases (b.toNat == r)
        · simp only [Bool.false_eq_true, if_false, Bool.false_or]
          have := Lib.indexByte_ge l ((r : Int).toNat.toUInt8)
          by_cases hh : Lib.indexByte l ((r : Int).toNat.toUInt8) = -1
          · rw [hh]; rfl
          · have h3 : 0 ≤ Lib.indexByte l ((r : Int).toNat.toUInt8) := by omega
            rw [if_neg (by simpa using hh), decide_eq_true h3, decide_eq_true (by omega)]
        · rfl
    exact hl _
  · refine (containsRune_big s r w hs hz (by omega) (by omega)).mono ?_
    rintro e w' ⟨rfl, hb⟩
    refine ⟨ret_bool ?_, hb⟩
    refine (List.any_eq_false.2 ?_).symm
    intro b hbm
    have := hs b hbm
    simp; omega

theorem title_hit {q : UInt8} {r : List UInt8} {i : Nat} (hq : IsQuote q) (h : scanTo (endOf q) (fun d => d == 40 && endOf q == 41) r.length r 1 = some i) : title (q :: r) = (unesc ((q :: r).take i).tail, i + 1, true) := by
  rw [title_eq q r hq, h]
  simp only [List.drop_one]
theorem title_miss {q : UInt8} {r : List UInt8} (hq : IsQuote q) (h : scanTo (endOf q) (fun d => d == 40 && endOf q == 41) r.length r 1 = none) : title (q :: r) = ([], 0, false) := by
  rw [title_eq q r hq, h]
theorem title_other {q : UInt8} {r : List UInt8} (hq : ¬ IsQuote q) : title (q :: r) = ([], 0, false) := by
  unfold title
  simp only
  rw [if_neg (show ¬ (q = 34 ∨ q = 39 ∨ q = 40) from hq)]

set_option maxHeartbeats 4000000 in
theorem title_34 (s : ByteArray) (r : List UInt8) (w : World) (hE : Env w) (hz : s.size ≤ 1000000000) (hs : s.data.toList = 34 :: r) :
    Calls Tryd.prog 26 #[.string s] w fun e w' => e = .returned (.tuple #[.string ⟨(title s.data.toList).1.toArray⟩, .int .i64 (title s.data.toList).2.1, .bool (title s.data.toList).2.2]) ∧ Below w.heap.size w w' := by
  obtain ⟨bad, hbad⟩ : ∃ b, b = (fun d : UInt8 => d == 40 && endOf 34 == 41) := ⟨_, rfl⟩
  obtain ⟨R, hR⟩ : ∃ R, scanTo 34 bad r.length r 1 = R := ⟨_, rfl⟩
  have hlen : s.size = r.length + 1 := by rw [Lib.size_eq, hs]; rfl
  have h1 : ScanTo s 34 bad 1 R := ⟨_, by rw [hs]; exact hR, by omega⟩
  have hq : IsQuote 34 := by unfold IsQuote; decide
  have HT := Lib.hid (show ∀ i, R = some i → title s.data.toList = (unesc (s.data.toList.take i).tail, i + 1, true) from fun i h => by rw [hs]; exact title_hit hq (by rw [← hbad]; exact hR.trans h))
  have HM := Lib.hid (show R = none → title s.data.toList = ([], 0, false) from fun h => by rw [hs]; exact title_miss hq (by rw [← hbad]; exact hR.trans h))
  have h0z : 0 < s.size := by omega
  have h0 : s[0] = 34 := by
    have := Lib.data_getElem? s 0 h0z
    rw [hs] at this
    simp at this
    exact this.symm
  have hne : s.toList.isEmpty = false := by rw [Lib.toList_data, hs]; rfl
  have hne2 : (!s.toList.isEmpty) = true := by rw [hne]; rfl
  have hb0 : ∀ x : UInt8, bad x = (x == 40 && false) := fun x => by rw [hbad]; rfl
  have HB := Lib.hid hb0
  have hcr : ∀ W, Calls Tryd.prog 48 #[.string ⟨#[34, 39, 40]⟩, .int .i32 34] W fun e w' => e = .returned (.bool true) ∧ Below W.heap.size W w' := fun W => containsRune_nat ⟨#[34, 39, 40]⟩ 34 W (by unfold AllAscii; decide) (by decide) (by omega)
  have HCR := Lib.hid hcr
  clear hR hs hbad hb0 hcr hq
  have hsz0 : (0 : Int) < (s.size : Int) := by omega
  go_enter Tryd.func26, Tryd.ntmps26
  go_wp2_with fail
  refine (HCR.out _).mono ?_
  rintro e w1 ⟨rfl, hb1⟩
  clear hne hne2
  go_wp2_with fail
  go_loop [6] (fun u6 => ∃ i : Nat, 1 ≤ i ∧ i ≤ 1000000002 ∧ u6 = .int .i64 i ∧ ScanTo s 34 bad i R) (fun u6 => s.size - (intOf u6).toNat)
  case atStart => exact ⟨1, by omega, by omega, rfl, h1⟩
  case round =>
    obtain ⟨i, hi1, hi2, rfl, hsc⟩ := hrel
    clear h1 h0
    by_cases hlt : i < s.size
    · obtain ⟨c, hc⟩ : ∃ c, s[i] = c := ⟨_, rfl⟩
      have HSC := Lib.hid hsc
      have HC := Lib.hid hc
      clear hsc
      by_cases c1 : c.toNat = 92
      · have ht : ((c.toNat : Int) == 92) = true := by simp; omega
        have hc92 : c = 92 := byte_eq c1
        have hzC : ∀ W, Calls Tryd.prog 49 #[.string s, .int .i64 ((i : Int) + 1)] W fun e w' => e = .returned (.bool (decide (s.data.toList[i + 1]? = some 0))) ∧ w' = W := fun W => zero_any s _ (i + 1) (by omega) W hz
        by_cases hzz : s.data.toList[i + 1]? = some 0
        · rw [decide_eq_true hzz] at hzC
          have HZ := Lib.hid hzC
          have HN := Lib.hid (HM.out (scan_slash0 HSC.out hlt (by rw [HC.out, hc92]) hzz))
          clear hzC hzz c1 hc92
          go_wp2_with fail
          refine (HZ.out _).mono ?_
          rintro e w' ⟨rfl, rfl⟩
          go_wp2_with fail
          go_ret3
          exact ⟨ret_sib HN.out rfl, hb1⟩
        · rw [decide_eq_false hzz] at hzC
          have HZ := Lib.hid hzC
          have HN := Lib.hid (scan_slash1 HSC.out hlt (by rw [HC.out, hc92]) hzz)
          clear hzC hzz c1 hc92
          go_wp2_with fail
          refine (HZ.out _).mono ?_
          rintro e w' ⟨rfl, rfl⟩
          go_wp2_with fail
          go_round
          case rel => exact ⟨i + 2, by omega, by omega, by go_num, HN.out⟩
          case measure => simp [intOf]; omega
      · have ht : ((c.toNat : Int) == 92) = false := by simp; omega
        have h92 : c ≠ 92 := byte_ne (n := 92) (by omega) c1
        clear c1
        by_cases c4 : c.toNat = 34
        · have ht4 : ((c.toNat : Int) == 34) = true := by simp; omega
          have HN := Lib.hid (HT.out i (scan_hit0 HSC.out hlt (by rw [HC.out, byte_eq c4]; rfl) (by decide)))
          clear c4 h92
          obtain ⟨S, hS⟩ : ∃ S : ByteArray, s.extract 1 i = S := ⟨_, rfl⟩
          have hSl : S.data.toList = (s.data.toList.take i).tail := by rw [← hS, ext_list]
          have hSz : S.size ≤ 1000000000 := by rw [Lib.size_eq, hSl]; simp; omega
          have hun := unesc_any S w1 (hE.below hb1) hSz
          rw [hSl] at hun
          have HU := Lib.hid hun
          clear hun hSl
          go_wp2_with fail
          refine (HU.out).mono ?_
          rintro e w' ⟨rfl, hb⟩
          go_wp2_with fail
          go_ret3
          exact ⟨ret_sib (m := i + 1) HN.out (by simp), below_step hb1 hb⟩
        · have ht4 : ((c.toNat : Int) == 34) = false := by simp; omega
          have hce : c ≠ 34 := byte_ne (n := 34) (by omega) c4
          clear c4
          by_cases c2 : c.toNat = 40
          · have ht2 : ((c.toNat : Int) == 40) = true := by simp; omega
            have hzC : ∀ W, Calls Tryd.prog 49 #[.string s, .int .i64 (i : Int)] W fun e w' => e = .returned (.bool (decide (s.data.toList[i]? = some 0))) ∧ w' = W := fun W => zero_any s _ i rfl W hz
            have hgi : s.data.toList[i]? = some c := by rw [← HC.out]; exact Lib.data_getElem? s i hlt
            rw [hgi] at hzC
            have hbadc : bad c = false := by rw [HB.out]; simp
            by_cases c5 : c = 0
            · rw [decide_eq_true (congrArg some c5)] at hzC
              have HZ := Lib.hid hzC
              have HN := Lib.hid (HM.out (scan_bad0 HSC.out hlt HC.out h92 hce (Or.inr c5)))
              clear hzC hgi hbadc c5 h92 hce
              go_wp2_with fail
              refine (HZ.out _).mono ?_
              rintro e w' ⟨rfl, rfl⟩
              go_wp2_with fail
              go_ret3
              exact ⟨ret_sib HN.out rfl, hb1⟩
            · rw [decide_eq_false (fun h => c5 (Option.some.inj h))] at hzC
              have HZ := Lib.hid hzC
              have HN := Lib.hid (scan_next HSC.out hlt HC.out h92 hce (by rw [hbadc]; simp [c5]))
              clear hzC hgi hbadc c5 h92 hce
              go_wp2_with fail
              refine (HZ.out _).mono ?_
              rintro e w' ⟨rfl, rfl⟩
              go_wp2_with fail
              go_round
              case rel => exact ⟨i + 1, by omega, by omega, by go_num, HN.out⟩
              case measure => simp [intOf]; omega
          · have ht2 : ((c.toNat : Int) == 40) = false := by simp; omega
            have hc40 : c ≠ 40 := byte_ne (n := 40) (by omega) c2
            clear c2
            have hzC : ∀ W, Calls Tryd.prog 49 #[.string s, .int .i64 (i : Int)] W fun e w' => e = .returned (.bool (decide (s.data.toList[i]? = some 0))) ∧ w' = W := fun W => zero_any s _ i rfl W hz
            have hgi : s.data.toList[i]? = some c := by rw [← HC.out]; exact Lib.data_getElem? s i hlt
            rw [hgi] at hzC
            have hbadc : bad c = false := by rw [HB.out]; simp [hc40]
            by_cases c5 : c = 0
            · rw [decide_eq_true (congrArg some c5)] at hzC
              have HZ := Lib.hid hzC
              have HN := Lib.hid (HM.out (scan_bad0 HSC.out hlt HC.out h92 hce (Or.inr c5)))
              clear hzC hgi hbadc c5 h92 hce
              go_wp2_with fail
              refine (HZ.out _).mono ?_
              rintro e w' ⟨rfl, rfl⟩
              go_wp2_with fail
              go_ret3
              exact ⟨ret_sib HN.out rfl, hb1⟩
            · rw [decide_eq_false (fun h => c5 (Option.some.inj h))] at hzC
              have HZ := Lib.hid hzC
              have HN := Lib.hid (scan_next HSC.out hlt HC.out h92 hce (by rw [hbadc]; simp [c5]))
              clear hzC hgi hbadc c5 h92 hce
              go_wp2_with fail
              refine (HZ.out _).mono ?_
              rintro e w' ⟨rfl, rfl⟩
              go_wp2_with fail
              go_round
              case rel => exact ⟨i + 1, by omega, by omega, by go_num, HN.out⟩
              case measure => simp [intOf]; omega
    · have HN := Lib.hid (HM.out (scan_end0 hsc hlt))
      clear hsc
      go_wp2_with fail
      go_ret3
      exact ⟨ret_sib HN.out rfl, hb1⟩

set_option maxHeartbeats 4000000 in
theorem title_39 (s : ByteArray) (r : List UInt8) (w : World) (hE : Env w) (hz : s.size ≤ 1000000000) (hs : s.data.toList = 39 :: r) :
    Calls Tryd.prog 26 #[.string s] w fun e w' => e = .returned (.tuple #[.string ⟨(title s.data.toList).1.toArray⟩, .int .i64 (title s.data.toList).2.1, .bool (title s.data.toList).2.2]) ∧ Below w.heap.size w w' := by
  obtain ⟨bad, hbad⟩ : ∃ b, b = (fun d : UInt8 => d == 40 && endOf 39 == 41) := ⟨_, rfl⟩
  obtain ⟨R, hR⟩ : ∃ R, scanTo 39 bad r.length r 1 = R := ⟨_, rfl⟩
  have hlen : s.size = r.length + 1 := by rw [Lib.size_eq, hs]; rfl
  have h1 : ScanTo s 39 bad 1 R := ⟨_, by rw [hs]; exact hR, by omega⟩
  have hq : IsQuote 39 := by unfold IsQuote; decide
  have HT := Lib.hid (show ∀ i, R = some i → title s.data.toList = (unesc (s.data.toList.take i).tail, i + 1, true) from fun i h => by rw [hs]; exact title_hit hq (by rw [← hbad]; exact hR.trans h))
  have HM := Lib.hid (show R = none → title s.data.toList = ([], 0, false) from fun h => by rw [hs]; exact title_miss hq (by rw [← hbad]; exact hR.trans h))
  have h0z : 0 < s.size := by omega
  have h0 : s[0] = 39 := by
    have := Lib.data_getElem? s 0 h0z
    rw [hs] at this
    simp at this
    exact this.symm
  have hne : s.toList.isEmpty = false := by rw [Lib.toList_data, hs]; rfl
  have hne2 : (!s.toList.isEmpty) = true := by rw [hne]; rfl
  have hb0 : ∀ x : UInt8, bad x = (x == 40 && false) := fun x => by rw [hbad]; rfl
  have HB := Lib.hid hb0
  have hcr : ∀ W, Calls Tryd.prog 48 #[.string ⟨#[34, 39, 40]⟩, .int .i32 39] W fun e w' => e = .returned (.bool true) ∧ Below W.heap.size W w' := fun W => containsRune_nat ⟨#[34, 39, 40]⟩ 39 W (by unfold AllAscii; decide) (by decide) (by omega)
  have HCR := Lib.hid hcr
  clear hR hs hbad hb0 hcr hq
  have hsz0 : (0 : Int) < (s.size : Int) := by omega
  go_enter Tryd.func26, Tryd.ntmps26
  go_wp2_with fail
  refine (HCR.out _).mono ?_
  rintro e w1 ⟨rfl, hb1⟩
  clear hne hne2
  go_wp2_with fail
  go_loop [6] (fun u6 => ∃ i : Nat, 1 ≤ i ∧ i ≤ 1000000002 ∧ u6 = .int .i64 i ∧ ScanTo s 39 bad i R) (fun u6 => s.size - (intOf u6).toNat)
  case atStart => exact ⟨1, by omega, by omega, rfl, h1⟩
  case round =>
    obtain ⟨i, hi1, hi2, rfl, hsc⟩ := hrel
    clear h1 h0
    by_cases hlt : i < s.size
    · obtain ⟨c, hc⟩ : ∃ c, s[i] = c := ⟨_, rfl⟩
      have HSC := Lib.hid hsc
      have HC := Lib.hid hc
      clear hsc
      by_cases c1 : c.toNat = 92
      · have ht : ((c.toNat : Int) == 92) = true := by simp; omega
        have hc92 : c = 92 := byte_eq c1
        have hzC : ∀ W, Calls Tryd.prog 49 #[.string s, .int .i64 ((i : Int) + 1)] W fun e w' => e = .returned (.bool (decide (s.data.toList[i + 1]? = some 0))) ∧ w' = W := fun W => zero_any s _ (i + 1) (by omega) W hz
        by_cases hzz : s.data.toList[i + 1]? = some 0
        · rw [decide_eq_true hzz] at hzC
          have HZ := Lib.hid hzC
          have HN := Lib.hid (HM.out (scan_slash0 HSC.out hlt (by rw [HC.out, hc92]) hzz))
          clear hzC hzz c1 hc92
          go_wp2_with fail
          refine (HZ.out _).mono ?_
          rintro e w' ⟨rfl, rfl⟩
          go_wp2_with fail
          go_ret3
          exact ⟨ret_sib HN.out rfl, hb1⟩
        · rw [decide_eq_false hzz] at hzC
          have HZ := Lib.hid hzC
          have HN := Lib.hid (scan_slash1 HSC.out hlt (by rw [HC.out, hc92]) hzz)
          clear hzC hzz c1 hc92
          go_wp2_with fail
          refine (HZ.out _).mono ?_
          rintro e w' ⟨rfl, rfl⟩
          go_wp2_with fail
          go_round
          case rel => exact ⟨i + 2, by omega, by omega, by go_num, HN.out⟩
          case measure => simp [intOf]; omega
      · have ht : ((c.toNat : Int) == 92) = false := by simp; omega
        have h92 : c ≠ 92 := byte_ne (n := 92) (by omega) c1
        clear c1
        by_cases c4 : c.toNat = 39
        · have ht4 : ((c.toNat : Int) == 39) = true := by simp; omega
          have HN := Lib.hid (HT.out i (scan_hit0 HSC.out hlt (by rw [HC.out, byte_eq c4]; rfl) (by decide)))
          clear c4 h92
          obtain ⟨S, hS⟩ : ∃ S : ByteArray, s.extract 1 i = S := ⟨_, rfl⟩
          have hSl : S.data.toList = (s.data.toList.take i).tail := by rw [← hS, ext_list]
          have hSz : S.size ≤ 1000000000 := by rw [Lib.size_eq, hSl]; simp; omega
          have hun := unesc_any S w1 (hE.below hb1) hSz
          rw [hSl] at hun
          have HU := Lib.hid hun
          clear hun hSl
          go_wp2_with fail
          refine (HU.out).mono ?_
          rintro e w' ⟨rfl, hb⟩
          go_wp2_with fail
          go_ret3
          exact ⟨ret_sib (m := i + 1) HN.out (by simp), below_step hb1 hb⟩
        · have ht4 : ((c.toNat : Int) == 39) = false := by simp; omega
          have hce : c ≠ 39 := byte_ne (n := 39) (by omega) c4
          clear c4
          by_cases c2 : c.toNat = 40
          · have ht2 : ((c.toNat : Int) == 40) = true := by simp; omega
            have hzC : ∀ W, Calls Tryd.prog 49 #[.string s, .int .i64 (i : Int)] W fun e w' => e = .returned (.bool (decide (s.data.toList[i]? = some 0))) ∧ w' = W := fun W => zero_any s _ i rfl W hz
            have hgi : s.data.toList[i]? = some c := by rw [← HC.out]; exact Lib.data_getElem? s i hlt
            rw [hgi] at hzC
            have hbadc : bad c = false := by rw [HB.out]; simp
            by_cases c5 : c = 0
            · rw [decide_eq_true (congrArg some c5)] at hzC
              have HZ := Lib.hid hzC
              have HN := Lib.hid (HM.out (scan_bad0 HSC.out hlt HC.out h92 hce (Or.inr c5)))
              clear hzC hgi hbadc c5 h92 hce
              go_wp2_with fail
              refine (HZ.out _).mono ?_
              rintro e w' ⟨rfl, rfl⟩
              go_wp2_with fail
              go_ret3
              exact ⟨ret_sib HN.out rfl, hb1⟩
            · rw [decide_eq_false (fun h => c5 (Option.some.inj h))] at hzC
              have HZ := Lib.hid hzC
              have HN := Lib.hid (scan_next HSC.out hlt HC.out h92 hce (by rw [hbadc]; simp [c5]))
              clear hzC hgi hbadc c5 h92 hce
              go_wp2_with fail
              refine (HZ.out _).mono ?_
              rintro e w' ⟨rfl, rfl⟩
              go_wp2_with fail
              go_round
              case rel => exact ⟨i + 1, by omega, by omega, by go_num, HN.out⟩
              case measure => simp [intOf]; omega
          · have ht2 : ((c.toNat : Int) == 40) = false := by simp; omega
            have hc40 : c ≠ 40 := byte_ne (n := 40) (by omega) c2
            clear c2
            have hzC : ∀ W, Calls Tryd.prog 49 #[.string s, .int .i64 (i : Int)] W fun e w' => e = .returned (.bool (decide (s.data.toList[i]? = some 0))) ∧ w' = W := fun W => zero_any s _ i rfl W hz
            have hgi : s.data.toList[i]? = some c := by rw [← HC.out]; exact Lib.data_getElem? s i hlt
            rw [hgi] at hzC
            have hbadc : bad c = false := by rw [HB.out]; simp [hc40]
            by_cases c5 : c = 0
            · rw [decide_eq_true (congrArg some c5)] at hzC
              have HZ := Lib.hid hzC
              have HN := Lib.hid (HM.out (scan_bad0 HSC.out hlt HC.out h92 hce (Or.inr c5)))
              clear hzC hgi hbadc c5 h92 hce
              go_wp2_with fail
              refine (HZ.out _).mono ?_
              rintro e w' ⟨rfl, rfl⟩
              go_wp2_with fail
              go_ret3
              exact ⟨ret_sib HN.out rfl, hb1⟩
            · rw [decide_eq_false (fun h => c5 (Option.some.inj h))] at hzC
              have HZ := Lib.hid hzC
              have HN := Lib.hid (scan_next HSC.out hlt HC.out h92 hce (by rw [hbadc]; simp [c5]))
              clear hzC hgi hbadc c5 h92 hce
              go_wp2_with fail
              refine (HZ.out _).mono ?_
              rintro e w' ⟨rfl, rfl⟩
              go_wp2_with fail
              go_round
              case rel => exact ⟨i + 1, by omega, by omega, by go_num, HN.out⟩
              case measure => simp [intOf]; omega
    · have HN := Lib.hid (HM.out (scan_end0 hsc hlt))
      clear hsc
      go_wp2_with fail
      go_ret3
      exact ⟨ret_sib HN.out rfl, hb1⟩

set_option maxHeartbeats 4000000 in
theorem title_40 (s : ByteArray) (r : List UInt8) (w : World) (hE : Env w) (hz : s.size ≤ 1000000000) (hs : s.data.toList = 40 :: r) :
    Calls Tryd.prog 26 #[.string s] w fun e w' => e = .returned (.tuple #[.string ⟨(title s.data.toList).1.toArray⟩, .int .i64 (title s.data.toList).2.1, .bool (title s.data.toList).2.2]) ∧ Below w.heap.size w w' := by
  obtain ⟨bad, hbad⟩ : ∃ b, b = (fun d : UInt8 => d == 40 && endOf 40 == 41) := ⟨_, rfl⟩
  obtain ⟨R, hR⟩ : ∃ R, scanTo 41 bad r.length r 1 = R := ⟨_, rfl⟩
  have hlen : s.size = r.length + 1 := by rw [Lib.size_eq, hs]; rfl
  have h1 : ScanTo s 41 bad 1 R := ⟨_, by rw [hs]; exact hR, by omega⟩
  have hq : IsQuote 40 := by unfold IsQuote; decide
  have HT := Lib.hid (show ∀ i, R = some i → title s.data.toList = (unesc (s.data.toList.take i).tail, i + 1, true) from fun i h => by rw [hs]; exact title_hit hq (by rw [← hbad]; exact hR.trans h))
  have HM := Lib.hid (show R = none → title s.data.toList = ([], 0, false) from fun h => by rw [hs]; exact title_miss hq (by rw [← hbad]; exact hR.trans h))
  have h0z : 0 < s.size := by omega
  have h0 : s[0] = 40 := by
    have := Lib.data_getElem? s 0 h0z
    rw [hs] at this
    simp at this
    exact this.symm
  have hne : s.toList.isEmpty = false := by rw [Lib.toList_data, hs]; rfl
  have hne2 : (!s.toList.isEmpty) = true := by rw [hne]; rfl
  have hb0 : ∀ x : UInt8, bad x = (x == 40 && true) := fun x => by rw [hbad]; rfl
  have HB := Lib.hid hb0
  have hcr : ∀ W, Calls Tryd.prog 48 #[.string ⟨#[34, 39, 40]⟩, .int .i32 40] W fun e w' => e = .returned (.bool true) ∧ Below W.heap.size W w' := fun W => containsRune_nat ⟨#[34, 39, 40]⟩ 40 W (by unfold AllAscii; decide) (by decide) (by omega)
  have HCR := Lib.hid hcr
  clear hR hs hbad hb0 hcr hq
  have hsz0 : (0 : Int) < (s.size : Int) := by omega
  go_enter Tryd.func26, Tryd.ntmps26
  go_wp2_with fail
  refine (HCR.out _).mono ?_
  rintro e w1 ⟨rfl, hb1⟩
  clear hne hne2
  go_wp2_with fail
  go_loop [6] (fun u6 => ∃ i : Nat, 1 ≤ i ∧ i ≤ 1000000002 ∧ u6 = .int .i64 i ∧ ScanTo s 41 bad i R) (fun u6 => s.size - (intOf u6).toNat)
  case atStart => exact ⟨1, by omega, by omega, rfl, h1⟩
  case round =>
    obtain ⟨i, hi1, hi2, rfl, hsc⟩ := hrel
    clear h1 h0
    by_cases hlt : i < s.size
    · obtain ⟨c, hc⟩ : ∃ c, s[i] = c := ⟨_, rfl⟩
      have HSC := Lib.hid hsc
      have HC := Lib.hid hc
      clear hsc
      by_cases c1 : c.toNat = 92
      · have ht : ((c.toNat : Int) == 92) = true := by simp; omega
        have hc92 : c = 92 := byte_eq c1
        have hzC : ∀ W, Calls Tryd.prog 49 #[.string s, .int .i64 ((i : Int) + 1)] W fun e w' => e = .returned (.bool (decide (s.data.toList[i + 1]? = some 0))) ∧ w' = W := fun W => zero_any s _ (i + 1) (by omega) W hz
        by_cases hzz : s.data.toList[i + 1]? = some 0
        · rw [decide_eq_true hzz] at hzC
          have HZ := Lib.hid hzC
          have HN := Lib.hid (HM.out (scan_slash0 HSC.out hlt (by rw [HC.out, hc92]) hzz))
          clear hzC hzz c1 hc92
          go_wp2_with fail
          refine (HZ.out _).mono ?_
          rintro e w' ⟨rfl, rfl⟩
          go_wp2_with fail
          go_ret3
          exact ⟨ret_sib HN.out rfl, hb1⟩
        · rw [decide_eq_false hzz] at hzC
          have HZ := Lib.hid hzC
          have HN := Lib.hid (scan_slash1 HSC.out hlt (by rw [HC.out, hc92]) hzz)
          clear hzC hzz c1 hc92
          go_wp2_with fail
          refine (HZ.out _).mono ?_
          rintro e w' ⟨rfl, rfl⟩
          go_wp2_with fail
          go_round
          case rel => exact ⟨i + 2, by omega, by omega, by go_num, HN.out⟩
          case measure => simp [intOf]; omega
      · have ht : ((c.toNat : Int) == 92) = false := by simp; omega
        have h92 : c ≠ 92 := byte_ne (n := 92) (by omega) c1
        clear c1
        by_cases c4 : c.toNat = 41
        · have ht4 : ((c.toNat : Int) == 41) = true := by simp; omega
          have HN := Lib.hid (HT.out i (scan_hit0 HSC.out hlt (by rw [HC.out, byte_eq c4]; rfl) (by decide)))
          clear c4 h92
          obtain ⟨S, hS⟩ : ∃ S : ByteArray, s.extract 1 i = S := ⟨_, rfl⟩
          have hSl : S.data.toList = (s.data.toList.take i).tail := by rw [← hS, ext_list]
          have hSz : S.size ≤ 1000000000 := by rw [Lib.size_eq, hSl]; simp; omega
          have hun := unesc_any S w1 (hE.below hb1) hSz
          rw [hSl] at hun
          have HU := Lib.hid hun
          clear hun hSl
          go_wp2_with fail
          refine (HU.out).mono ?_
          rintro e w' ⟨rfl, hb⟩
          go_wp2_with fail
          go_ret3
          exact ⟨ret_sib (m := i + 1) HN.out (by simp), below_step hb1 hb⟩
        · have ht4 : ((c.toNat : Int) == 41) = false := by simp; omega
          have hce : c ≠ 41 := byte_ne (n := 41) (by omega) c4
          clear c4
          by_cases c2 : c.toNat = 40
          · have ht2 : ((c.toNat : Int) == 40) = true := by simp; omega
            have HN := Lib.hid (HM.out (scan_bad0 HSC.out hlt HC.out h92 hce (Or.inl (by rw [HB.out, byte_eq c2]; rfl))))
            clear c2 h92 hce
            go_wp2_with fail
            go_ret3
            exact ⟨ret_sib HN.out rfl, hb1⟩
          · have ht2 : ((c.toNat : Int) == 40) = false := by simp; omega
            have hc40 : c ≠ 40 := byte_ne (n := 40) (by omega) c2
            clear c2
            have hzC : ∀ W, Calls Tryd.prog 49 #[.string s, .int .i64 (i : Int)] W fun e w' => e = .returned (.bool (decide (s.data.toList[i]? = some 0))) ∧ w' = W := fun W => zero_any s _ i rfl W hz
            have hgi : s.data.toList[i]? = some c := by rw [← HC.out]; exact Lib.data_getElem? s i hlt
            rw [hgi] at hzC
            have hbadc : bad c = false := by rw [HB.out]; simp [hc40]
            by_cases c5 : c = 0
            · rw [decide_eq_true (congrArg some c5)] at hzC
              have HZ := Lib.hid hzC
              have HN := Lib.hid (HM.out (scan_bad0 HSC.out hlt HC.out h92 hce (Or.inr c5)))
              clear hzC hgi hbadc c5 h92 hce
              go_wp2_with fail
              refine (HZ.out _).mono ?_
              rintro e w' ⟨rfl, rfl⟩
              go_wp2_with fail
              go_ret3
              exact ⟨ret_sib HN.out rfl, hb1⟩
            · rw [decide_eq_false (fun h => c5 (Option.some.inj h))] at hzC
              have HZ := Lib.hid hzC
              have HN := Lib.hid (scan_next HSC.out hlt HC.out h92 hce (by rw [hbadc]; simp [c5]))
              clear hzC hgi hbadc c5 h92 hce
              go_wp2_with fail
              refine (HZ.out _).mono ?_
              rintro e w' ⟨rfl, rfl⟩
              go_wp2_with fail
              go_round
              case rel => exact ⟨i + 1, by omega, by omega, by go_num, HN.out⟩
              case measure => simp [intOf]; omega
    · have HN := Lib.hid (HM.out (scan_end0 hsc hlt))
      clear hsc
      go_wp2_with fail
      go_ret3
      exact ⟨ret_sib HN.out rfl, hb1⟩

set_option maxHeartbeats 2000000 in
theorem title_any (s : ByteArray) (w : World) (hE : Env w) (hz : s.size ≤ 1000000000) :
    Calls Tryd.prog 26 #[.string s] w fun e w' => e = .returned (.tuple #[.string ⟨(title s.data.toList).1.toArray⟩, .int .i64 (title s.data.toList).2.1, .bool (title s.data.toList).2.2]) ∧ Below w.heap.size w w' := by
  by_cases h0z : 0 < s.size
  · have hda := drop_at s 0 h0z
    rw [List.drop_zero] at hda
    obtain ⟨c, hc⟩ : ∃ c, s[0] = c := ⟨_, rfl⟩
    rw [hc] at hda
    obtain ⟨r, hr⟩ : ∃ r, s.data.toList.drop (0 + 1) = r := ⟨_, rfl⟩
    rw [hr] at hda
    by_cases hq : IsQuote c
    · rcases hq with rfl | rfl | rfl
      · exact title_34 s r w hE hz hda
      · exact title_39 s r w hE hz hda
      · exact title_40 s r w hE hz hda
    · have HN := Lib.hid (show title s.data.toList = ([], 0, false) by rw [hda]; exact title_other hq)
      obtain ⟨cb0, cb1⟩ := byte_lt c
      have hcr := fun W => containsRune_nat ⟨#[34, 39, 40]⟩ c.toNat W (by unfold AllAscii; decide) (by decide) (by have := c.toNat_lt; omega)
      have hany : (ByteArray.mk #[34, 39, 40]).data.toList.any (fun b => b.toNat == c.toNat) = false := by
        rw [List.any_eq_false]
        intro b hb
        simp only [beq_iff_eq, Bool.not_eq_true, beq_eq_false_iff_ne]
        intro e
        have hbc : b = c := UInt8.toNat.inj e
        subst hbc
        apply hq
        simp at hb
        exact hb
      rw [hany] at hcr
      have HCR := Lib.hid hcr
      have hne : s.toList.isEmpty = false := by rw [Lib.toList_data, hda]; rfl
      have hne2 : (!s.toList.isEmpty) = true := by rw [hne]; rfl
      have hsz0 : (0 : Int) < (s.size : Int) := by omega
      clear hda hr hcr hany hq
      go_enter Tryd.func26, Tryd.ntmps26
      go_wp2_with fail
      refine (HCR.out _).mono ?_
      rintro e w1 ⟨rfl, hb1⟩
      go_wp2_with fail
      go_ret3
      exact ⟨ret_sib HN.out rfl, hb1⟩
  · have hs0 : s.data.toList = [] := by
      rw [← List.length_eq_zero_iff, ← Lib.size_eq]; omega
    have HN := Lib.hid (show title s.data.toList = ([], 0, false) by rw [hs0]; rfl)
    have hne : s.toList.isEmpty = true := by rw [Lib.toList_data, hs0]; rfl
    have hne2 : (!s.toList.isEmpty) = false := by rw [hne]; rfl
    clear hs0
    go_enter Tryd.func26, Tryd.ntmps26
    go_wp2_with fail
    go_ret3
    exact ⟨ret_sib HN.out rfl, Below.refl _ _⟩

end Go.Proofs.YtmllkffdejojbaaDoor
